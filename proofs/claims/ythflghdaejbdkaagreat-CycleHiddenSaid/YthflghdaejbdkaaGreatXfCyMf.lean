/- Lemmas of this claim. -/
import Derived.Test.YthflghdaejbdkaaGreatXfCyM
namespace Go.Proofs.YthflghdaejbdkaaGreat
open Go.RowKit Go.Maps
set_option maxHeartbeats 6400000
set_option maxRecDepth 100000
set_option linter.unusedVariables false
theorem infoIs : (Tryz.prog.info? 23).map (fun i => (i.zero, i.size, i.bytes)) = some (some (.slice none 0 0), 1, 24) := by kernel_rfl
theorem infoBs : (Tryz.prog.info? 50).map (fun i => (i.zero, i.size, i.bytes)) = some (some (.slice none 0 0), 1, 24) := by kernel_rfl
theorem infoKe : (Tryz.prog.info? 140).map (fun i => (i.zero, i.size, i.bytes)) = some (some (.agg #[.int .i64 0, .int .i64 0]), 2, 16) := by kernel_rfl
def ValA (T : Nat) (v : Value) (l : List Value) : Asn :=
  ⟨fun w S => w.ownsRow 0 T 1 v l.length l ∧ ∀ k, S k ↔ v.ownBlock = some k, fun h ho hd => by
    refine ⟨?_, h.2⟩
    refine ⟨h.1.1, ?_⟩
    rcases h.1.2 with h2 | ⟨g, cap, cur, hv, hb, hh, r⟩
    · exact .inl h2
    · exact .inr ⟨g, cap, cur, hv, hb, by rw [ho.block g (Array.getElem?_eq_some_iff.1 hh).1 (fun x => hd g x ((h.2 g).2 (by rw [hv]; rfl)))]; exact hh, r⟩, fun h hk => (World.ownsRow.lt h.1 _ ((h.2 _).1 hk)).2⟩
def keC (l : List (Int × Nat)) : List Value := l.flatMap (fun p => [.int .i64 p.1, .int .i64 (p.2 : Int)])
theorem keC_len (l : List (Int × Nat)) : (keC l).length = l.length * 2 := by
  induction l with
  | nil => rfl
  | cons p l ih =>
    unfold keC at ih ⊢
    rw [List.flatMap_cons, List.length_append, ih]
    show 2 + l.length * 2 = (l.length + 1) * 2
    omega
def KeA (v : Value) (l : List (Int × Nat)) : Asn :=
  ⟨fun w S => w.ownsRow 0 140 2 v l.length (keC l) ∧ ∀ k, S k ↔ v.ownBlock = some k, fun h ho hd => by
    refine ⟨?_, h.2⟩
    refine ⟨h.1.1, ?_⟩
    rcases h.1.2 with h2 | ⟨g, cap, cur, hv, hb, hh, r⟩
    · exact .inl h2
    · exact .inr ⟨g, cap, cur, hv, hb, by rw [ho.block g (Array.getElem?_eq_some_iff.1 hh).1 (fun x => hd g x ((h.2 g).2 (by rw [hv]; rfl)))]; exact hh, r⟩, fun h hk => (World.ownsRow.lt h.1 _ ((h.2 _).1 hk)).2⟩
theorem append_is1 {w : World} {ops : Array Oper} {rest : List Oper} {o : Oper} {a : Act} {Q : Exit → Act → World → Prop} (hgd : o.guard = none) (s x : Operand)
    (ho : o.op = .call { callee := .builtin .append, args := #[s, x], argTypes := #[65, 65] })
    (v : Value) (l : List Value) (hs : a.eval s = v) (hown : w.ownsRow 0 23 1 v l.length l)
    (b : Nat) (y : Value) (hy : y.oneCell' = true) (hx : a.eval x = .slice (some ⟨b, 0, none⟩) 1 1) (hnews : w.cell? ⟨b, 0, none⟩ = some y) (hbytes : l.length ≤ 1000000)
    (h : ∀ v' w', w'.ownsRow 0 23 1 v' (l ++ [y]).length (l ++ [y]) → Only v.ownBlock.toList w w' → (v'.ownBlock = v.ownBlock ∨ v'.ownBlock = some w.heap.size) → wpList Tryz.prog ops Q rest (a.put o.dst v') w') : wpList Tryz.prog ops Q (o :: rest) a w := by
  obtain ⟨i0, hi, hz0, hz1, hz2⟩ := info_parts infoIs
  refine wpList_append_own2 hgd s x 65 ho 0 23 i0 _ 1 24 Tryz.underlying65 hi hz0 hz1 hz2 rfl (by decide) v l.length _ hs hown ⟨b, 0, none⟩ 1 1 [y] hx rfl
    (fun j u hu => ?_) (fun u hu => ?_) (by simp only [maxLen]; omega) (by omega) (Nat.zero_le _) (fun v' w' h1 h2 h3 h5 => h v' w' ?_ ?_ h5)
  · cases j with
    | zero => simp at hu; subst hu; exact hnews
    | succ j => simp at hu
  · simp at hu; subst hu; exact hy
  · rw [List.length_append]; exact h1
  · exact (Only.refl _ _).grown h2 (fun k hk => .inl (by rw [hk]; simp))
theorem append_bs1 {w : World} {ops : Array Oper} {rest : List Oper} {o : Oper} {a : Act} {Q : Exit → Act → World → Prop} (hgd : o.guard = none) (s x : Operand)
    (ho : o.op = .call { callee := .builtin .append, args := #[s, x], argTypes := #[66, 66] })
    (v : Value) (l : List Value) (hs : a.eval s = v) (hown : w.ownsRow 0 50 1 v l.length l)
    (b : Nat) (y : Value) (hy : y.oneCell' = true) (hx : a.eval x = .slice (some ⟨b, 0, none⟩) 1 1) (hnews : w.cell? ⟨b, 0, none⟩ = some y) (hbytes : l.length ≤ 1000000)
    (h : ∀ v' w', w'.ownsRow 0 50 1 v' (l ++ [y]).length (l ++ [y]) → Only v.ownBlock.toList w w' → (v'.ownBlock = v.ownBlock ∨ v'.ownBlock = some w.heap.size) → wpList Tryz.prog ops Q rest (a.put o.dst v') w') : wpList Tryz.prog ops Q (o :: rest) a w := by
  obtain ⟨i0, hi, hz0, hz1, hz2⟩ := info_parts infoBs
  refine wpList_append_own2 hgd s x 66 ho 0 50 i0 _ 1 24 Tryz.underlying66 hi hz0 hz1 hz2 rfl (by decide) v l.length _ hs hown ⟨b, 0, none⟩ 1 1 [y] hx rfl
    (fun j u hu => ?_) (fun u hu => ?_) (by simp only [maxLen]; omega) (by omega) (Nat.zero_le _) (fun v' w' h1 h2 h3 h5 => h v' w' ?_ ?_ h5)
  · cases j with
    | zero => simp at hu; subst hu; exact hnews
    | succ j => simp at hu
  · simp at hu; subst hu; exact hy
  · rw [List.length_append]; exact h1
  · exact (Only.refl _ _).grown h2 (fun k hk => .inl (by rw [hk]; simp))
theorem append_ke {w : World} {ops : Array Oper} {rest : List Oper} {o : Oper} {a : Act} {Q : Exit → Act → World → Prop} (hgd : o.guard = none) (s x : Operand)
    (ho : o.op = .call { callee := .builtin .append, args := #[s, x], argTypes := #[67, 67] })
    (v : Value) (l : List (Int × Nat)) (hs : a.eval s = v) (hown : w.ownsRow 0 140 2 v l.length (keC l))
    (ad : Addr) (m c : Nat) (news : List (Int × Nat)) (hm : news.length = m) (hx : a.eval x = .slice (some ad) m c) (hnews : ∀ j u, (keC news)[j]? = some u → w.cell? (ad.add j) = some u) (hbytes : l.length + m ≤ 1000000)
    (h : ∀ v' w', w'.ownsRow 0 140 2 v' (l ++ news).length (keC (l ++ news)) → Only v.ownBlock.toList w w' → (v'.ownBlock = v.ownBlock ∨ v'.ownBlock = some w.heap.size) → wpList Tryz.prog ops Q rest (a.put o.dst v') w') : wpList Tryz.prog ops Q (o :: rest) a w := by
  obtain ⟨i0, hi, hz0, hz1, hz2⟩ := info_parts infoKe
  refine wpList_append_own2 hgd s x 67 ho 0 140 i0 _ 2 16 Tryz.underlying67 hi hz0 hz1 hz2 rfl (by decide) v l.length _ hs hown ad m c (keC news) hx (by rw [keC_len, hm])
    hnews (fun u hu => ?_) (by simp only [maxLen]; omega) (by omega) (Nat.zero_le _) (fun v' w' h1 h2 h3 h5 => h v' w' ?_ ?_ h5)
  · unfold keC at hu
    rw [List.mem_flatMap] at hu
    obtain ⟨p, _, hu⟩ := hu
    simp at hu
    rcases hu with rfl | rfl <;> rfl
  · have : keC (l ++ news) = keC l ++ keC news := by unfold keC; rw [List.flatMap_append]
    rw [List.length_append, hm, this]
    exact h1
  · exact (Only.refl _ _).grown h2 (fun k hk => .inl (by rw [hk]; simp))
end Go.Proofs.YthflghdaejbdkaaGreat
namespace Go.Proofs.YthflghdaejbdkaaGreat
open Go.RowKit Go.Maps
set_option maxHeartbeats 6400000
set_option maxRecDepth 100000
set_option linter.unusedVariables false
def SlA (ss : List Value) (ls : List (List Int)) : Asn := Some1 (fun _ : Unit => ss.length = ls.length) (fun _ => List.zipWith IntsA ss ls)
def RfA (rs : List Value) (ls : List (List Bool)) : Asn := Some1 (fun _ : Unit => rs.length = ls.length) (fun _ => List.zipWith BlsA rs ls)
structure MdX where
  sv : Value
  rv : Value
  kv : Value
  ss : List Value
  rs : List Value
def Mdl (mb : Nat) (d : Md) (x : MdX) : List Asn :=
  [RowA mb 69 [x.sv, x.rv, x.kv, .bool d.lost], ValA 23 x.sv x.ss, ValA 50 x.rv x.rs, KeA x.kv d.keeps, SlA x.ss d.slots, RfA x.rs d.refs]
def MdA (mb : Nat) (d : Md) : Asn := Some1 (fun _ : MdX => True) (Mdl mb d)
section
variable {w0 w : World} {l : List Asn} {mb i : Nat} {d d' : Md} {x : MdX}
theorem MdA.open (h : Fam w0 w l) (hi : l[i]? = some (MdA mb d)) : ∃ x : MdX, Fam w0 w (Mdl mb d x ++ l.set i NoA) := by
  obtain ⟨x, _, h2⟩ := h.open1 hi
  exact ⟨x, h2⟩
theorem MdA.close (x : MdX) (h : Fam w0 w (Mdl mb d x ++ l.set i NoA)) (hi : i < l.length) : Fam w0 w (l.set i (MdA mb d)) := by
  have := h.close1 (P := fun _ : MdX => True) (F := Mdl mb d) x trivial rfl (get_NoA hi)
  rwa [set_NoA] at this
theorem SlA.open (h : Fam w0 w l) {ss : List Value} {ls : List (List Int)} (hi : l[i]? = some (SlA ss ls)) : ss.length = ls.length ∧ Fam w0 w (List.zipWith IntsA ss ls ++ l.set i NoA) := by
  obtain ⟨_, h1, h2⟩ := h.open1 hi
  exact ⟨h1, h2⟩
theorem SlA.close {ss : List Value} {ls : List (List Int)} (h1 : ss.length = ls.length) (h : Fam w0 w (List.zipWith IntsA ss ls ++ l.set i NoA)) (hi : i < l.length) : Fam w0 w (l.set i (SlA ss ls)) := by
  have := h.close1 (P := fun _ : Unit => ss.length = ls.length) (F := fun _ => List.zipWith IntsA ss ls) () h1 rfl (get_NoA hi)
  rwa [set_NoA] at this
theorem RfA.open (h : Fam w0 w l) {rs : List Value} {ls : List (List Bool)} (hi : l[i]? = some (RfA rs ls)) : rs.length = ls.length ∧ Fam w0 w (List.zipWith BlsA rs ls ++ l.set i NoA) := by
  obtain ⟨_, h1, h2⟩ := h.open1 hi
  exact ⟨h1, h2⟩
theorem RfA.close {rs : List Value} {ls : List (List Bool)} (h1 : rs.length = ls.length) (h : Fam w0 w (List.zipWith BlsA rs ls ++ l.set i NoA)) (hi : i < l.length) : Fam w0 w (l.set i (RfA rs ls)) := by
  have := h.close1 (P := fun _ : Unit => rs.length = ls.length) (F := fun _ => List.zipWith BlsA rs ls) () h1 rfl (get_NoA hi)
  rwa [set_NoA] at this
theorem Mdl.cells (h : Fam w0 w (Mdl mb d x ++ l)) : w.cell? ⟨mb, 0, none⟩ = some x.sv ∧ w.cell? ⟨mb, 1, none⟩ = some x.rv ∧ w.cell? ⟨mb, 2, none⟩ = some x.kv ∧ w.cell? ⟨mb, 3, none⟩ = some (.bool d.lost) ∧ ∀ k, w.frozen? ⟨mb, k, none⟩ = false := by
  have r := h.row 0 rfl
  exact ⟨r.cell 0 rfl, r.cell 1 rfl, r.cell 2 rfl, r.cell 3 rfl, fun k => r.free k⟩
theorem Mdl.slots (h : Fam w0 w (Mdl mb d x ++ l)) {j : Nat} (hj : j < d.slots.length) : ∃ v, x.ss[j]? = some v ∧ Ints w 0 v (d.sl j) := by
  obtain ⟨h1, h2⟩ := SlA.open h (i := 4) (ss := x.ss) (ls := d.slots) rfl
  have e1 : x.ss[j]? = some (x.ss[j]'(by omega)) := List.getElem?_eq_getElem (by omega)
  have e2 : d.slots[j]? = some (d.slots[j]) := List.getElem?_eq_getElem hj
  have e3 : d.sl j = d.slots[j] := by unfold Md.sl; rw [e2]; rfl
  refine ⟨_, e1, ?_⟩
  rw [e3]
  refine h2.ints j ?_
  rw [List.getElem?_append_left (by rw [List.length_zipWith]; omega), List.getElem?_zipWith, e1, e2]
theorem Mdl.flags (h : Fam w0 w (Mdl mb d x ++ l)) {j : Nat} (hj : j < d.refs.length) : ∃ v, x.rs[j]? = some v ∧ Bls w 0 v (d.rf j) := by
  obtain ⟨h1, h2⟩ := RfA.open h (i := 5) (rs := x.rs) (ls := d.refs) rfl
  have e1 : x.rs[j]? = some (x.rs[j]'(by omega)) := List.getElem?_eq_getElem (by omega)
  have e2 : d.refs[j]? = some (d.refs[j]) := List.getElem?_eq_getElem hj
  have e3 : d.rf j = d.refs[j] := by unfold Md.rf; rw [e2]; rfl
  refine ⟨_, e1, ?_⟩
  rw [e3]
  refine h2.bls j ?_
  rw [List.getElem?_append_left (by rw [List.length_zipWith]; omega), List.getElem?_zipWith, e1, e2]
end
end Go.Proofs.YthflghdaejbdkaaGreat
namespace Go.Proofs.YthflghdaejbdkaaGreat
open Go.RowKit Go.Maps
set_option maxHeartbeats 6400000
set_option maxRecDepth 100000
set_option linter.unusedVariables false
section
variable {w w' : World} {T n : Nat} {v : Value} {l : List (Int × Nat)} {vl : List Value}
theorem orow_len {s : Nat} (h : w.ownsRow 0 T s v n vl) : ∃ a cap, v = .slice a n cap := by
  rcases h.2 with ⟨h1, h2⟩ | ⟨g, cap, cur, hv, _⟩
  · exact ⟨none, 0, by rw [h1, h2]⟩
  · exact ⟨_, cap, hv⟩
theorem orow_form {s : Nat} (h : w.ownsRow 0 T s v n vl) (hn : n ≠ 0) : ∃ g cap, v = .slice (some ⟨g, 0, none⟩) n cap ∧ n ≤ cap := by
  rcases h.2 with ⟨h1, h2⟩ | ⟨g, cap, cur, hv, hg, hh, hc, _⟩
  · exact absurd h2 hn
  · exact ⟨g, cap, hv, hc⟩
theorem keC_at (l : List (Int × Nat)) {i : Nat} {p : Int × Nat} (hp : l[i]? = some p) : (keC l)[i * 2]? = some (.int .i64 p.1) ∧ (keC l)[i * 2 + 1]? = some (.int .i64 (p.2 : Int)) := by
  induction l generalizing i with
  | nil => simp at hp
  | cons q l ih =>
    have e : keC (q :: l) = .int .i64 q.1 :: .int .i64 (q.2 : Int) :: keC l := rfl
    cases i with
    | zero =>
      have : q = p := by simpa using hp
      subst this
      exact ⟨rfl, rfl⟩
    | succ i =>
      have h2 := ih (i := i) (by simpa using hp)
      rw [e, show (i + 1) * 2 = i * 2 + 1 + 1 by omega]
      exact h2
theorem Ke.at (h : w.ownsRow 0 T 2 v l.length (keC l)) {i : Nat} {p : Int × Nat} (hp : l[i]? = some p) : ∃ g cap, v = .slice (some ⟨g, 0, none⟩) l.length cap ∧ l.length ≤ cap ∧ w.cell? ⟨g, i * 2, none⟩ = some (.int .i64 p.1) ∧ w.cell? ⟨g, i * 2 + 1, none⟩ = some (.int .i64 (p.2 : Int)) ∧ ∀ k, w.frozen? ⟨g, k, none⟩ = false := by
  have hi := (List.getElem?_eq_some_iff.1 hp).1
  obtain ⟨g, cap, rfl, hc⟩ := orow_form h (by omega)
  have h2 := keC_at l hp
  refine ⟨g, cap, rfl, hc, ?_, ?_, fun k => World.ownsRow.frozenAt h k⟩
  · rw [World.ownsRow.cellAt h _ (by omega)]; exact h2.1
  · rw [World.ownsRow.cellAt h _ (by omega)]; exact h2.2
theorem Va.at (h : w.ownsRow 0 T 1 v vl.length vl) {i : Nat} {p : Value} (hp : vl[i]? = some p) : ∃ g cap, v = .slice (some ⟨g, 0, none⟩) vl.length cap ∧ vl.length ≤ cap ∧ w.cell? ⟨g, i, none⟩ = some p ∧ ∀ k, w.frozen? ⟨g, k, none⟩ = false := by
  have hi := (List.getElem?_eq_some_iff.1 hp).1
  obtain ⟨g, cap, rfl, hc⟩ := orow_form h (by omega)
  refine ⟨g, cap, rfl, hc, ?_, fun k => World.ownsRow.frozenAt h k⟩
  rw [World.ownsRow.cellAt h _ (by omega)]; exact hp
end
section
variable {w0 w : World} {l : List Asn} {mb i : Nat} {d : Md} {x : MdX}
theorem Mdl.ke (h : Fam w0 w (Mdl mb d x ++ l)) : w.ownsRow 0 140 2 x.kv d.keeps.length (keC d.keeps) := by
  obtain ⟨S, h1, _⟩ := h.get 3 rfl
  exact h1.1
theorem Mdl.vs (h : Fam w0 w (Mdl mb d x ++ l)) : w.ownsRow 0 23 1 x.sv x.ss.length x.ss := by
  obtain ⟨S, h1, _⟩ := h.get 1 rfl
  exact h1.1
theorem Mdl.vr (h : Fam w0 w (Mdl mb d x ++ l)) : w.ownsRow 0 50 1 x.rv x.rs.length x.rs := by
  obtain ⟨S, h1, _⟩ := h.get 2 rfl
  exact h1.1
theorem held_any (w : World) (hf : Fam w0 w (Mdl mb d x ++ l)) (hl : d.keeps.length ≤ 1000) : Calls Tryz.prog 87 #[.pointer (some ⟨mb, 0, none⟩)] w (RetL w d.held) := by
  refine calls_abs fun R hR => ?_
  obtain ⟨ka, kc, hk⟩ := orow_len (Mdl.ke hf)
  have HF := Lib.hid hf
  have HK := Lib.hid hk
  obtain ⟨n, hn⟩ : ∃ n, n = d.keeps.length := ⟨_, rfl⟩
  rw [← hn] at HK hl
  have HN := Lib.hid hn
  have HHL : Hid (d.held.length = n) := by show d.held.length = n; unfold Md.held; rw [List.length_map, hn]
  clear hf hk hn
  go_enter Tryz.func87, Tryz.ntmps87
  go_wp2_with fail
  go_loopw [3, 4] (fun vv iv wr => ∃ k : Nat, k ≤ n ∧ iv = .int .i64 k ∧ Ints wr w.heap.size vv (d.held.take k) ∧ Only [] w wr) (fun _ iv _ => n - (intOf iv).toNat)
  case atStart => exact ⟨0, by omega, rfl, Ints.nil _ _, Only.refl _ _⟩
  case round =>
    obtain ⟨k, hk, rfl, hi, ho⟩ := hrel
    have HI := Lib.hid hi
    have HO := Lib.hid ho
    have hf := HF.out.only0 ho
    have c2 := (Mdl.cells hf).2.2.1
    rw [HK.out] at c2
    obtain ⟨va, vc, hvv⟩ := hi.len
    rw [List.length_take, HHL.out, Nat.min_eq_left hk] at hvv
    subst hvv
    by_cases hlt : k < n
    · have hk0 : (0 : Int) ≤ k := by omega
      have hlt1 : (k : Int) < n := by omega
      obtain ⟨p, hp⟩ : ∃ p, d.keeps[k]? = some p := ⟨_, List.getElem?_eq_getElem (by rw [← HN.out]; exact hlt)⟩
      obtain ⟨g, cap, hv, _, d0, _, _⟩ := Ke.at (Mdl.ke hf) hp
      rw [HK.out, ← HN.out] at hv
      cases hv
      have HNX : Hid (d.held.take (k + 1) = d.held.take k ++ [p.1]) := by
        show _ = _
        rw [List.take_add_one]
        congr 1
        unfold Md.held
        rw [List.getElem?_map, hp]
        rfl
      clear hi ho hf hp
      generalize p.1 = y at *
      go_wp2_with (at_builtin; refine append_int1 rfl _ _ rfl w.heap.size _ _ rfl (HI.out.alloc _) wr.heap.size y rfl ?c1 ?c2 ?c3 ?c4)
      case c1 => exact (Row.new wr _ [_]).cell 0 rfl
      case c2 => rw [List.length_take]; omega
      case c3 => have := HO.out.size; simp; omega
      case c4 =>
        intro v' w3 hi2 ho2 hb2
        have HO4 : Hid (Only [] w w3) := (HO.out.alloc _).trans ho2 (fun z hz => .inr (HI.out.own z (own_mem hz)).1)
        have HI4 : Hid (Ints w3 w.heap.size v' (d.held.take (k + 1))) := by
          show Ints _ _ _ _
          rw [HNX.out]
          exact hi2
        clear hi2 ho2 hb2 HNX c2 d0
        go_wp2_with fail
        exact ⟨⟨k + 1, by omega, by go_num, HI4.out, HO4.out⟩, by simp [intOf]; omega⟩
    · obtain rfl : k = n := by omega
      have HE : Hid (Ints wr w.heap.size (.slice va k vc) d.held) := by
        have h1 := HI.out
        rw [List.take_of_length_le (by rw [HHL.out]; exact Nat.le_refl _)] at h1
        exact h1
      clear hi ho hf
      go_wp2_with fail
      exact hR.out _ _ ⟨_, rfl, HE.out, HO.out⟩
end
end Go.Proofs.YthflghdaejbdkaaGreat
