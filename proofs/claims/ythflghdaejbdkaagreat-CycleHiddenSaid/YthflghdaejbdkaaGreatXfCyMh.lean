/- Lemmas of this claim. -/
import Derived.Test.YthflghdaejbdkaaGreatXfCyMf
import Derived.Deep.AppendLies
namespace Go.Proofs.YthflghdaejbdkaaGreat
open Go.RowKit Go.Maps
set_option maxHeartbeats 6400000
set_option maxRecDepth 100000
set_option linter.unusedVariables false
section
variable {w0 w w' : World} {l : List Asn} {i : Nat}
theorem Fam.turnVal (h : Fam w0 w l) (i : Nat) {T : Nat} {v v' : Value} {s s' : List Value} (hi : l[i]? = some (ValA T v s)) (hn : w'.ownsRow 0 T 1 v' s'.length s') (ho : Only v.ownBlock.toList w w') (hb : v'.ownBlock = v.ownBlock ∨ v'.ownBlock = some w.heap.size) : Fam w0 w' (l.set i (ValA T v' s')) :=
  h.turn i hi fun S hS => ⟨fun k => v'.ownBlock = some k, ⟨hn, fun k => Iff.rfl⟩, fun k hk => by
    rcases hb with hb | hb
    · exact .inl ((hS.2 k).2 (by rw [← hb]; exact hk))
    · rw [hb] at hk; exact .inr (by rw [Option.some.inj hk]; exact Nat.le_refl _), ho.toP fun k hk => .inl ((hS.2 k).2 (by simpa using hk))⟩
theorem Fam.turnKe (h : Fam w0 w l) (i : Nat) {v v' : Value} {s s' : List (Int × Nat)} (hi : l[i]? = some (KeA v s)) (hn : w'.ownsRow 0 140 2 v' s'.length (keC s')) (ho : Only v.ownBlock.toList w w') (hb : v'.ownBlock = v.ownBlock ∨ v'.ownBlock = some w.heap.size) : Fam w0 w' (l.set i (KeA v' s')) :=
  h.turn i hi fun S hS => ⟨fun k => v'.ownBlock = some k, ⟨hn, fun k => Iff.rfl⟩, fun k hk => by
    rcases hb with hb | hb
    · exact .inl ((hS.2 k).2 (by rw [← hb]; exact hk))
    · rw [hb] at hk; exact .inr (by rw [Option.some.inj hk]; exact Nat.le_refl _), ho.toP fun k hk => .inl ((hS.2 k).2 (by simpa using hk))⟩
theorem Fam.mid {A B : List Asn} {z : Asn} (h : Fam w0 w (A ++ (B ++ [z]))) : Fam w0 w ((A ++ [z]) ++ B) := by
  refine h.selC (fun k => if k < A.length then k else if k = A.length then A.length + B.length else k - 1) (fun k Y hk => ?_) (fun j k hj hk hne => ?_)
  · have hk2 := (List.getElem?_eq_some_iff.1 hk).1
    simp only [List.length_append, List.length_singleton] at hk2
    rw [List.append_assoc] at hk
    by_cases h1 : k < A.length
    · simp only [h1, if_true]
      rw [List.getElem?_append_left h1] at hk ⊢
      exact hk
    · rw [List.getElem?_append_right (by omega)] at hk
      by_cases h2 : k = A.length
      · simp only [h2, Nat.lt_irrefl, if_false, if_true]
        rw [h2, Nat.sub_self] at hk
        rw [List.getElem?_append_right (by omega), show A.length + B.length - A.length = B.length by omega, List.getElem?_append_right (Nat.le_refl _), Nat.sub_self]
        exact hk
      · simp only [h1, h2, if_false]
        rw [List.getElem?_append_right (by omega), List.getElem?_append_left (by omega)]
        rw [List.getElem?_append_right (by simp; omega)] at hk
        rw [← hk]
        congr 1
        simp
        omega
  · simp only [List.length_append, List.length_singleton] at hj hk
    intro e
    split at e
    · split at e
      · omega
      · split at e <;> omega
    · split at e
      · split at e
        · omega
        · split at e <;> omega
      · split at e
        · omega
        · split at e <;> omega
theorem Fam.addNilI (h : Fam w0 w l) : Fam w0 w (l ++ [IntsA (.slice none 0 0) []]) :=
  h.addInts (Only.refl _ _) (Ints.nil _ _)
theorem Fam.addNilB (h : Fam w0 w l) : Fam w0 w (l ++ [BlsA (.slice none 0 0) []]) :=
  h.addBls (Only.refl _ _) (Bls.nil _ _)
theorem zip_snoc {α β γ : Type} (f : α → β → γ) (ss : List α) (ls : List β) (v : α) (s : β) (h : ss.length = ls.length) : List.zipWith f (ss ++ [v]) (ls ++ [s]) = List.zipWith f ss ls ++ [f v s] := by
  rw [List.zipWith_append h]
  rfl
theorem zip_set {α β γ : Type} (f : α → β → γ) (ss : List α) (ls : List β) {j : Nat} {v : α} (z : β) (h : ss[j]? = some v) : (List.zipWith f ss ls).set j (f v z) = List.zipWith f ss (ls.set j z) := by
  apply List.ext_getElem?
  intro k
  rw [List.getElem?_set, List.getElem?_zipWith, List.getElem?_zipWith, List.getElem?_set]
  by_cases e : j = k
  · subst e
    rw [if_pos rfl, if_pos rfl, h, List.length_zipWith]
    have hj := (List.getElem?_eq_some_iff.1 h).1
    by_cases e2 : j < ls.length
    · rw [if_pos (by omega), if_pos e2]
    · rw [if_neg (by omega), if_neg e2]
  · rw [if_neg e, if_neg e]
theorem SlA.push {ss : List Value} {ls : List (List Int)} {v : Value} {s : List Int} (h : Fam w0 w (l ++ [IntsA v s])) (hi : l[i]? = some (SlA ss ls)) : Fam w0 w (l.set i (SlA (ss ++ [v]) (ls ++ [s]))) := by
  have hil := (List.getElem?_eq_some_iff.1 hi).1
  obtain ⟨h1, h2⟩ := SlA.open h (i := i) (ss := ss) (ls := ls) (by rw [List.getElem?_append_left hil]; exact hi)
  rw [List.set_append_left _ _ hil] at h2
  have h3 := h2.mid
  rw [← zip_snoc IntsA ss ls v s h1] at h3
  exact SlA.close (by simp [h1]) h3 hil
theorem RfA.push {ss : List Value} {ls : List (List Bool)} {v : Value} {s : List Bool} (h : Fam w0 w (l ++ [BlsA v s])) (hi : l[i]? = some (RfA ss ls)) : Fam w0 w (l.set i (RfA (ss ++ [v]) (ls ++ [s]))) := by
  have hil := (List.getElem?_eq_some_iff.1 hi).1
  obtain ⟨h1, h2⟩ := RfA.open h (i := i) (rs := ss) (ls := ls) (by rw [List.getElem?_append_left hil]; exact hi)
  rw [List.set_append_left _ _ hil] at h2
  have h3 := h2.mid
  rw [← zip_snoc BlsA ss ls v s h1] at h3
  exact RfA.close (by simp [h1]) h3 hil
theorem SlA.put {ss : List Value} {ls : List (List Int)} {g n cap j : Nat} (h : Fam w0 w l) (hi : l[i]? = some (SlA ss ls)) (hj : ss[j]? = some (.slice (some ⟨g, 0, none⟩) n cap)) (s : Nat) (y : Int) : Fam w0 (w.setCell ⟨g, s, none⟩ (.int .i64 y)) (l.set i (SlA ss (ls.set j ((ls[j]?.getD []).set s y)))) := by
  have hil := (List.getElem?_eq_some_iff.1 hi).1
  obtain ⟨h1, h2⟩ := SlA.open h hi
  have hjl := (List.getElem?_eq_some_iff.1 hj).1
  have e0 : ls[j]? = some (ls[j]?.getD []) := by rw [List.getElem?_eq_getElem (by omega)]; rfl
  have e1 : (List.zipWith IntsA ss ls ++ l.set i NoA)[j]? = some (IntsA (.slice (some ⟨g, 0, none⟩) n cap) (ls[j]?.getD [])) := by
    rw [List.getElem?_append_left (by rw [List.length_zipWith]; omega), List.getElem?_zipWith, hj, e0]
    rfl
  have h3 := h2.turn j e1 (A' := IntsA (.slice (some ⟨g, 0, none⟩) n cap) ((ls[j]?.getD []).set s y)) (fun S hS => ⟨S, ⟨hS.1.setAt s y, hS.2⟩, fun k hk => .inl hk, (OnlyP.refl _ _).set (.inl ((hS.2 g).2 rfl)) _⟩)
  rw [List.set_append_left _ _ (by rw [List.length_zipWith]; omega), zip_set IntsA ss ls _ hj] at h3
  exact SlA.close (by rw [List.length_set]; exact h1) h3 hil
end
def Mx (mb : Nat) (sv rv kv : Value) (lo : Bool) (sh rh : List Value) (ks : List (Int × Nat)) (ss : List Value) (ls : List (List Int)) (rs : List Value) (lr : List (List Bool)) : List Asn :=
  [RowA mb 69 [sv, rv, kv, .bool lo], ValA 23 sv sh, ValA 50 rv rh, KeA kv ks, SlA ss ls, RfA rs lr]
section
variable {w0 w w' : World} {l : List Asn} {mb : Nat} {d : Md} {x : MdX} {sv rv kv : Value} {lo : Bool} {sh rh : List Value} {ks : List (Int × Nat)} {ss : List Value} {ls : List (List Int)} {rs : List Value} {lr : List (List Bool)}
theorem Mx.cells (h : Fam w0 w (Mx mb sv rv kv lo sh rh ks ss ls rs lr ++ l)) : w.cell? ⟨mb, 0, none⟩ = some sv ∧ w.cell? ⟨mb, 1, none⟩ = some rv ∧ w.cell? ⟨mb, 2, none⟩ = some kv ∧ w.cell? ⟨mb, 3, none⟩ = some (.bool lo) ∧ ∀ k, w.frozen? ⟨mb, k, none⟩ = false := by
  have r := h.row 0 rfl
  exact ⟨r.cell 0 rfl, r.cell 1 rfl, r.cell 2 rfl, r.cell 3 rfl, fun k => r.free k⟩
theorem Mx.vs (h : Fam w0 w (Mx mb sv rv kv lo sh rh ks ss ls rs lr ++ l)) : w.ownsRow 0 23 1 sv sh.length sh := by
  obtain ⟨S, h1, _⟩ := h.get 1 rfl
  exact h1.1
theorem Mx.vr (h : Fam w0 w (Mx mb sv rv kv lo sh rh ks ss ls rs lr ++ l)) : w.ownsRow 0 50 1 rv rh.length rh := by
  obtain ⟨S, h1, _⟩ := h.get 2 rfl
  exact h1.1
theorem Mx.ke (h : Fam w0 w (Mx mb sv rv kv lo sh rh ks ss ls rs lr ++ l)) : w.ownsRow 0 140 2 kv ks.length (keC ks) := by
  obtain ⟨S, h1, _⟩ := h.get 3 rfl
  exact h1.1
theorem Mx.apart (h : Fam w0 w (Mx mb sv rv kv lo sh rh ks ss ls rs lr ++ l)) : sv.ownBlock ≠ some mb ∧ rv.ownBlock ≠ some mb ∧ kv.ownBlock ≠ some mb := by
  obtain ⟨_, S, h1, h2, _⟩ := h
  have hl : ∀ k, k < 6 → k < (Mx mb sv rv kv lo sh rh ks ss ls rs lr ++ l).length := fun k hk => by rw [List.length_append]; show k < 6 + _; omega
  have a0 : S 0 mb := ((h1 0 _ rfl).2 mb).2 rfl
  refine ⟨fun e => ?_, fun e => ?_, fun e => ?_⟩
  · exact h2 0 1 (hl 0 (by omega)) (hl 1 (by omega)) (by omega) mb a0 (((h1 1 _ rfl).2 mb).2 e)
  · exact h2 0 2 (hl 0 (by omega)) (hl 2 (by omega)) (by omega) mb a0 (((h1 2 _ rfl).2 mb).2 e)
  · exact h2 0 3 (hl 0 (by omega)) (hl 3 (by omega)) (by omega) mb a0 (((h1 3 _ rfl).2 mb).2 e)
theorem Mx.app0 (h : Fam w0 w (Mx mb sv rv kv lo sh rh ks ss ls rs lr ++ l)) {v' : Value} {sh' : List Value} (hn : w'.ownsRow 0 23 1 v' sh'.length sh') (ho : Only sv.ownBlock.toList w w') (hb : v'.ownBlock = sv.ownBlock ∨ v'.ownBlock = some w.heap.size) : (w'.cell? ⟨mb, 0, none⟩ = some sv ∧ w'.frozen? ⟨mb, 0, none⟩ = false) ∧ Fam w0 (w'.setCell ⟨mb, 0, none⟩ v') (Mx mb v' rv kv lo sh' rh ks ss ls rs lr ++ l) := by
  have h1 := h.turnVal 1 rfl hn ho hb
  exact ⟨⟨(h1.row 0 rfl).cell 0 rfl, (h1.row 0 rfl).free 0⟩, h1.setRowC 0 rfl 0 v'⟩
theorem Mx.app1 (h : Fam w0 w (Mx mb sv rv kv lo sh rh ks ss ls rs lr ++ l)) {v' : Value} {sh' : List Value} (hn : w'.ownsRow 0 50 1 v' sh'.length sh') (ho : Only rv.ownBlock.toList w w') (hb : v'.ownBlock = rv.ownBlock ∨ v'.ownBlock = some w.heap.size) : (w'.cell? ⟨mb, 1, none⟩ = some rv ∧ w'.frozen? ⟨mb, 1, none⟩ = false) ∧ Fam w0 (w'.setCell ⟨mb, 1, none⟩ v') (Mx mb sv v' kv lo sh sh' ks ss ls rs lr ++ l) := by
  have h1 := h.turnVal 2 rfl hn ho hb
  exact ⟨⟨(h1.row 0 rfl).cell 1 rfl, (h1.row 0 rfl).free 1⟩, h1.setRowC 0 rfl 1 v'⟩
theorem Mx.app2 (h : Fam w0 w (Mx mb sv rv kv lo sh rh ks ss ls rs lr ++ l)) {v' : Value} {ks' : List (Int × Nat)} (hn : w'.ownsRow 0 140 2 v' ks'.length (keC ks')) (ho : Only kv.ownBlock.toList w w') (hb : v'.ownBlock = kv.ownBlock ∨ v'.ownBlock = some w.heap.size) : (w'.cell? ⟨mb, 2, none⟩ = some kv ∧ w'.frozen? ⟨mb, 2, none⟩ = false) ∧ Fam w0 (w'.setCell ⟨mb, 2, none⟩ v') (Mx mb sv rv v' lo sh rh ks' ss ls rs lr ++ l) := by
  have h1 := h.turnKe 3 rfl hn ho hb
  exact ⟨⟨(h1.row 0 rfl).cell 2 rfl, (h1.row 0 rfl).free 2⟩, h1.setRowC 0 rfl 2 v'⟩
theorem Mx.lost (h : Fam w0 w (Mx mb sv rv kv lo sh rh ks ss ls rs lr ++ l)) (b : Bool) : Fam w0 (w.setCell ⟨mb, 3, none⟩ (.bool b)) (Mx mb sv rv kv b sh rh ks ss ls rs lr ++ l) := h.setRowC 0 rfl 3 (.bool b)
theorem Mx.pushS {v : Value} {s : List Int} (h : Fam w0 w ((Mx mb sv rv kv lo sh rh ks ss ls rs lr ++ l) ++ [IntsA v s])) : Fam w0 w (Mx mb sv rv kv lo sh rh ks (ss ++ [v]) (ls ++ [s]) rs lr ++ l) := SlA.push h (i := 4) rfl
theorem Mx.pushR {v : Value} {s : List Bool} (h : Fam w0 w ((Mx mb sv rv kv lo sh rh ks ss ls rs lr ++ l) ++ [BlsA v s])) : Fam w0 w (Mx mb sv rv kv lo sh rh ks ss ls (rs ++ [v]) (lr ++ [s]) ++ l) := RfA.push h (i := 5) rfl
theorem Mdl.toMx (h : Fam w0 w (Mdl mb d x ++ l)) : Fam w0 w (Mx mb x.sv x.rv x.kv d.lost x.ss x.rs d.keeps x.ss d.slots x.rs d.refs ++ l) := h
theorem Mdl.ofMx (h : Fam w0 w (Mx mb sv rv kv lo ss rs ks ss ls rs lr ++ l)) : Fam w0 w (Mdl mb ⟨ls, lr, ks, lo⟩ ⟨sv, rv, kv, ss, rs⟩ ++ l) := h
theorem Mdl.lens (h : Fam w0 w (Mdl mb d x ++ l)) : x.ss.length = d.slots.length ∧ x.rs.length = d.refs.length :=
  ⟨(SlA.open h (i := 4) (ss := x.ss) (ls := d.slots) rfl).1, (RfA.open h (i := 5) (rs := x.rs) (ls := d.refs) rfl).1⟩
theorem Mdl.put (h : Fam w0 w (Mdl mb d x ++ l)) {g n cap j : Nat} (hj : x.ss[j]? = some (.slice (some ⟨g, 0, none⟩) n cap)) (s : Nat) (y : Int) : Fam w0 (w.setCell ⟨g, s, none⟩ (.int .i64 y)) (Mdl mb (d.store j s y) x ++ l) :=
  SlA.put h (i := 4) (ss := x.ss) (ls := d.slots) rfl hj s y
end
theorem step_ke {ops : Array Oper} {o : Oper} {ac : Act} {wl : World} {K : Act → World → Prop} {Q : Exit → Act → World → Prop} {E : Prop} (hgd : o.guard = none) (s x : Operand)
    (ho : o.op = .call { callee := .builtin .append, args := #[s, x], argTypes := #[67, 67] })
    (v : Value) (l : List (Int × Nat)) (hs : ac.eval s = v) (hown : wl.ownsRow 0 140 2 v l.length (keC l)) (ad : Addr) (m c : Nat) (news : List (Int × Nat)) (hx : ac.eval x = .slice (some ad) m c) (hl : news.length = m) (hnews : ∀ j u, (keC news)[j]? = some u → wl.cell? (ad.add j) = some u) (hm : 0 < m) (hb : l.length + m ≤ 1000000)
    (h : ∀ g cap w', w'.ownsRow 0 140 2 (.slice (some ⟨g, 0, none⟩) (l.length + m) cap) (l ++ news).length (keC (l ++ news)) → Only v.ownBlock.toList wl w' → ((Value.slice (some ⟨g, 0, none⟩) (l.length + m) cap).ownBlock = v.ownBlock ∨ (Value.slice (some ⟨g, 0, none⟩) (l.length + m) cap).ownBlock = some wl.heap.size) → K (ac.put o.dst (.slice (some ⟨g, 0, none⟩) (l.length + m) cap)) w') :
    if Region.wanted o (yielded ops ac.tmps) = true then Oper.wp Tryz.prog o ac wl K Q else E := by
  obtain ⟨i0, hi0, hz0, hz1, hz2⟩ := info_parts infoKe
  refine step_append_lies _ hgd s x 67 ho 0 140 i0 _ 2 16 Tryz.underlying67 hi0 hz0 hz1 hz2 rfl (by omega) v l.length (keC l) hs hown ad m c (keC news) hx (by rw [keC_len, hl]) hnews (fun u hu => ?_) hm (by simp only [maxLen]; omega) (by omega) (Nat.zero_le _) wl.heap.size rfl ?_
  · unfold keC at hu
    rw [List.mem_flatMap] at hu
    obtain ⟨p, _, hu⟩ := hu
    simp at hu
    rcases hu with rfl | rfl <;> rfl
  · intro g cap w' h1 h2 h3 h4
    have e : keC (l ++ news) = keC l ++ keC news := by unfold keC; rw [List.flatMap_append]
    refine h g cap w' ?_ ((Only.refl _ _).grown h2 (fun k hk => .inl (by rw [hk]; simp))) ?_
    · rw [List.length_append, hl, e]; exact h1
    · rcases h3 with h3 | h3
      · exact .inl h3.symm
      · exact .inr (by rw [h3]; rfl)
theorem step_is {ops : Array Oper} {o : Oper} {ac : Act} {wl : World} {K : Act → World → Prop} {Q : Exit → Act → World → Prop} {E : Prop} (hgd : o.guard = none) (s x : Operand)
    (ho : o.op = .call { callee := .builtin .append, args := #[s, x], argTypes := #[65, 65] })
    (v : Value) (l : List Value) (hs : ac.eval s = v) (hown : wl.ownsRow 0 23 1 v l.length l) (b : Nat) (y : Value) (hy : y.oneCell' = true) (hx : ac.eval x = .slice (some ⟨b, 0, none⟩) 1 1) (hnews : wl.cell? ⟨b, 0, none⟩ = some y) (hb : l.length ≤ 1000000)
    (h : ∀ g cap w', w'.ownsRow 0 23 1 (.slice (some ⟨g, 0, none⟩) (l.length + 1) cap) (l ++ [y]).length (l ++ [y]) → Only v.ownBlock.toList wl w' → ((Value.slice (some ⟨g, 0, none⟩) (l.length + 1) cap).ownBlock = v.ownBlock ∨ (Value.slice (some ⟨g, 0, none⟩) (l.length + 1) cap).ownBlock = some wl.heap.size) → K (ac.put o.dst (.slice (some ⟨g, 0, none⟩) (l.length + 1) cap)) w') :
    if Region.wanted o (yielded ops ac.tmps) = true then Oper.wp Tryz.prog o ac wl K Q else E := by
  obtain ⟨i0, hi0, hz0, hz1, hz2⟩ := info_parts infoIs
  refine step_append_lies _ hgd s x 65 ho 0 23 i0 _ 1 24 Tryz.underlying65 hi0 hz0 hz1 hz2 rfl (by omega) v l.length l hs hown ⟨b, 0, none⟩ 1 1 [y] hx rfl (fun j u hu => ?_) (fun u hu => ?_) (by omega) (by simp only [maxLen]; omega) (by omega) (Nat.zero_le _) wl.heap.size rfl ?_
  · cases j with
    | zero => simp at hu; subst hu; exact hnews
    | succ j => simp at hu
  · simp at hu; subst hu; exact hy
  · intro g cap w' h1 h2 h3 h4
    refine h g cap w' ?_ ((Only.refl _ _).grown h2 (fun k hk => .inl (by rw [hk]; simp))) ?_
    · rw [List.length_append]; exact h1
    · rcases h3 with h3 | h3
      · exact .inl h3.symm
      · exact .inr (by rw [h3]; rfl)
end Go.Proofs.YthflghdaejbdkaaGreat
