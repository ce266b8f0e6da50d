/- Lemmas of this claim. -/
import Derived.Test.YthflghdaejbdkaaGreatXfCyMq
namespace Go.Proofs.YthflghdaejbdkaaGreat
open Go.RowKit Go.Maps
set_option maxHeartbeats 12800000
set_option maxRecDepth 100000
set_option linter.unusedVariables false
def nz (H : List Int) : Nat := (H.filter (fun z => decide (z ≠ 0))).length
theorem nz_le (H : List Int) : nz H ≤ H.length := List.length_filter_le _ _
theorem nz_cons (a : Int) (H : List Int) : nz (a :: H) = (if a = 0 then 0 else 1) + nz H := by
  unfold nz
  rw [List.filter_cons]
  by_cases h : a = 0
  · simp [h]
  · simp [h]; omega
theorem nz_set : ∀ {H : List Int} {i : Nat} {v : Int}, i < H.length → gI H i = 0 → v ≠ 0 → nz (H.set i v) = nz H + 1
  | [], i, v, hi, _, _ => by simp at hi
  | a :: H, 0, v, _, h0, hv => by
    have ha : a = 0 := h0
    rw [List.set_cons_zero, nz_cons, nz_cons, if_neg hv, if_pos ha]
    omega
  | a :: H, i + 1, v, hi, h0, hv => by
    have h1 : gI H i = 0 := h0
    have := nz_set (H := H) (i := i) (v := v) (by simpa using hi) h1 hv
    rw [List.set_cons_succ, nz_cons, nz_cons, this]
    omega
structure Good (K : Nat → Prop) (φ : Nat → Int) (H : List Int) (L : List (Int × Nat)) : Prop where
  hh : ∀ i, gI H i = 0 ∨ (K i ∧ gI H i = φ i)
  ll : ∀ p, p ∈ L → K p.2 ∧ p.1 = φ p.2
  nl : L.length ≤ 30 + 48 * nz H
theorem append_keO {w : World} {ops : Array Oper} {rest : List Oper} {o : Oper} {a : Act} {Q : Exit → Act → World → Prop} (hgd : o.guard = none) (s x : Operand)
    (ho : o.op = .call { callee := .builtin .append, args := #[s, x], argTypes := #[67, 67] })
    (v : Value) (l : List (Int × Nat)) (hs : a.eval s = v) (hown : w.ownsRow 0 140 2 v l.length (keC l))
    (oa : Option Addr) (m c : Nat) (news : List (Int × Nat)) (hm : news.length = m) (hx : a.eval x = .slice oa m c) (hoa : oa = none → m = 0 ∧ c = 0) (hnews : ∀ ad, oa = some ad → ∀ (j : Nat) (u : Value), (keC news)[j]? = some u → w.cell? (ad.add j) = some u) (hbytes : l.length + m ≤ 1000000)
    (h : ∀ v' w', w'.ownsRow 0 140 2 v' (l ++ news).length (keC (l ++ news)) → Only v.ownBlock.toList w w' → (v'.ownBlock = v.ownBlock ∨ v'.ownBlock = some w.heap.size) → wpList Tryz.prog ops Q rest (a.put o.dst v') w') : wpList Tryz.prog ops Q (o :: rest) a w := by
  cases oa with
  | some ad => exact append_ke hgd s x ho v l hs hown ad m c news hm hx (hnews ad rfl) hbytes h
  | none =>
    obtain ⟨rfl, rfl⟩ := hoa rfl
    have : news = [] := List.eq_nil_of_length_eq_zero hm
    subst this
    obtain ⟨i0, hi, hz0, hz1, hz2⟩ := info_parts infoKe
    refine wpList_append_own_none hgd s x 67 ho 0 140 i0 2 Tryz.underlying67 hi v l.length _ hs hown hx (h v w (by simpa using hown) (Only.refl _ _) (.inl rfl))
theorem zeros_ints0 (w : World) (C : Array Value) (n : Nat) (hC : C.toList = List.replicate n (.int .i64 0)) (hn : n ≤ 1000) : Ints (w.alloc (.cells C 3)) w.heap.size (.slice (some ⟨w.heap.size, 0, none⟩) n n) (List.replicate n 0) := by
  have hr : Row (w.alloc (.cells C 3)) w.heap.size 3 C.toList := by have := Row.new w 3 C.toList; simpa using this
  have h := Ints.ofRow (l := List.replicate n 0) (cap := n) (Nat.le_refl _) hr (by rw [hC]; simp) (by rw [hC]; simp) (by simp) (by simp only [maxLen]; omega)
  rw [List.length_replicate] at h
  exact h
section
variable {w0 w w' : World} {l : List Asn} {mb cb N : Nat} {d : Md} {x : MdX} {K : Nat → Prop} {φ : Nat → Int} {c : Co}
theorem Fam.addKe {v : Value} {m : List (Int × Nat)} (h : Fam w0 w l) (ho : Only [] w w') (hi : w'.ownsRow 0 140 2 v m.length (keC m)) (hb : v.ownBlock = none ∨ v.ownBlock = some w.heap.size) : Fam w0 w' (l ++ [KeA v m]) :=
  h.add ⟨ho, fun k => v.ownBlock = some k, ⟨hi, fun k => Iff.rfl⟩, fun k hk => by
    rcases hb with hb | hb
    · rw [hb] at hk; cases hk
    · rw [hb] at hk; rw [Option.some.inj hk]; exact Nat.le_refl _⟩
theorem Fam.ke {v : Value} {m : List (Int × Nat)} (h : Fam w0 w l) (i : Nat) (hi : l[i]? = some (KeA v m)) : w.ownsRow 0 140 2 v m.length (keC m) := by
  obtain ⟨S, h1, _⟩ := h.get i hi
  exact h1.1
theorem Fam.setInt (h : Fam w0 w l) (i : Nat) {g n cap : Nat} {m : List Int} (hi : l[i]? = some (IntsA (.slice (some ⟨g, 0, none⟩) n cap) m)) (s : Nat) (y : Int) : Fam w0 (w.setCell ⟨g, s, none⟩ (.int .i64 y)) (l.set i (IntsA (.slice (some ⟨g, 0, none⟩) n cap) (m.set s y))) :=
  h.turn i hi fun S hS => ⟨S, ⟨hS.1.setAt s y, hS.2⟩, fun k hk => .inl hk, (OnlyP.refl _ _).set (.inl ((hS.2 g).2 rfl)) _⟩
theorem St.rng (h : St N d K φ c) {i : Nat} (hi : K i) : 1 ≤ i ∧ i < d.slots.length ∧ 1 ≤ φ i ∧ φ i ≤ 192 := by
  have h1 := h.sf.rg i hi
  have h2 := h.ok.k.hf.ok.inR (h.sf.sv i hi).us
  omega
theorem St.read (hf : Fam w0 w (Mdl mb d x ++ [CoA cb c])) (h : St N d K φ c) {i s : Nat} (hi : K i) (hs : s < (d.sl i).length) : ∃ xv, (∀ wx, Only [] w wx → Calls Tryz.prog 47 #[.pointer (some ⟨cb, 0, none⟩), .int .i64 (φ i), .int .i64 (s : Int)] wx (Same wx (.tuple #[.int .i64 xv, .int .i64 0]))) ∧ (gB (d.rf i) s = false → xv = gI (d.sl i) s) ∧ (gB (d.rf i) s = true → gI (d.sl i) s = 0 → xv = 0) ∧ (gB (d.rf i) s = true → gI (d.sl i) s ≠ 0 → ∃ j : Nat, gI (d.sl i) s = (j : Int) ∧ K j ∧ xv = φ j ∧ xv ≠ 0) := by
  obtain ⟨xv, hget, hfit, hj⟩ := h.sf.get h.ok.k hi hs
  have hr := h.rng hi
  refine ⟨xv, fun wx ho => ?_, fun e => ?_, fun e e2 => ?_, fun e e2 => ?_⟩
  · have := cget_rep wx (hf.only0 ho) (i := 6) rfl h.ok.k (φ i) (s : Int) (wfI_mk (by omega))
    rw [hget] at this
    exact this
  · unfold Fits at hfit
    rw [e, if_neg (by decide)] at hfit
    exact hfit
  · unfold Fits at hfit
    rw [e, if_pos rfl] at hfit
    rcases hfit with h1 | ⟨j, e3, e4, e5⟩
    · exact h1.2
    · have := h.sf.rg j e4
      omega
  · unfold Fits at hfit
    rw [e, if_pos rfl] at hfit
    rcases hfit with h1 | ⟨j, e3, e4, e5⟩
    · exact absurd h1.1 e2
    · obtain ⟨a1, a2, a3⟩ := hj j e e3 (by omega)
      exact ⟨j, e3, a1, a2, a3⟩
theorem gI_zeros2 (n i : Nat) : gI (List.replicate n 0) i = 0 := gI_zeros n i
theorem seen_any (w : World) (hf : Fam w0 w (Mdl mb d x ++ [CoA cb c])) (hN : N ≤ 900) (h : St N d K φ c) :
    Calls Tryz.prog 88 #[.pointer (some ⟨mb, 0, none⟩), .pointer (some ⟨cb, 0, none⟩)] w (fun e w' => e = .returned (.bool true) ∧ Only [] w w') := by
  refine calls_abs fun R hR => ?_
  obtain ⟨sa, sc, hsv⟩ := orow_len (Mdl.vs hf)
  obtain ⟨ka, kc, hkv⟩ := orow_len (Mdl.ke hf)
  obtain ⟨c0, _, c2, _, _⟩ := Mdl.cells hf
  rw [hsv, (Mdl.lens hf).1] at c0
  rw [hkv] at c2
  obtain ⟨n, hn⟩ : ∃ z, z = d.slots.length := ⟨_, rfl⟩
  obtain ⟨kn, hkn⟩ : ∃ z, z = d.keeps.length := ⟨_, rfl⟩
  rw [← hn] at c0
  rw [← hkn] at c2
  have hn9 : n ≤ 900 := by have := h.sl; omega
  have hk30 : kn ≤ 30 := by have := h.kl; omega
  obtain ⟨C, hC, hmk'⟩ := mk_intsM n (by omega)
  have hmk : ∀ wx : World, (Instr.makeSlice 23 (.int .i64 (n : Int)) (.int .i64 (n : Int))).run Tryz.prog wx = .ok (.slice (some ⟨wx.heap.size, 0, none⟩) n n) (wx.alloc (.cells C 3)) := hmk'
  have F1 : Hid (Fam w (w.alloc (.cells C 3)) [IntsA (.slice (some ⟨w.heap.size, 0, none⟩) n n) (List.replicate n 0)]) := (Fam.nil w).addInts ((Only.refl _ _).alloc _) (zeros_ints0 w C n hC (by omega))
  have c2' : (w.alloc (.cells C 3)).cell? ⟨mb, 2, none⟩ = some (.slice ka kn kc) := ((Only.refl [] w).alloc _).cell0 c2
  have HKE : Hid ((ka = none → kn = 0 ∧ kc = 0) ∧ ∀ ad, ka = some ad → ∀ (j : Nat) (u : Value), (keC d.keeps)[j]? = some u → (w.alloc (.cells C 3)).cell? (ad.add j) = some u) := by
    have h1 := Mdl.ke hf
    rw [hkv, ← hkn] at h1
    refine ⟨fun e => ?_, fun ad e j u hu => ?_⟩
    · rcases h1.2 with ⟨e1, e2⟩ | ⟨g, cap, cur, e1, _⟩
      · simp only [Value.slice.injEq] at e1
        exact ⟨e2, e1.2.2⟩
      · simp only [Value.slice.injEq] at e1
        rw [e] at e1; cases e1.1
    · subst e
      rcases h1.2 with ⟨e1, e2⟩ | ⟨g, cap, cur, e1, _⟩
      · simp only [Value.slice.injEq] at e1
        cases e1.1
      · simp only [Value.slice.injEq, Option.some.injEq] at e1
        obtain ⟨rfl, _, _⟩ := e1
        exact ((Only.refl [] w).alloc _).cell0 (World.ownsRow.cells h1 (g := g) rfl j u hu)
  have HF := Lib.hid hf
  have HST := Lib.hid h
  have HNN := Lib.hid hn
  have HKN := Lib.hid hkn
  have HSV := Lib.hid hsv
  have HC0 : Hid (∀ wx, Only [] w wx → wx.cell? ⟨mb, 0, none⟩ = some (.slice sa n sc)) := fun wx ho => ho.cell0 c0
  clear hf h hn hkn hC hmk' hsv hkv c2
  go_enter Tryz.func88, Tryz.ntmps88
  go_upto_region 2 with fail
  generalize (w.alloc (.cells C 3)) = w1 at *
  obtain ⟨hb, hhb⟩ : ∃ z, z = w.heap.size := ⟨_, rfl⟩
  rw [← hhb] at F1 ⊢
  have HHB := Lib.hid hhb
  clear hhb hmk
  go_wp2_with (at_builtin; refine append_keO rfl _ _ rfl (.slice none 0 0) [] rfl (World.ownsRow_nil _ _ _ _) ka kn kc d.keeps HKN.out.symm rfl HKE.out.1 HKE.out.2 ?p1 ?p2)
  case p1 => simp; omega
  case p2 =>
    intro lv w2 h1 h2 h3
    have F2 : Hid (Fam w w2 [IntsA (.slice (some ⟨hb, 0, none⟩) n n) (List.replicate n 0), KeA lv d.keeps]) := F1.out.addKe h2 h1 h3
    clear h1 h2 h3 HKE F1 c2' c0
    go_wp2_with fail
    go_loopw [6, 7] (fun lv iv wr => ∃ (k : Nat) (H : List Int) (L : List (Int × Nat)), iv = .int .i64 k ∧ k ≤ L.length ∧ H.length = n ∧ Fam w wr [IntsA (.slice (some ⟨hb, 0, none⟩) n n) H, KeA lv L] ∧ Hid (Good K φ H L)) (fun _ iv _ => 50000 - (intOf iv).toNat)
    case atStart => exact ⟨0, _, _, rfl, Nat.zero_le _, List.length_replicate, F2.out, ⟨fun i => .inl (gI_zeros2 n i), HST.out.sf.kp, by have := HST.out.kl; omega⟩⟩
    case round =>
      clear F2
      obtain ⟨k, H, L, rfl, hk, hHl, hf, HG⟩ := hrel
      obtain ⟨la, lc, hlv⟩ := orow_len (hf.ke 1 rfl)
      obtain ⟨ln, hln⟩ : ∃ z, z = L.length := ⟨_, rfl⟩
      rw [← hln] at hlv hk
      subst hlv
      have HFM := Lib.hid hf
      have HHL := Lib.hid hHl
      have HLN := Lib.hid hln
      have hlb : ln ≤ 45000 := by
        have h1 := HG.out.nl
        have h2 := nz_le H
        rw [hHl] at h2
        omega
      by_cases hlt : k < ln
      · have hlt1 : (k : Int) < (ln : Int) := by omega
        have hk0 : (0 : Int) ≤ (k : Int) := by omega
        obtain ⟨p, hp⟩ : ∃ p, L[k]? = some p := ⟨_, List.getElem?_eq_getElem (by omega)⟩
        obtain ⟨hKp, hpp⟩ := HG.out.ll p (List.mem_of_getElem? hp)
        obtain ⟨lg, lcap, hlv2, _, l0, l1, _⟩ := Ke.at (hf.ke 1 rfl) hp
        simp only [Value.slice.injEq] at hlv2
        obtain ⟨rfl, en1, rfl⟩ := hlv2
        clear en1
        have hr := HST.out.rng hKp
        have hidn : p.2 < n := by rw [HNN.out]; exact hr.2.1
        obtain ⟨hb', cap', e1, hcl⟩ := (hf.ints 0 rfl).cellsOf (by rw [hHl]; omega)
        simp only [Value.slice.injEq, Option.some.injEq, Addr.mk.injEq, and_true] at e1
        obtain ⟨rfl, en2, rfl⟩ := e1
        clear en2
        have h0 := hcl p.2 (by rw [hHl]; exact hidn)
        have h0f : wr.frozen? ⟨hb, p.2, none⟩ = false := by
          have h9 := hf.ints 0 rfl
          unfold Ints at h9
          rw [hHl] at h9
          exact World.ownsRow.frozenAt h9 p.2
        have F3 : Hid (Fam w (wr.alloc (.cells #[.int .i64 p.1, .int .i64 (p.2 : Int)] 140)) [IntsA (.slice (some ⟨hb, 0, none⟩) n n) H, KeA (.slice (some ⟨lg, 0, none⟩) ln lc) L, RowA wr.heap.size 140 [.int .i64 p.1, .int .i64 (p.2 : Int)]]) := hf.addRow 140 [.int .i64 p.1, .int .i64 (p.2 : Int)]
        have HO3 : Hid (Only [] wr (wr.alloc (.cells #[.int .i64 p.1, .int .i64 (p.2 : Int)] 140))) := (Only.refl _ _).alloc _
        have h0 := HO3.out.cell0 h0
        have h0f := HO3.out.frozen0 (hcl p.2 (by rw [hHl]; exact hidn)) h0f
        have HKP := Lib.hid hKp
        have HPP := Lib.hid hpp
        have hP1 : 1 ≤ p.1 := by rw [hpp]; omega
        have HPW : Hid (wfI p.1) := by rw [hpp]; exact wfI_mk (by omega)
        clear hf hHl hln hp hKp hpp hr hcl hlt
        generalize p.1 = P at *
        generalize hidd : p.2 = id at *
        clear hidd
        have hi0 : (0 : Int) ≤ (id : Int) := by omega
        have hi1 : (id : Int) < (n : Int) := by omega
        go_upto_region 7 with fail
        obtain ⟨xb, hxb⟩ : ∃ z, z = wr.heap.size := ⟨_, rfl⟩
        rw [← hxb] at F3 ⊢
        generalize (wr.alloc (.cells #[.int .i64 P, .int .i64 (id : Int)] 140)) = w3 at *
        have x0 := (F3.out.row 2 rfl).cell 0 rfl
        have x1 := (F3.out.row 2 rfl).cell 1 rfl
        clear hxb l0 l1 HO3 HFM
        by_cases hz : gI H id = 0
        · rw [hz] at h0
          have HZ := Lib.hid hz
          clear hz
          have F4 : Hid (Fam w (w3.setCell ⟨hb, id, none⟩ (.int .i64 P)) [IntsA (.slice (some ⟨hb, 0, none⟩) n n) (H.set id P), KeA (.slice (some ⟨lg, 0, none⟩) ln lc) L, RowA xb 140 [.int .i64 P, .int .i64 (id : Int)]]) := Fam.setInt F3.out 0 rfl id P
          clear F3
          go_upto_region 11 with fail
          generalize (w3.setCell ⟨hb, id, none⟩ (.int .i64 P)) = w4 at *
          clear h0 h0f x0 x1
          obtain ⟨vrow, hvr, hivr⟩ := Mdl.slots HF.out (j := id) (by rw [← HNN.out]; exact hidn)
          obtain ⟨va, vc, hvv⟩ := hivr.len
          obtain ⟨m, hm⟩ : ∃ z, z = (d.sl id).length := ⟨_, rfl⟩
          rw [← hm] at hvv
          subst hvv
          obtain ⟨sg, scap, hsv2, _, hsc, _⟩ := Va.at (Mdl.vs HF.out) hvr
          rw [HSV.out] at hsv2
          simp only [Value.slice.injEq] at hsv2
          obtain ⟨rfl, en3, rfl⟩ := hsv2
          have HSC : Hid (∀ wx, Only [] w wx → wx.cell? ⟨sg, id, none⟩ = some (.slice va m vc)) := fun wx ho => ho.cell0 hsc
          have hm48 : m ≤ 48 := by rw [hm]; exact HST.out.ln id
          have HM := Lib.hid hm
          clear en3 hsc hvr hivr hm
          go_wp2_with fail
          go_loopw [6, 9] (fun lv sv wx => ∃ (s : Nat) (L' : List (Int × Nat)), sv = .int .i64 s ∧ s ≤ m ∧ ln ≤ L'.length ∧ L'.length ≤ ln + s ∧ Fam w wx [IntsA (.slice (some ⟨hb, 0, none⟩) n n) (H.set id P), KeA lv L', RowA xb 140 [.int .i64 P, .int .i64 (id : Int)]] ∧ Hid (∀ q, q ∈ L' → K q.2 ∧ q.1 = φ q.2)) (fun _ sv _ => m - (intOf sv).toNat)
          case atStart => exact ⟨0, L, rfl, Nat.zero_le _, by rw [HLN.out]; exact Nat.le_refl _, by rw [← HLN.out]; omega, F4.out, HG.out.ll⟩
          case round =>
            clear F4
            obtain ⟨s, L', rfl, hs, hll, hlu, hf4, HG4⟩ := hrel
            obtain ⟨l2a, l2c, hlv⟩ := orow_len (hf4.ke 1 rfl)
            obtain ⟨l2, hl2⟩ : ∃ z, z = L'.length := ⟨_, rfl⟩
            rw [← hl2] at hlv hll hlu
            subst hlv
            have F5 := Lib.hid hf4
            have HL2 := Lib.hid hl2
            have c0 := HC0.out _ hf4.only
            have cs := HSC.out _ hf4.only
            have x1 := (hf4.row 2 rfl).cell 1 rfl
            have hs0 : (0 : Int) ≤ (s : Int) := by omega
            clear hf4 hl2
            have HS12 : Hid (∀ w', Only [] wr w' → w'.cell? ⟨mb, 0, none⟩ = some (.slice (some ⟨sg, 0, none⟩) n sc) ∧ w'.cell? ⟨xb, 1, none⟩ = some (.int .i64 (id : Int)) ∧ w'.cell? ⟨sg, id, none⟩ = some (.slice va m vc)) := fun w' ho => ⟨ho.cell0 c0, ho.cell0 x1, ho.cell0 cs⟩
            go_upto_region 12 with fail
            go_region_held3 (fun w' => w'.cell? ⟨mb, 0, none⟩ = some (.slice (some ⟨sg, 0, none⟩) n sc) ∧ w'.cell? ⟨xb, 1, none⟩ = some (.int .i64 (id : Int)) ∧ w'.cell? ⟨sg, id, none⟩ = some (.slice va m vc))
              (first | (exact HS12.out _ (Only.refl _ _)) | (exact HS12.out _ (Only.refl _ _).drew))
              (fail)
            clear HS12 c0 cs x1
            have F6 : Hid (Fam w wr.drew [IntsA (.slice (some ⟨hb, 0, none⟩) n n) (H.set id P), KeA (.slice l2a l2 l2c) L', RowA xb 140 [.int .i64 P, .int .i64 (id : Int)]]) := F5.out.drew
            clear F5
            generalize wr.drew = w6 at *
            by_cases hlt2 : s < m
            · have hs1 : (s : Int) < (m : Int) := by omega
              have hsd : s < (d.sl id).length := by rw [← HM.out]; exact hlt2
              obtain ⟨xv, hget, hA, hB, hC⟩ := HST.out.read HF.out HKP.out hsd
              rw [← HPP.out] at hget
              obtain ⟨sg', scap', g, cap, es, _, cq1, cq2, _⟩ := Mdl.slotAt HF.out (j := id) (by rw [← HNN.out]; exact hidn) hsd
              rw [HSV.out] at es
              simp only [Value.slice.injEq, Option.some.injEq, Addr.mk.injEq, and_true] at es
              obtain ⟨rfl, en4, rfl⟩ := es
              have e9 := (HSC.out w (Only.refl _ _)).symm.trans cq1
              simp only [Option.some.injEq, Value.slice.injEq] at e9
              obtain ⟨rfl, en5, rfl⟩ := e9
              obtain ⟨rg, rcap, fg, fcap, er, cr1, cr2⟩ := Mdl.flagAt HF.out (j := id) (s := s) (by rw [HST.out.sf.len, ← HNN.out]; exact hidn) (by rw [HST.out.sf.rl]; exact hsd)
              have c1 := (Mdl.cells HF.out).2.1
              rw [er, HST.out.sf.len, ← HNN.out] at c1
              rw [HST.out.sf.rl, ← HM.out] at cr1
              generalize hgb : gB (d.rf id) s = bb at *
              generalize hgv : gI (d.sl id) s = v at *
              have HSR : Hid (∀ w', Only [] w w' → w'.cell? ⟨xb, 1, none⟩ = some (.int .i64 (id : Int)) → w'.cell? ⟨mb, 1, none⟩ = some (.slice (some ⟨rg, 0, none⟩) n rcap) ∧ w'.cell? ⟨xb, 1, none⟩ = some (.int .i64 (id : Int)) ∧ w'.cell? ⟨rg, id, none⟩ = some (.slice (some ⟨fg, 0, none⟩) m fcap) ∧ w'.cell? ⟨fg, s, none⟩ = some (.bool bb)) := fun w' ho hx => ⟨ho.cell0 c1, hx, ho.cell0 cr1, ho.cell0 cr2⟩
              have HSI : Hid (∀ w', Only [] w w' → w'.cell? ⟨xb, 1, none⟩ = some (.int .i64 (id : Int)) → w'.cell? ⟨mb, 0, none⟩ = some (.slice (some ⟨sg, 0, none⟩) n sc) ∧ w'.cell? ⟨xb, 1, none⟩ = some (.int .i64 (id : Int)) ∧ w'.cell? ⟨sg, id, none⟩ = some (.slice (some ⟨g, 0, none⟩) m vc) ∧ w'.cell? ⟨g, s, none⟩ = some (.int .i64 v)) := fun w' ho hx => ⟨HC0.out w' ho, hx, HSC.out w' ho, ho.cell0 cq2⟩
              have HGA := Lib.hid hA
              have HGB := Lib.hid hB
              have HGC := Lib.hid hC
              have cg := hget w6 F6.out.only
              have x0 := (F6.out.row 2 rfl).cell 0 rfl
              clear en4 en5 cq1 cq2 er c1 cr1 cr2 hA hB hC hget hgb hgv hlt2 hsd
              go_wp2_with fail
              refine cg.mono ?_
              rintro e _ ⟨rfl, nd, rfl⟩
              have F7 : Hid (Fam w (w6.drewN nd) [IntsA (.slice (some ⟨hb, 0, none⟩) n n) (H.set id P), KeA (.slice l2a l2 l2c) L', RowA xb 140 [.int .i64 P, .int .i64 (id : Int)]]) := F6.out.drewN nd
              clear F6 cg x0
              go_upto_region 15 with fail
              generalize w6.drewN nd = w7 at *
              have HSJ : Hid (∀ w', Only [] w7 w' → w'.cell? ⟨mb, 0, none⟩ = some (.slice (some ⟨sg, 0, none⟩) n sc) ∧ w'.cell? ⟨xb, 1, none⟩ = some (.int .i64 (id : Int)) ∧ w'.cell? ⟨sg, id, none⟩ = some (.slice (some ⟨g, 0, none⟩) m vc) ∧ w'.cell? ⟨g, s, none⟩ = some (.int .i64 v)) := fun w' ho => HSI.out w' (F7.out.only.trans ho (by simp)) (ho.cell0 ((F7.out.row 2 rfl).cell 1 rfl))
              go_region_held3 (fun w' => w'.cell? ⟨mb, 0, none⟩ = some (.slice (some ⟨sg, 0, none⟩) n sc) ∧ w'.cell? ⟨xb, 1, none⟩ = some (.int .i64 (id : Int)) ∧ w'.cell? ⟨sg, id, none⟩ = some (.slice (some ⟨g, 0, none⟩) m vc) ∧ w'.cell? ⟨g, s, none⟩ = some (.int .i64 v))
                (first | (exact HSJ.out _ (Only.refl _ _)) | (exact HSJ.out _ (Only.refl _ _).drew))
                (fail)
              have F8 : Hid (Fam w w7.drew [IntsA (.slice (some ⟨hb, 0, none⟩) n n) (H.set id P), KeA (.slice l2a l2 l2c) L', RowA xb 140 [.int .i64 P, .int .i64 (id : Int)]]) := F7.out.drew
              clear HSJ HSI F7
              go_wp2_with fail
              generalize w7.drew = w8 at *
              cases bb with
              | false =>
                obtain rfl := HGA.out rfl
                clear HGA HGB HGC
                obtain ⟨d1, d2, d3, d4⟩ := HSR.out w8 F8.out.only ((F8.out.row 2 rfl).cell 1 rfl)
                go_upto_region 16 with fail
                go_quiet (fail)
                have F9 : Hid (Fam w (w8.drewN nq) [IntsA (.slice (some ⟨hb, 0, none⟩) n n) (H.set id P), KeA (.slice l2a l2 l2c) L', RowA xb 140 [.int .i64 P, .int .i64 (id : Int)]]) := F8.out.drewN nq
                clear d1 d2 d3 d4 F8
                go_upto_region 18 with fail
                generalize w8.drewN nq = w9 at *
                obtain ⟨d1, d2, d3, d4⟩ := HSR.out w9 F9.out.only ((F9.out.row 2 rfl).cell 1 rfl)
                go_quiet (fail)
                have FA : Hid (Fam w (w9.drewN nq) [IntsA (.slice (some ⟨hb, 0, none⟩) n n) (H.set id P), KeA (.slice l2a l2 l2c) L', RowA xb 140 [.int .i64 P, .int .i64 (id : Int)]]) := F9.out.drewN nq
                clear d1 d2 d3 d4 F9 HSR
                generalize w9.drewN nq = wA at *
                go_wp2_with fail
                exact ⟨⟨s + 1, L', by go_num, by omega, by rw [← HL2.out]; omega, by rw [← HL2.out]; omega, FA.out, HG4⟩, by simp [intOf]; omega⟩
              | true =>
                by_cases hv : v = 0
                · subst hv
                  obtain rfl := HGB.out rfl rfl
                  clear HGA HGB HGC
                  obtain ⟨d1, d2, d3, d4⟩ := HSR.out w8 F8.out.only ((F8.out.row 2 rfl).cell 1 rfl)
                  go_upto_region 16 with fail
                  go_quiet (fail)
                  have F9 : Hid (Fam w (w8.drewN nq) [IntsA (.slice (some ⟨hb, 0, none⟩) n n) (H.set id P), KeA (.slice l2a l2 l2c) L', RowA xb 140 [.int .i64 P, .int .i64 (id : Int)]]) := F8.out.drewN nq
                  clear d1 d2 d3 d4 F8
                  go_upto_region 18 with fail
                  generalize w8.drewN nq = w9 at *
                  obtain ⟨d1, d2, d3, d4⟩ := HSR.out w9 F9.out.only ((F9.out.row 2 rfl).cell 1 rfl)
                  go_quiet (fail)
                  have FA : Hid (Fam w (w9.drewN nq) [IntsA (.slice (some ⟨hb, 0, none⟩) n n) (H.set id P), KeA (.slice l2a l2 l2c) L', RowA xb 140 [.int .i64 P, .int .i64 (id : Int)]]) := F9.out.drewN nq
                  clear d1 d2 d3 d4 F9 HSR
                  generalize w9.drewN nq = wA at *
                  go_wp2_with fail
                  exact ⟨⟨s + 1, L', by go_num, by omega, by rw [← HL2.out]; omega, by rw [← HL2.out]; omega, FA.out, HG4⟩, by simp [intOf]; omega⟩
                · obtain ⟨j, rfl, hKj, hxj, hx0⟩ := HGC.out rfl hv
                  have hx0b : (xv == 0) = false := by rw [beq_eq_false_iff_ne]; exact hx0
                  have hvb : ((j : Int) == 0) = false := by rw [beq_eq_false_iff_ne]; exact hv
                  have hvc' : ((j : Int) != 0) = true := by simpa using hv
                  have HKJ := Lib.hid hKj
                  have HXJ := Lib.hid hxj
                  clear HGA HGB HGC hKj hxj
                  obtain ⟨d1, d2, d3, d4⟩ := HSR.out w8 F8.out.only ((F8.out.row 2 rfl).cell 1 rfl)
                  go_upto_region 16 with fail
                  go_quiet (fail)
                  have F9 : Hid (Fam w (w8.drewN nq) [IntsA (.slice (some ⟨hb, 0, none⟩) n n) (H.set id P), KeA (.slice l2a l2 l2c) L', RowA xb 140 [.int .i64 P, .int .i64 (id : Int)]]) := F8.out.drewN nq
                  clear d1 d2 d3 d4 F8
                  go_upto_region 18 with fail
                  generalize w8.drewN nq = w9 at *
                  obtain ⟨d1, d2, d3, d4⟩ := HSR.out w9 F9.out.only ((F9.out.row 2 rfl).cell 1 rfl)
                  go_quiet (fail)
                  have FA : Hid (Fam w (w9.drewN nq) [IntsA (.slice (some ⟨hb, 0, none⟩) n n) (H.set id P), KeA (.slice l2a l2 l2c) L', RowA xb 140 [.int .i64 P, .int .i64 (id : Int)]]) := F9.out.drewN nq
                  clear d1 d2 d3 d4 F9 HSR
                  generalize w9.drewN nq = wA at *
                  clear hx0b hvb hvc' hv hx0
                  go_wp2_with (at_builtin; refine append_ke rfl _ _ rfl (.slice l2a l2 l2c) L' rfl ?p1 ⟨wA.heap.size, 0, none⟩ 1 1 [(xv, j)] rfl rfl ?p2 ?p3 ?p4)
                  case p1 =>
                    have := (FA.out.alloc (.cells #[.int .i64 xv, .int .i64 (j : Int)] 140)).ke 1 rfl
                    exact this
                  case p2 => exact World.news_of_block (cs := #[.int .i64 xv, .int .i64 (j : Int)]) (t := 140) (fr := (0, 0)) (heap_alloc_new wA _)
                  case p3 => rw [← HL2.out]; omega
                  case p4 =>
                    intro v' wB h1 h2 h3
                    replace h1 : wB.ownsRow 0 140 2 v' (L' ++ [(xv, j)]).length (keC (L' ++ [(xv, j)])) := by rw [List.length_append]; exact h1
                    have FB := Lib.hid ((FA.out.alloc (.cells #[.int .i64 xv, .int .i64 (j : Int)] 140)).turnKe 1 rfl h1 h2 (by rw [World.size_alloc]; exact h3))
                    have HLL : Hid ((L' ++ [(xv, j)]).length = l2 + 1) := by show _ = _; rw [List.length_append, ← HL2.out]; rfl
                    have HG6 : Hid (∀ q, q ∈ L' ++ [(xv, j)] → K q.2 ∧ q.1 = φ q.2) := fun q hq => by
                      rcases List.mem_append.1 hq with hq | hq
                      · exact HG4.out q hq
                      · rw [List.mem_singleton] at hq
                        rw [hq]
                        exact ⟨HKJ.out, HXJ.out⟩
                    clear h1 h2 h3 FA
                    go_wp2_with fail
                    exact ⟨⟨s + 1, L' ++ [(xv, j)], by go_num, by omega, by rw [HLL.out]; omega, by rw [HLL.out]; omega, FB.out, HG6⟩, by simp [intOf]; omega⟩
            · obtain rfl : s = m := by omega
              have hs1 : ¬ (s : Int) < (s : Int) := by omega
              have F7 : Hid (Fam w w6 [IntsA (.slice (some ⟨hb, 0, none⟩) n n) (H.set id P), KeA (.slice l2a l2 l2c) L']) := (show Fam w w6 ([IntsA (.slice (some ⟨hb, 0, none⟩) n n) (H.set id P), KeA (.slice l2a l2 l2c) L'] ++ [RowA xb 140 [.int .i64 P, .int .i64 (id : Int)]]) from F6.out).pop
              have HG5 : Hid (Good K φ (H.set id P) L') := by
                refine ⟨fun i => ?_, HG4.out, ?_⟩
                · rw [gI_set (by rw [HHL.out]; exact hidn)]
                  split
                  · next e => rw [e]; exact .inr ⟨HKP.out, HPP.out⟩
                  · exact HG.out.hh i
                · have h1 := HG.out.nl
                  rw [nz_set (by rw [HHL.out]; exact hidn) HZ.out (by omega), ← HL2.out]
                  rw [← HLN.out] at h1
                  omega
              clear F6 hs1
              go_wp2_with fail
              exact ⟨⟨k + 1, H.set id P, L', by go_num, by rw [← HL2.out]; omega, by rw [List.length_set]; exact HHL.out, F7.out, HG5⟩, by simp [intOf]; omega⟩
        · have hzz : gI H id = P := by
            rcases HG.out.hh id with e | ⟨_, e⟩
            · exact absurd e hz
            · rw [e, HPP.out]
          rw [hzz] at h0
          have hPb : (P != 0) = true := by simp; omega
          have hPn : ¬ P = 0 := by omega
          clear hz hzz
          have HS : Hid (∀ w', Only [] w3 w' → w'.cell? ⟨hb, id, none⟩ = some (.int .i64 P) ∧ w'.cell? ⟨xb, 0, none⟩ = some (.int .i64 P) ∧ w'.cell? ⟨xb, 1, none⟩ = some (.int .i64 (id : Int))) := fun w' ho => ⟨ho.cell0 h0, ho.cell0 x0, ho.cell0 x1⟩
          go_upto_region 8 with fail
          go_region_held3 (fun w' => w'.cell? ⟨hb, id, none⟩ = some (.int .i64 P) ∧ w'.cell? ⟨xb, 0, none⟩ = some (.int .i64 P) ∧ w'.cell? ⟨xb, 1, none⟩ = some (.int .i64 (id : Int)))
            (first | (exact HS.out _ (Only.refl _ _)) | (exact HS.out _ (Only.refl _ _).drew))
            (fail)
          have F5 : Hid (Fam w w3.drew [IntsA (.slice (some ⟨hb, 0, none⟩) n n) H, KeA (.slice (some ⟨lg, 0, none⟩) ln lc) L]) := (show Fam w w3.drew ([IntsA (.slice (some ⟨hb, 0, none⟩) n n) H, KeA (.slice (some ⟨lg, 0, none⟩) ln lc) L] ++ [RowA xb 140 [.int .i64 P, .int .i64 (id : Int)]]) from F3.out.drew).pop
          clear HS h0 h0f x0 x1 F3
          generalize w3.drew = w5 at *
          go_wp2_with fail
          exact ⟨⟨k + 1, H, L, by go_num, by rw [← HLN.out]; omega, HHL.out, F5.out, HG⟩, by simp [intOf]; omega⟩
      · obtain rfl : k = ln := by omega
        have hlt1 : ¬ (k : Int) < (k : Int) := by omega
        obtain ⟨wz, hwz⟩ : ∃ z, z = wr := ⟨_, rfl⟩
        subst hwz
        have HIN : Hid (∀ wx, Only [] wz wx → ∀ i, i < n → wx.cell? ⟨hb, i, none⟩ = some (.int .i64 (gI H i))) := fun wx ho i hi => by
          obtain ⟨hb', cap', e1, hcl⟩ := (hf.ints 0 rfl).cellsOf (by rw [hHl]; omega)
          simp only [Value.slice.injEq, Option.some.injEq, Addr.mk.injEq, and_true] at e1
          obtain ⟨rfl, _, rfl⟩ := e1
          exact ho.cell0 (hcl i (by rw [hHl]; exact hi))
        have HOZ : Hid (Only [] w wz) := hf.only
        have HNE : Hid (∀ i j, j < i → gI H i ≠ 0 → gI H i ≠ gI H j) := fun i j hji h0 e => by
          rcases HG.out.hh i with h1 | ⟨h1, h2⟩
          · exact h0 h1
          · rcases HG.out.hh j with h3 | ⟨h3, h4⟩
            · exact h0 (e.trans h3)
            · have := HST.out.sf.inj i j h1 h3 (by rw [← h2, ← h4]; exact e)
              omega
        clear hf hHl hln HFM HHL HLN HG hlt hk
        go_wp2_with fail
        go_loopw [13] (fun iv wx => ∃ i : Nat, iv = .int .i64 i ∧ 1 ≤ i ∧ i ≤ n + 1 ∧ Only [] wz wx) (fun iv _ => n + 1 - (intOf iv).toNat)
        case atStart => exact ⟨1, rfl, by omega, by omega, Only.refl _ _⟩
        case round =>
          obtain ⟨i, rfl, hi1, hin, ho⟩ := hrel
          have HO := Lib.hid ho
          clear ho
          obtain ⟨wy, hwy⟩ : ∃ z, z = wr := ⟨_, rfl⟩
          subst hwy
          by_cases hlt2 : i < n
          · have hlt3 : (i : Int) < (n : Int) := by omega
            have hi0 : (0 : Int) ≤ (i : Int) := by omega
            go_wp2_with fail
            go_loopw [14] (fun jv wx => ∃ j : Nat, jv = .int .i64 j ∧ 1 ≤ j ∧ j ≤ i ∧ Only [] wz wx) (fun jv _ => i - (intOf jv).toNat)
            case atStart => exact ⟨1, rfl, by omega, by omega, HO.out⟩
            case round =>
              obtain ⟨j, rfl, hj1, hji, ho⟩ := hrel
              have HO2 := Lib.hid ho
              clear ho
              by_cases hlt4 : j < i
              · have hlt5 : (j : Int) < (i : Int) := by omega
                have hj0 : (0 : Int) ≤ (j : Int) := by omega
                have hjn : j < n := by omega
                have hjni : (j : Int) < (n : Int) := by omega
                have ci := HIN.out _ HO2.out i hlt2
                have cj := HIN.out _ HO2.out j hjn
                have hne := HNE.out i j hlt4
                generalize gI H i = a at *
                generalize gI H j = b at *
                by_cases ha : a = 0
                · subst ha
                  clear hne
                  go_upto_region 26 with fail
                  go_quiet (fail)
                  have HO3 := Lib.hid (HO2.out.drewN nq)
                  go_wp2_with fail
                  exact ⟨⟨j + 1, by go_num, by omega, by omega, HO3.out⟩, by simp [intOf]; omega⟩
                · have hab : (a == b) = false := by rw [beq_eq_false_iff_ne]; exact hne ha
                  have hac : (a != 0) = true := by simpa using ha
                  clear hne
                  go_upto_region 26 with fail
                  go_quiet (fail)
                  have HO3 := Lib.hid (HO2.out.drewN nq)
                  go_wp2_with fail
                  exact ⟨⟨j + 1, by go_num, by omega, by omega, HO3.out⟩, by simp [intOf]; omega⟩
              · obtain rfl : j = i := by omega
                have hlt5 : ¬ (j : Int) < (j : Int) := by omega
                go_wp2_with fail
                exact ⟨⟨j + 1, by go_num, by omega, by omega, HO2.out⟩, by simp [intOf]; omega⟩
          · have hlt3 : ¬ (i : Int) < (n : Int) := by omega
            have HE : Hid (Only [] w wy) := HOZ.out.trans HO.out (by simp)
            go_wp2_with fail
            exact hR.out _ _ ⟨rfl, HE.out⟩
end
end Go.Proofs.YthflghdaejbdkaaGreat
