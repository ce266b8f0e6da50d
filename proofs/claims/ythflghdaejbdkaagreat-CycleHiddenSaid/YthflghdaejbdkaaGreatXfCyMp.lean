/- Lemmas of this claim. -/
import Derived.Test.YthflghdaejbdkaaGreatXfCyMo
namespace Go.Proofs.YthflghdaejbdkaaGreat
open Go.RowKit Go.Maps
set_option maxHeartbeats 12800000
set_option maxRecDepth 100000
set_option linter.unusedVariables false
theorem step_ke0 {ops : Array Oper} {o : Oper} {ac : Act} {wl : World} {K : Act → World → Prop} {Q : Exit → Act → World → Prop} {E : Prop} (hgd : o.guard = none) (s x : Operand)
    (ho : o.op = .call { callee := .builtin .append, args := #[s, x], argTypes := #[67, 67] }) (b : Option Addr) (n c : Nat) (hn : n ≤ c) (va : Option Addr) (vc : Nat) (hs : ac.eval s = .slice b n c) (hx : ac.eval x = .slice va 0 vc) (h : K (ac.put o.dst (.slice b n c)) wl) :
    if Region.wanted o (yielded ops ac.tmps) = true then Oper.wp Tryz.prog o ac wl K Q else E := by
  have hw : Region.wanted o (yielded ops ac.tmps) = true := by simp [Region.wanted, hgd]
  rw [if_pos hw]
  obtain ⟨i0, hi0, hz0, hz1, hz2⟩ := info_parts infoKe
  have hsrc : Src Tryz.prog i0.size 67 (.slice va 0 vc) 0 [] wl := by
    cases va with
    | none => exact Src.ofNil wl Tryz.underlying67 vc
    | some a => exact Src.ofSlice wl Tryz.underlying67 a 0 vc [] (by simp) (fun j u hu => by simp at hu) (fun u hu => by simp at hu)
  have hr := run_append_nothing (P := Tryz.prog) wl 67 67 o.type 140 i0 Tryz.underlying67 hi0 b n c hn (.slice va 0 vc) hsrc
  unfold Oper.wp execOp
  simp only [ho, resolve, invoke, builtin, Sem.run_bind, Sem.run_pure, Result.andThen_ok, List.map_toArray, List.map_cons, List.map_nil, hs, hx, hr]
  exact h
theorem step_keN {ops : Array Oper} {o : Oper} {ac : Act} {wl : World} {K : Act → World → Prop} {Q : Exit → Act → World → Prop} {E : Prop} (hgd : o.guard = none) (s x : Operand)
    (ho : o.op = .call { callee := .builtin .append, args := #[s, x], argTypes := #[67, 67] })
    (v : Value) (l : List (Int × Nat)) (hs : ac.eval s = v) (hown : wl.ownsRow 0 140 2 v l.length (keC l)) (ad : Addr) (m c : Nat) (news : List (Int × Nat)) (hx : ac.eval x = .slice (some ad) m c) (hl : news.length = m) (hnews : ∀ (j : Nat) (u : Value), (keC news)[j]? = some u → wl.cell? (ad.add j) = some u) (hm : 0 < m) (n : Nat) (hn : l.length + m = n) (hb : n ≤ 1000000)
    (h : ∀ g cap w', w'.ownsRow 0 140 2 (.slice (some ⟨g, 0, none⟩) n cap) (l ++ news).length (keC (l ++ news)) → Only v.ownBlock.toList wl w' → ((Value.slice (some ⟨g, 0, none⟩) n cap).ownBlock = v.ownBlock ∨ (Value.slice (some ⟨g, 0, none⟩) n cap).ownBlock = some wl.heap.size) → K (ac.put o.dst (.slice (some ⟨g, 0, none⟩) n cap)) w') :
    if Region.wanted o (yielded ops ac.tmps) = true then Oper.wp Tryz.prog o ac wl K Q else E := by
  subst hn
  exact step_ke hgd s x ho v l hs hown ad m c news hx hl hnews hm hb h
theorem keC_take (l : List (Int × Nat)) (k : Nat) : ∀ (j : Nat) (u : Value), (keC (l.take k))[j]? = some u → (keC l)[j]? = some u := by
  intro j u hu
  have e : keC l = keC (l.take k) ++ keC (l.drop k) := by
    conv => lhs; rw [← List.take_append_drop k l]
    unfold keC
    rw [List.flatMap_append]
  rw [e, List.getElem?_append_left (List.getElem?_eq_some_iff.1 hu).1]
  exact hu
theorem keC_drop (l : List (Int × Nat)) {k : Nat} (hk : k ≤ l.length) : ∀ (j : Nat) (u : Value), (keC (l.drop k))[j]? = some u → (keC l)[k * 2 + j]? = some u := by
  intro j u hu
  have e : keC l = keC (l.take k) ++ keC (l.drop k) := by
    conv => lhs; rw [← List.take_append_drop k l]
    unfold keC
    rw [List.flatMap_append]
  have e2 : (keC (l.take k)).length = k * 2 := by rw [keC_len, List.length_take, Nat.min_eq_left hk]
  rw [e, List.getElem?_append_right (by omega), e2, Nat.add_sub_cancel_left]
  exact hu
theorem Mx.new2 {w0 w w' : World} {l : List Asn} {mb : Nat} {sv rv kv : Value} {lo : Bool} {sh rh : List Value} {ks : List (Int × Nat)} {ss : List Value} {ls : List (List Int)} {rs : List Value} {lr : List (List Bool)} (h : Fam w0 w (Mx mb sv rv kv lo sh rh ks ss ls rs lr ++ l)) {v' : Value} {ks' : List (Int × Nat)} (hn : w'.ownsRow 0 140 2 v' ks'.length (keC ks')) (ho : Only [] w w') (hb : ∀ k, v'.ownBlock = some k → w.heap.size ≤ k) : (w'.cell? ⟨mb, 2, none⟩ = some kv ∧ w'.frozen? ⟨mb, 2, none⟩ = false) ∧ Hid (Fam w0 (w'.setCell ⟨mb, 2, none⟩ v') (Mx mb sv rv v' lo sh rh ks' ss ls rs lr ++ l)) := by
  have h1 : Fam w0 w' ((Mx mb sv rv kv lo sh rh ks ss ls rs lr ++ l).set 3 (KeA v' ks')) := h.turn 3 (A := KeA kv ks) rfl fun S hS => ⟨fun k => v'.ownBlock = some k, ⟨hn, fun k => Iff.rfl⟩, fun k hk => .inr (hb k hk), ho.toP0⟩
  exact ⟨⟨(h1.row 0 rfl).cell 2 rfl, (h1.row 0 rfl).free 2⟩, h1.setRowC 0 rfl 2 v'⟩
section
variable {w0 w : World} {mb cb N : Nat} {d : Md} {x : MdX} {K : Nat → Prop} {φ : Nat → Int} {c : Co}
theorem act_9A (w : World) (hf : Fam w0 w (Mdl mb d x ++ [CoA cb c])) (hN : N ≤ 1000) (h : St N d K φ c) (a b y : Int) (wa : wfI a) (wb : wfI b) {k : Nat} (hk : (k : Int) = a % (d.keeps.length : Int)) (hkn : k < d.keeps.length) (hk0 : 0 < k) (hk1 : k + 1 < d.keeps.length) :
    Calls Tryz.prog 86 #[.pointer (some ⟨mb, 0, none⟩), .pointer (some ⟨cb, 0, none⟩), .agg #[.int .i64 9, .int .i64 a, .int .i64 b, .int .i64 y]] w (Acted w0 mb cb N d.lost { d.pm with ids := d.pm.ids.take k ++ d.pm.ids.drop (k + 1) }) := by
  refine calls_abs fun R hR => ?_
  have hf1 := hf.alloc (.cells #[.int .i64 9, .int .i64 a, .int .i64 b, .int .i64 y] 80)
  have rw0 := Row.new w 80 [.int .i64 9, .int .i64 a, .int .i64 b, .int .i64 y]
  have o0 := rw0.cell 0 rfl
  have o1 := rw0.cell 1 rfl
  obtain ⟨kg, kcap, hkv, hkc⟩ := orow_form (Mdl.ke hf1) (by omega)
  have c2 := (Mdl.cells hf1).2.2.1
  have f2 := (Mdl.cells hf1).2.2.2.2 2
  rw [hkv] at c2
  have hkl := h.kl
  obtain ⟨kn, hknn⟩ : ∃ z, z = d.keeps.length := ⟨_, rfl⟩
  rw [← hknn] at c2 hkl hk hkn hkc hkv hk1
  have HF := Lib.hid hf1
  have HST := Lib.hid h
  have HKN := Lib.hid hknn
  have HKV := Lib.hid hkv
  have HROW : Hid (∀ wl, Only [] (w.alloc (.cells #[.int .i64 9, .int .i64 a, .int .i64 b, .int .i64 y] 80)) wl → ∀ j u, (keC d.keeps)[j]? = some u → wl.cell? ⟨kg, j, none⟩ = some u) := fun wl ho j u hu => by
    have h1 := Mdl.ke hf1
    rw [hkv, ← hknn] at h1
    have h2 := World.ownsRow.cellAt h1 j (by have := (List.getElem?_eq_some_iff.1 hu).1; rw [keC_len] at this; omega)
    exact ho.cell0 (h2.trans hu)
  have HAP : Hid (kg ≠ mb) := by
    have := (Mx.apart (Mdl.toMx hf1)).2.2
    rw [hkv] at this
    exact fun e => this (by rw [e]; rfl)
  obtain ⟨⟨t1, t2⟩, t3⟩ := tmod_place a (n := (kn : Int)) (by omega)
  rw [← hk] at t3
  obtain ⟨r, hr⟩ : ∃ r, r = a.tmod (kn : Int) := ⟨_, rfl⟩
  rw [← hr] at t1 t2 t3
  replace hr := hr.symm
  have t4 : (r + (kn : Int)) % (kn : Int) = (k : Int) := by rw [← t3, Int.tmod_eq_emod_of_nonneg (by omega)]
  have hkp : (0 : Int) < (kn : Int) := by omega
  clear hf hf1 h wa wb rw0 hknn hkv hk
  go_enter Tryz.func86, Tryz.ntmps86
  go_upto_region 1 with fail
  generalize (w.alloc (.cells #[.int .i64 9, .int .i64 a, .int .i64 b, .int .i64 y] 80)) = w1 at *
  go_upto_region 26 with fail
  have b1 : (0 : Int) ≤ (k : Int) := by omega
  have b2 : (k : Int) ≤ (kn : Int) := by omega
  have b3 : (k : Int) ≤ (kcap : Int) := by omega
  have b4 : (0 : Int) ≤ (k : Int) + 1 := by omega
  have b5 : (k : Int) + 1 ≤ (kn : Int) := by omega
  have b6 : (kn : Int) ≤ (kcap : Int) := by omega
  have hw1 : IntKind.i64.wrap ((k : Int) + 1) = (k : Int) + 1 := IntWalk.i64_in _ (by omega)
  have HNT : Hid (∀ wl, Only [] w1 wl → ∀ (j : Nat) (u : Value), (keC (d.keeps.take k))[j]? = some u → wl.cell? ((⟨kg, 0, none⟩ : Addr).add j) = some u) := fun wl ho j u hu => by
    rw [addr_add, Nat.zero_add]
    exact HROW.out wl ho j u (keC_take _ _ j u hu)
  have HLT : Hid ((d.keeps.take k).length = k) := by show _ = _; rw [List.length_take, ← HKN.out]; omega
  have HND : Hid (∀ wl, Only [] w1 wl → ∀ (j : Nat) (u : Value), (keC (d.keeps.drop (k + 1)))[j]? = some u → wl.cell? ((⟨kg, (k + 1) * 2, none⟩ : Addr).add j) = some u) := fun wl ho j u hu => by
    rw [addr_add]
    exact HROW.out wl ho _ u (keC_drop _ (by rw [← HKN.out]; omega) j u hu)
  have HLD : Hid ((d.keeps.drop (k + 1)).length = kn - (k + 1)) := by show _ = _; rw [List.length_drop, ← HKN.out]
  have HFIN : Hid (∀ wx (kv' : Value), Fam w0 wx (Mx mb x.sv x.rv kv' d.lost x.ss x.rs (([] ++ d.keeps.take k) ++ d.keeps.drop (k + 1)) x.ss d.slots x.rs d.refs ++ [CoA cb c]) → R (.returned (.bool true)) wx) := fun wx kv' hx => by
    refine hR.out _ _ (Acted.of (Mdl.ofMx hx) ⟨HST.out.sf.keeps (fun p hp => .inl ?_), HST.out.ok, ?_, HST.out.sl, HST.out.ln⟩ (fun e => ⟨e, ?_⟩))
    · rw [List.nil_append] at hp
      rcases List.mem_append.1 hp with h | h
      · exact List.mem_of_mem_take h
      · exact List.mem_of_mem_drop h
    · have := HST.out.kl
      show (([] ++ d.keeps.take k) ++ d.keeps.drop (k + 1)).length ≤ 30
      rw [List.nil_append, List.length_append, List.length_take, List.length_drop]
      omega
    · show Pm.mk _ _ ((([] ++ d.keeps.take k) ++ d.keeps.drop (k + 1)).map _) = _
      rw [List.nil_append, List.map_append, List.map_take, List.map_drop]
      rfl
  have hck : ¬ kcap = k + 1 := by omega
  have hck2 : ¬ k + 1 = kcap := by omega
  have HB1 : Hid (k ≤ 1000000) := by show _ ≤ _; omega
  have HB2 : Hid (kn - 1 ≤ 1000000) := by show _ ≤ _; omega
  have HN1 : Hid (([] : List (Int × Nat)).length + k = k) := by show _ = _; simp
  have HN2 : Hid (([] ++ d.keeps.take k).length + (kn - (k + 1)) = kn - 1) := by show _ = _; rw [List.nil_append, HLT.out]; omega
  have HM2 : Hid (0 < kn - (k + 1)) := by show 0 < _; omega
  have HK0 : Hid (0 < k) := hk0
  have HEND : Hid (∀ g1 cap1 w2, Only (Value.slice none 0 0).ownBlock.toList w1.drew w2 → ((Value.slice (some ⟨g1, 0, none⟩) k cap1).ownBlock = (Value.slice none 0 0).ownBlock ∨ (Value.slice (some ⟨g1, 0, none⟩) k cap1).ownBlock = some w1.drew.heap.size) → ∀ v3 w3, w3.ownsRow 0 140 2 v3 (([] ++ d.keeps.take k) ++ d.keeps.drop (k + 1)).length (keC (([] ++ d.keeps.take k) ++ d.keeps.drop (k + 1))) → Only (Value.slice (some ⟨g1, 0, none⟩) k cap1).ownBlock.toList w2 w3 → (v3.ownBlock = (Value.slice (some ⟨g1, 0, none⟩) k cap1).ownBlock ∨ v3.ownBlock = some w2.heap.size) → (w3.cell? ⟨mb, 2, none⟩ = some (.slice (some ⟨kg, 0, none⟩) kn kcap) ∧ w3.frozen? ⟨mb, 2, none⟩ = false) ∧ Hid (Fam w0 (w3.setCell ⟨mb, 2, none⟩ v3) (Mx mb x.sv x.rv v3 d.lost x.ss x.rs (([] ++ d.keeps.take k) ++ d.keeps.drop (k + 1)) x.ss d.slots x.rs d.refs ++ [CoA cb c]))) := fun g1 cap1 w2 h2 h3 v3 w3 h4 h5 h6 => by
    have e1 : g1 = w1.heap.size := by
      rcases h3 with h3 | h3
      · cases h3
      · exact Option.some.inj h3
    have o1 : Only [] w1 w2 := ((Only.refl [] w1).drew).trans h2 (by simp [Value.ownBlock])
    have o2 : Only [] w1 w3 := o1.trans h5 (fun z hz => .inr (by rw [Value.ownBlock] at hz; simp at hz; omega))
    rw [← HKV.out]
    refine Mx.new2 (Mdl.toMx HF.out) h4 o2 (fun z hz => ?_)
    rcases h6 with h6 | h6
    · rw [h6] at hz
      have : g1 = z := by simpa [Value.ownBlock] using hz
      omega
    · rw [h6] at hz
      have := Option.some.inj hz
      have := o1.size
      omega
  clear t1 t2 t3 t4 hr hk0 hk1 hkn
  go_region_law (first
    | (refine step_keN (by rfl) (.const (.slice none 0 0)) (.tmp 152) (by rfl) (.slice none 0 0) [] (by rfl) (World.ownsRow_nil _ _ _ _) ⟨kg, 0, none⟩ k kcap (d.keeps.take k) (by rfl) HLT.out (HNT.out _ (by first | exact (Only.refl _ _).drew | exact (Only.refl _ _))) HK0.out k HN1.out HB1.out ?_; intro g1 cap1 w2 h1 h2 h3; have ho2 : Only [] w1 w2 := ((Only.refl [] w1).drew).trans h2 (by simp [Value.ownBlock]); have z2 := ho2.cell0 c2)
    | (refine step_keN (by rfl) (.tmp 153) (.tmp 160) (by rfl) _ ([] ++ d.keeps.take k) (by rfl) h1 ⟨kg, (k + 1) * 2, none⟩ (kn - (k + 1)) (kcap - (k + 1)) (d.keeps.drop (k + 1)) (by rfl) HLD.out (HND.out _ ho2) HM2.out (kn - 1) HN2.out HB2.out ?_; intro g2 cap2 w3 h4 h5 h6; obtain ⟨⟨cst, fst⟩, FE⟩ := HEND.out _ _ _ h2 h3 _ _ h4 h5 h6))
  all_goals
    have HE := Lib.hid (HFIN.out _ _ FE.out)
    clear h1 h2 h3 ho2 z2 h4 h5 h6 cst fst FE
    go_wp2_with fail
    exact HE.out
theorem act_9B (w : World) (hf : Fam w0 w (Mdl mb d x ++ [CoA cb c])) (hN : N ≤ 1000) (h : St N d K φ c) (a b y : Int) (wa : wfI a) (wb : wfI b) {k : Nat} (hk : (k : Int) = a % (d.keeps.length : Int)) (hkn : k < d.keeps.length) (hk0 : 0 < k) (hk1 : d.keeps.length = k + 1) :
    Calls Tryz.prog 86 #[.pointer (some ⟨mb, 0, none⟩), .pointer (some ⟨cb, 0, none⟩), .agg #[.int .i64 9, .int .i64 a, .int .i64 b, .int .i64 y]] w (Acted w0 mb cb N d.lost { d.pm with ids := d.pm.ids.take k ++ d.pm.ids.drop (k + 1) }) := by
  refine calls_abs fun R hR => ?_
  have hf1 := hf.alloc (.cells #[.int .i64 9, .int .i64 a, .int .i64 b, .int .i64 y] 80)
  have rw0 := Row.new w 80 [.int .i64 9, .int .i64 a, .int .i64 b, .int .i64 y]
  have o0 := rw0.cell 0 rfl
  have o1 := rw0.cell 1 rfl
  obtain ⟨kg, kcap, hkv, hkc⟩ := orow_form (Mdl.ke hf1) (by omega)
  have c2 := (Mdl.cells hf1).2.2.1
  have f2 := (Mdl.cells hf1).2.2.2.2 2
  rw [hkv] at c2
  have hkl := h.kl
  obtain ⟨kn, hknn⟩ : ∃ z, z = d.keeps.length := ⟨_, rfl⟩
  rw [← hknn] at c2 hkl hk hkn hkc hkv hk1
  have HF := Lib.hid hf1
  have HST := Lib.hid h
  have HKN := Lib.hid hknn
  have HKV := Lib.hid hkv
  have HROW : Hid (∀ wl, Only [] (w.alloc (.cells #[.int .i64 9, .int .i64 a, .int .i64 b, .int .i64 y] 80)) wl → ∀ j u, (keC d.keeps)[j]? = some u → wl.cell? ⟨kg, j, none⟩ = some u) := fun wl ho j u hu => by
    have h1 := Mdl.ke hf1
    rw [hkv, ← hknn] at h1
    have h2 := World.ownsRow.cellAt h1 j (by have := (List.getElem?_eq_some_iff.1 hu).1; rw [keC_len] at this; omega)
    exact ho.cell0 (h2.trans hu)
  have HAP : Hid (kg ≠ mb) := by
    have := (Mx.apart (Mdl.toMx hf1)).2.2
    rw [hkv] at this
    exact fun e => this (by rw [e]; rfl)
  obtain ⟨⟨t1, t2⟩, t3⟩ := tmod_place a (n := (kn : Int)) (by omega)
  rw [← hk] at t3
  obtain ⟨r, hr⟩ : ∃ r, r = a.tmod (kn : Int) := ⟨_, rfl⟩
  rw [← hr] at t1 t2 t3
  replace hr := hr.symm
  have t4 : (r + (kn : Int)) % (kn : Int) = (k : Int) := by rw [← t3, Int.tmod_eq_emod_of_nonneg (by omega)]
  have hkp : (0 : Int) < (kn : Int) := by omega
  clear hf hf1 h wa wb rw0 hknn hkv hk
  have HK1 := Lib.hid hk1
  clear hk1
  go_enter Tryz.func86, Tryz.ntmps86
  go_upto_region 1 with fail
  generalize (w.alloc (.cells #[.int .i64 9, .int .i64 a, .int .i64 b, .int .i64 y] 80)) = w1 at *
  go_upto_region 26 with fail
  have b1 : (0 : Int) ≤ (k : Int) := by omega
  have b2 : (k : Int) ≤ (kn : Int) := by omega
  have b3 : (k : Int) ≤ (kcap : Int) := by omega
  have b4 : (0 : Int) ≤ (k : Int) + 1 := by omega
  have b5 : (k : Int) + 1 ≤ (kn : Int) := by omega
  have b6 : (kn : Int) ≤ (kcap : Int) := by omega
  have hw1 : IntKind.i64.wrap ((k : Int) + 1) = (k : Int) + 1 := IntWalk.i64_in _ (by omega)
  have HNT : Hid (∀ wl, Only [] w1 wl → ∀ (j : Nat) (u : Value), (keC (d.keeps.take k))[j]? = some u → wl.cell? ((⟨kg, 0, none⟩ : Addr).add j) = some u) := fun wl ho j u hu => by
    rw [addr_add, Nat.zero_add]
    exact HROW.out wl ho j u (keC_take _ _ j u hu)
  have HLT : Hid ((d.keeps.take k).length = k) := by show _ = _; rw [List.length_take, ← HKN.out]; omega
  have HND : Hid (∀ wl, Only [] w1 wl → ∀ (j : Nat) (u : Value), (keC (d.keeps.drop (k + 1)))[j]? = some u → wl.cell? ((⟨kg, (k + 1) * 2, none⟩ : Addr).add j) = some u) := fun wl ho j u hu => by
    rw [addr_add]
    exact HROW.out wl ho _ u (keC_drop _ (by rw [← HKN.out]; omega) j u hu)
  have HLD : Hid ((d.keeps.drop (k + 1)).length = kn - (k + 1)) := by show _ = _; rw [List.length_drop, ← HKN.out]
  have HFIN : Hid (∀ wx (kv' : Value), Fam w0 wx (Mx mb x.sv x.rv kv' d.lost x.ss x.rs (([] ++ d.keeps.take k) ++ d.keeps.drop (k + 1)) x.ss d.slots x.rs d.refs ++ [CoA cb c]) → R (.returned (.bool true)) wx) := fun wx kv' hx => by
    refine hR.out _ _ (Acted.of (Mdl.ofMx hx) ⟨HST.out.sf.keeps (fun p hp => .inl ?_), HST.out.ok, ?_, HST.out.sl, HST.out.ln⟩ (fun e => ⟨e, ?_⟩))
    · rw [List.nil_append] at hp
      rcases List.mem_append.1 hp with h | h
      · exact List.mem_of_mem_take h
      · exact List.mem_of_mem_drop h
    · have := HST.out.kl
      show (([] ++ d.keeps.take k) ++ d.keeps.drop (k + 1)).length ≤ 30
      rw [List.nil_append, List.length_append, List.length_take, List.length_drop]
      omega
    · show Pm.mk _ _ ((([] ++ d.keeps.take k) ++ d.keeps.drop (k + 1)).map _) = _
      rw [List.nil_append, List.map_append, List.map_take, List.map_drop]
      rfl
  obtain rfl : kn = k + 1 := HK1.out
  have HN1 : Hid (([] : List (Int × Nat)).length + k = k) := by show _ = _; simp
  have HB1 : Hid (k ≤ 1000000) := by show _ ≤ _; omega
  have HK0 : Hid (0 < k) := hk0
  have HDN : Hid (d.keeps.drop (k + 1) = []) := List.eq_nil_of_length_eq_zero (by rw [HLD.out]; omega)
  have HEND : Hid (∀ g1 cap1 w2, Only (Value.slice none 0 0).ownBlock.toList w1.drew w2 → ((Value.slice (some ⟨g1, 0, none⟩) k cap1).ownBlock = (Value.slice none 0 0).ownBlock ∨ (Value.slice (some ⟨g1, 0, none⟩) k cap1).ownBlock = some w1.drew.heap.size) → w2.ownsRow 0 140 2 (.slice (some ⟨g1, 0, none⟩) k cap1) ([] ++ d.keeps.take k).length (keC ([] ++ d.keeps.take k)) → (w2.cell? ⟨mb, 2, none⟩ = some (.slice (some ⟨kg, 0, none⟩) (k + 1) kcap) ∧ w2.frozen? ⟨mb, 2, none⟩ = false) ∧ Hid (Fam w0 (w2.setCell ⟨mb, 2, none⟩ (.slice (some ⟨g1, 0, none⟩) k cap1)) (Mx mb x.sv x.rv (.slice (some ⟨g1, 0, none⟩) k cap1) d.lost x.ss x.rs (([] ++ d.keeps.take k) ++ d.keeps.drop (k + 1)) x.ss d.slots x.rs d.refs ++ [CoA cb c])) ∧ k ≤ cap1) := fun g1 cap1 w2 h2 h3 h1 => by
    have e1 : g1 = w1.heap.size := by
      rcases h3 with h3 | h3
      · cases h3
      · exact Option.some.inj h3
    have o1 : Only [] w1 w2 := ((Only.refl [] w1).drew).trans h2 (by simp [Value.ownBlock])
    rw [← HKV.out]
    obtain ⟨z1, z2⟩ := Mx.new2 (ks' := ([] ++ d.keeps.take k) ++ d.keeps.drop (k + 1)) (Mdl.toMx HF.out) (by rw [HDN.out, List.append_nil]; exact h1) o1 (fun z hz => by
      have : g1 = z := by simpa [Value.ownBlock] using hz
      omega)
    refine ⟨z1, z2, ?_⟩
    obtain ⟨g', c', e2, e3⟩ := orow_form h1 (by rw [List.nil_append, HLT.out]; have := HK0.out; omega)
    simp only [Value.slice.injEq] at e2
    rw [e2.2.2]
    rw [List.nil_append, HLT.out] at e3
    exact e3
  clear t1 t2 t3 t4 hr hk0 HK1 hkn
  go_region_law (first
    | (refine step_keN (by rfl) (.const (.slice none 0 0)) (.tmp 152) (by rfl) (.slice none 0 0) [] (by rfl) (World.ownsRow_nil _ _ _ _) ⟨kg, 0, none⟩ k kcap (d.keeps.take k) (by rfl) HLT.out (HNT.out _ (by first | exact (Only.refl _ _).drew | exact (Only.refl _ _))) HK0.out k HN1.out HB1.out ?_; intro g1 cap1 w2 h1 h2 h3; have ho2 : Only [] w1 w2 := ((Only.refl [] w1).drew).trans h2 (by simp [Value.ownBlock]); have z2 := ho2.cell0 c2; obtain ⟨⟨cst, fst⟩, FE, hle⟩ := HEND.out _ _ _ h2 h3 h1)
    | (refine step_ke0 (by rfl) (.tmp 153) (.tmp 160) (by rfl) _ _ _ hle _ _ (by rfl) (by rfl) ?_))
  all_goals
    have HE := Lib.hid (HFIN.out _ _ FE.out)
    clear h1 h2 h3 ho2 z2 cst fst FE hle
    go_wp2_with fail
    exact HE.out
theorem act_9C (w : World) (hf : Fam w0 w (Mdl mb d x ++ [CoA cb c])) (hN : N ≤ 1000) (h : St N d K φ c) (a b y : Int) (wa : wfI a) (wb : wfI b) {k : Nat} (hk : (k : Int) = a % (d.keeps.length : Int)) (hkn : k < d.keeps.length) (hk0 : k = 0) (hk1 : 1 < d.keeps.length) :
    Calls Tryz.prog 86 #[.pointer (some ⟨mb, 0, none⟩), .pointer (some ⟨cb, 0, none⟩), .agg #[.int .i64 9, .int .i64 a, .int .i64 b, .int .i64 y]] w (Acted w0 mb cb N d.lost { d.pm with ids := d.pm.ids.drop 1 }) := by
  subst hk0
  refine calls_abs fun R hR => ?_
  have hf1 := hf.alloc (.cells #[.int .i64 9, .int .i64 a, .int .i64 b, .int .i64 y] 80)
  have rw0 := Row.new w 80 [.int .i64 9, .int .i64 a, .int .i64 b, .int .i64 y]
  have o0 := rw0.cell 0 rfl
  have o1 := rw0.cell 1 rfl
  obtain ⟨kg, kcap, hkv, hkc⟩ := orow_form (Mdl.ke hf1) (by omega)
  have c2 := (Mdl.cells hf1).2.2.1
  have f2 := (Mdl.cells hf1).2.2.2.2 2
  rw [hkv] at c2
  have hkl := h.kl
  obtain ⟨kn, hknn⟩ : ∃ z, z = d.keeps.length := ⟨_, rfl⟩
  rw [← hknn] at c2 hkl hk hkn hkc hkv hk1
  have HF := Lib.hid hf1
  have HST := Lib.hid h
  have HKN := Lib.hid hknn
  have HKV := Lib.hid hkv
  have HROW : Hid (∀ wl, Only [] (w.alloc (.cells #[.int .i64 9, .int .i64 a, .int .i64 b, .int .i64 y] 80)) wl → ∀ j u, (keC d.keeps)[j]? = some u → wl.cell? ⟨kg, j, none⟩ = some u) := fun wl ho j u hu => by
    have h1 := Mdl.ke hf1
    rw [hkv, ← hknn] at h1
    have h2 := World.ownsRow.cellAt h1 j (by have := (List.getElem?_eq_some_iff.1 hu).1; rw [keC_len] at this; omega)
    exact ho.cell0 (h2.trans hu)
  have HAP : Hid (kg ≠ mb) := by
    have := (Mx.apart (Mdl.toMx hf1)).2.2
    rw [hkv] at this
    exact fun e => this (by rw [e]; rfl)
  obtain ⟨⟨t1, t2⟩, t3⟩ := tmod_place a (n := (kn : Int)) (by omega)
  have hk9 : a % (kn : Int) = 0 := hk.symm
  rw [hk9] at t3
  obtain ⟨r, hr⟩ : ∃ r, r = a.tmod (kn : Int) := ⟨_, rfl⟩
  rw [← hr] at t1 t2 t3
  replace hr := hr.symm
  have t4 : (r + (kn : Int)) % (kn : Int) = 0 := by rw [← t3, Int.tmod_eq_emod_of_nonneg (by omega)]
  have hkp : (0 : Int) < (kn : Int) := by omega
  clear hf hf1 h wa wb rw0 hknn hkv hk hk9
  go_enter Tryz.func86, Tryz.ntmps86
  go_upto_region 1 with fail
  generalize (w.alloc (.cells #[.int .i64 9, .int .i64 a, .int .i64 b, .int .i64 y] 80)) = w1 at *
  go_upto_region 26 with fail
  have b6 : (kn : Int) ≤ (kcap : Int) := by omega
  have b7 : (1 : Int) ≤ (kn : Int) := by omega
  have b8 : (0 : Int) ≤ (kcap : Int) := by omega
  have hw1 : IntKind.i64.wrap (1 : Int) = 1 := by decide
  have HND : Hid (∀ wl, Only [] w1 wl → ∀ (j : Nat) (u : Value), (keC (d.keeps.drop 1))[j]? = some u → wl.cell? ((⟨kg, 2, none⟩ : Addr).add j) = some u) := fun wl ho j u hu => by
    rw [addr_add]
    exact HROW.out wl ho _ u (keC_drop _ (by rw [← HKN.out]; omega) j u hu)
  have HLD : Hid ((d.keeps.drop 1).length = kn - 1) := by show _ = _; rw [List.length_drop, ← HKN.out]
  have HFIN : Hid (∀ wx (kv' : Value), Fam w0 wx (Mx mb x.sv x.rv kv' d.lost x.ss x.rs ([] ++ d.keeps.drop 1) x.ss d.slots x.rs d.refs ++ [CoA cb c]) → R (.returned (.bool true)) wx) := fun wx kv' hx => by
    refine hR.out _ _ (Acted.of (Mdl.ofMx hx) ⟨HST.out.sf.keeps (fun p hp => .inl ?_), HST.out.ok, ?_, HST.out.sl, HST.out.ln⟩ (fun e => ⟨e, ?_⟩))
    · rw [List.nil_append] at hp
      exact List.mem_of_mem_drop hp
    · have := HST.out.kl
      show ([] ++ d.keeps.drop 1).length ≤ 30
      rw [List.nil_append, List.length_drop]
      omega
    · show Pm.mk _ _ (([] ++ d.keeps.drop 1).map _) = _
      rw [List.nil_append, List.map_drop]
      rfl
  have hck : ¬ kcap = 1 := by omega
  have hck2 : ¬ 1 = kcap := by omega
  have HB2 : Hid (kn - 1 ≤ 1000000) := by show _ ≤ _; omega
  have HN2 : Hid (([] : List (Int × Nat)).length + (kn - 1) = kn - 1) := by show _ = _; simp
  have HM2 : Hid (0 < kn - 1) := by show 0 < _; omega
  have HEND : Hid (∀ v3 w3, w3.ownsRow 0 140 2 v3 ([] ++ d.keeps.drop 1).length (keC ([] ++ d.keeps.drop 1)) → Only (Value.slice none 0 0).ownBlock.toList w1.drew w3 → (v3.ownBlock = (Value.slice none 0 0).ownBlock ∨ v3.ownBlock = some w1.drew.heap.size) → (w3.cell? ⟨mb, 2, none⟩ = some (.slice (some ⟨kg, 0, none⟩) kn kcap) ∧ w3.frozen? ⟨mb, 2, none⟩ = false) ∧ Hid (Fam w0 (w3.setCell ⟨mb, 2, none⟩ v3) (Mx mb x.sv x.rv v3 d.lost x.ss x.rs ([] ++ d.keeps.drop 1) x.ss d.slots x.rs d.refs ++ [CoA cb c]))) := fun v3 w3 h4 h5 h6 => by
    have o2 : Only [] w1 w3 := ((Only.refl [] w1).drew).trans h5 (by simp [Value.ownBlock])
    rw [← HKV.out]
    refine Mx.new2 (Mdl.toMx HF.out) h4 o2 (fun z hz => ?_)
    rcases h6 with h6 | h6
    · rw [h6] at hz; cases hz
    · rw [h6] at hz
      have := Option.some.inj hz
      have e : w1.drew.heap.size = w1.heap.size := rfl
      omega
  clear t1 t2 t3 t4 hr hk1 hkn
  go_region_law (first
    | (refine step_ke0 (by rfl) (.const (.slice none 0 0)) (.tmp 152) (by rfl) none 0 0 (Nat.le_refl _) _ _ (by rfl) (by rfl) ?_)
    | (refine step_keN (by rfl) (.tmp 153) (.tmp 160) (by rfl) (.slice none 0 0) [] (by rfl) (World.ownsRow_nil _ _ _ _) ⟨kg, 2, none⟩ (kn - 1) (kcap - 1) (d.keeps.drop 1) (by rfl) HLD.out (HND.out _ (by first | exact (Only.refl _ _).drew | exact (Only.refl _ _))) HM2.out (kn - 1) HN2.out HB2.out ?_; intro g2 cap2 w3 h4 h5 h6; obtain ⟨⟨cst, fst⟩, FE⟩ := HEND.out _ _ h4 h5 h6))
  all_goals
    have HE := Lib.hid (HFIN.out _ _ FE.out)
    clear h4 h5 h6 cst fst FE
    go_wp2_with fail
    exact HE.out
theorem act_9D (w : World) (hf : Fam w0 w (Mdl mb d x ++ [CoA cb c])) (hN : N ≤ 1000) (h : St N d K φ c) (a b y : Int) (wa : wfI a) (wb : wfI b) {k : Nat} (hk : (k : Int) = a % (d.keeps.length : Int)) (hkn : k < d.keeps.length) (hk0 : k = 0) (hk1 : d.keeps.length = 1) :
    Calls Tryz.prog 86 #[.pointer (some ⟨mb, 0, none⟩), .pointer (some ⟨cb, 0, none⟩), .agg #[.int .i64 9, .int .i64 a, .int .i64 b, .int .i64 y]] w (Acted w0 mb cb N d.lost { d.pm with ids := d.pm.ids.drop 1 }) := by
  subst hk0
  refine calls_abs fun R hR => ?_
  have hf1 := hf.alloc (.cells #[.int .i64 9, .int .i64 a, .int .i64 b, .int .i64 y] 80)
  have rw0 := Row.new w 80 [.int .i64 9, .int .i64 a, .int .i64 b, .int .i64 y]
  have o0 := rw0.cell 0 rfl
  have o1 := rw0.cell 1 rfl
  obtain ⟨kg, kcap, hkv, hkc⟩ := orow_form (Mdl.ke hf1) (by omega)
  have c2 := (Mdl.cells hf1).2.2.1
  have f2 := (Mdl.cells hf1).2.2.2.2 2
  rw [hkv] at c2
  have hkl := h.kl
  obtain ⟨kn, hknn⟩ : ∃ z, z = d.keeps.length := ⟨_, rfl⟩
  rw [← hknn] at c2 hkl hk hkn hkc hkv hk1
  have HF := Lib.hid hf1
  have HST := Lib.hid h
  have HKN := Lib.hid hknn
  have HKV := Lib.hid hkv
  have HROW : Hid (∀ wl, Only [] (w.alloc (.cells #[.int .i64 9, .int .i64 a, .int .i64 b, .int .i64 y] 80)) wl → ∀ j u, (keC d.keeps)[j]? = some u → wl.cell? ⟨kg, j, none⟩ = some u) := fun wl ho j u hu => by
    have h1 := Mdl.ke hf1
    rw [hkv, ← hknn] at h1
    have h2 := World.ownsRow.cellAt h1 j (by have := (List.getElem?_eq_some_iff.1 hu).1; rw [keC_len] at this; omega)
    exact ho.cell0 (h2.trans hu)
  have HAP : Hid (kg ≠ mb) := by
    have := (Mx.apart (Mdl.toMx hf1)).2.2
    rw [hkv] at this
    exact fun e => this (by rw [e]; rfl)
  obtain ⟨⟨t1, t2⟩, t3⟩ := tmod_place a (n := (kn : Int)) (by omega)
  have hk9 : a % (kn : Int) = 0 := hk.symm
  rw [hk9] at t3
  obtain ⟨r, hr⟩ : ∃ r, r = a.tmod (kn : Int) := ⟨_, rfl⟩
  rw [← hr] at t1 t2 t3
  replace hr := hr.symm
  have t4 : (r + (kn : Int)) % (kn : Int) = 0 := by rw [← t3, Int.tmod_eq_emod_of_nonneg (by omega)]
  have hkp : (0 : Int) < (kn : Int) := by omega
  clear hf hf1 h wa wb rw0 hknn hkv hk hk9
  have HK1 := Lib.hid hk1
  clear hk1
  go_enter Tryz.func86, Tryz.ntmps86
  go_upto_region 1 with fail
  generalize (w.alloc (.cells #[.int .i64 9, .int .i64 a, .int .i64 b, .int .i64 y] 80)) = w1 at *
  go_upto_region 26 with fail
  have b6 : (kn : Int) ≤ (kcap : Int) := by omega
  have b7 : (1 : Int) ≤ (kn : Int) := by omega
  have b8 : (0 : Int) ≤ (kcap : Int) := by omega
  have hw1 : IntKind.i64.wrap (1 : Int) = 1 := by decide
  have HND : Hid (∀ wl, Only [] w1 wl → ∀ (j : Nat) (u : Value), (keC (d.keeps.drop 1))[j]? = some u → wl.cell? ((⟨kg, 2, none⟩ : Addr).add j) = some u) := fun wl ho j u hu => by
    rw [addr_add]
    exact HROW.out wl ho _ u (keC_drop _ (by rw [← HKN.out]; omega) j u hu)
  have HLD : Hid ((d.keeps.drop 1).length = kn - 1) := by show _ = _; rw [List.length_drop, ← HKN.out]
  have HFIN : Hid (∀ wx (kv' : Value), Fam w0 wx (Mx mb x.sv x.rv kv' d.lost x.ss x.rs ([] ++ d.keeps.drop 1) x.ss d.slots x.rs d.refs ++ [CoA cb c]) → R (.returned (.bool true)) wx) := fun wx kv' hx => by
    refine hR.out _ _ (Acted.of (Mdl.ofMx hx) ⟨HST.out.sf.keeps (fun p hp => .inl ?_), HST.out.ok, ?_, HST.out.sl, HST.out.ln⟩ (fun e => ⟨e, ?_⟩))
    · rw [List.nil_append] at hp
      exact List.mem_of_mem_drop hp
    · have := HST.out.kl
      show ([] ++ d.keeps.drop 1).length ≤ 30
      rw [List.nil_append, List.length_drop]
      omega
    · show Pm.mk _ _ (([] ++ d.keeps.drop 1).map _) = _
      rw [List.nil_append, List.map_drop]
      rfl
  obtain rfl : kn = 1 := HK1.out
  have HDN : Hid (d.keeps.drop 1 = []) := List.eq_nil_of_length_eq_zero HLD.out
  have HEND : Hid (Fam w0 (w1.drew.setCell ⟨mb, 2, none⟩ (.slice none 0 0)) (Mx mb x.sv x.rv (.slice none 0 0) d.lost x.ss x.rs ([] ++ d.keeps.drop 1) x.ss d.slots x.rs d.refs ++ [CoA cb c])) := (Mx.new2 (Mdl.toMx HF.out.drew) (by rw [HDN.out]; exact World.ownsRow_nil _ _ _ _) (Only.refl _ _) (fun z hz => by cases hz)).2.out
  have HE := Lib.hid (HFIN.out _ _ HEND.out)
  clear t1 t2 t3 t4 hr HK1 hkn HEND HFIN
  go_region_law (first
    | (refine step_ke0 (by rfl) (.const (.slice none 0 0)) (.tmp 152) (by rfl) none 0 0 (Nat.le_refl _) _ _ (by rfl) (by rfl) ?_)
    | (refine step_ke0 (by rfl) (.tmp 153) (.tmp 160) (by rfl) none 0 0 (Nat.le_refl _) _ _ (by rfl) (by rfl) ?_))
  all_goals
    go_wp2_with fail
    exact HE.out
end
end Go.Proofs.YthflghdaejbdkaaGreat
