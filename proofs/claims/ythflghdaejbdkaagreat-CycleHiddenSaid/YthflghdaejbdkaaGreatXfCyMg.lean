/- Lemmas of this claim. -/
import Derived.Test.YthflghdaejbdkaaGreatXfCyMh
import Derived.Test.YthflghdaejbdkaaGreatXfCyMf
import Derived.Laws.ResultCell
namespace Go.Proofs.YthflghdaejbdkaaGreat
open Go.RowKit Go.Maps
set_option maxHeartbeats 6400000
set_option maxRecDepth 100000
set_option linter.unusedVariables false
structure St (N : Nat) (d : Md) (K : Nat → Prop) (φ : Nat → Int) (c : Co) : Prop where
  sf : Sf d K φ c
  ok : c.Ok
  kl : d.keeps.length ≤ 30
  sl : d.slots.length ≤ N
  ln : ∀ i, (d.sl i).length ≤ 48
section
variable {w0 w : World} {l : List Asn} {mb cb N : Nat} {d : Md} {x : MdX} {K : Nat → Prop} {φ : Nat → Int} {c : Co}
theorem Mdl.slotAt (h : Fam w0 w (Mdl mb d x ++ l)) {j s : Nat} (hj : j < d.slots.length) (hs : s < (d.sl j).length) : ∃ sg scap g cap, x.sv = .slice (some ⟨sg, 0, none⟩) d.slots.length scap ∧ x.ss[j]? = some (.slice (some ⟨g, 0, none⟩) (d.sl j).length cap) ∧ w.cell? ⟨sg, j, none⟩ = some (.slice (some ⟨g, 0, none⟩) (d.sl j).length cap) ∧ w.cell? ⟨g, s, none⟩ = some (.int .i64 (gI (d.sl j) s)) ∧ w.frozen? ⟨g, s, none⟩ = false := by
  obtain ⟨v, hv, hi⟩ := Mdl.slots h hj
  obtain ⟨g, cap, rfl, hc⟩ := hi.cellsOf (by omega)
  obtain ⟨sg, scap, h1, _, h2, _⟩ := Va.at (Mdl.vs h) hv
  exact ⟨sg, scap, g, cap, by rw [h1, (Mdl.lens h).1], hv, h2, hc s hs, World.ownsRow.frozenAt hi s⟩
theorem Mdl.flagAt (h : Fam w0 w (Mdl mb d x ++ l)) {j s : Nat} (hj : j < d.refs.length) (hs : s < (d.rf j).length) : ∃ rg rcap g cap, x.rv = .slice (some ⟨rg, 0, none⟩) d.refs.length rcap ∧ w.cell? ⟨rg, j, none⟩ = some (.slice (some ⟨g, 0, none⟩) (d.rf j).length cap) ∧ w.cell? ⟨g, s, none⟩ = some (.bool (gB (d.rf j) s)) := by
  obtain ⟨v, hv, hi⟩ := Mdl.flags h hj
  obtain ⟨g, cap, rfl, hc⟩ := hi.cellsOf (by omega)
  obtain ⟨rg, rcap, h1, _, h2, _⟩ := Va.at (Mdl.vr h) hv
  exact ⟨rg, rcap, g, cap, by rw [h1, (Mdl.lens h).2], h2, hc s hs⟩
theorem Mdl.keptAt (h : Fam w0 w (Mdl mb d x ++ l)) {k : Nat} {p : Int × Nat} (hp : d.keeps[k]? = some p) : ∃ g cap, x.kv = .slice (some ⟨g, 0, none⟩) d.keeps.length cap ∧ w.cell? ⟨g, k * 2, none⟩ = some (.int .i64 p.1) ∧ w.cell? ⟨g, k * 2 + 1, none⟩ = some (.int .i64 (p.2 : Int)) := by
  obtain ⟨g, cap, h1, _, h2, h3, _⟩ := Ke.at (Mdl.ke h) hp
  exact ⟨g, cap, h1, h2, h3⟩
def Acted (w0 : World) (mb cb N : Nat) (lo : Bool) (p : Pm) (e : Ending) (w' : World) : Prop :=
  e = .returned (.bool true) ∧ ∃ (d' : Md) (c' : Co) (x' : MdX) (K' : Nat → Prop) (φ' : Nat → Int), Fam w0 w' (Mdl mb d' x' ++ [CoA cb c']) ∧ St N d' K' φ' c' ∧ (d'.lost = false → lo = false ∧ d'.pm = p)
theorem store_ln {i s : Nat} {v : Int} (hi : i < d.slots.length) (j : Nat) : ((d.store i s v).sl j).length = (d.sl j).length := by
  rw [store_sl hi]
  split
  · next e => rw [List.length_set, e]
  · rfl
theorem St.put (h : St N d K φ c) {i s : Nat} (hi : K i) (hs : s < (d.sl i).length) {v z : Int} (hf : Fits K φ (gB (d.rf i) s) v z) (hw : gB (d.rf i) s = false → isWordI z = true) : (c.store (φ i) (s : Int) z).1 = 0 ∧ St N (d.store i s v) K φ (c.store (φ i) (s : Int) z).2 := by
  obtain ⟨h1, h2⟩ := h.sf.store h.ok.k hi hs hf hw
  refine ⟨h1, h2, h.ok.store _ _ _, h.kl, ?_, fun j => ?_⟩
  · show (d.slots.set _ _).length ≤ N
    rw [List.length_set]; exact h.sl
  · rw [store_ln (h.sf.rg i hi).2]; exact h.ln j
theorem pm_stored {a b y : Int} {k s : Nat} (hp : d.pm.place a b = some (k, s)) : d.pm.store a b y =
    if gB (d.rf (d.pm.idAt k)) s = false then (d.store (d.pm.idAt k) s (y.tmod 1000000)).pm
    else if (y % ((d.keeps.length : Int) + 1)).toNat = d.keeps.length then (d.store (d.pm.idAt k) s 0).pm
    else (d.store (d.pm.idAt k) s (d.pm.idAt (y % ((d.keeps.length : Int) + 1)).toNat)).pm := by
  unfold Pm.store
  rw [hp]
  simp only [pm_len, pm_store, pm_rf]
theorem mill (y : Int) : -1000000 < y.tmod 1000000 ∧ y.tmod 1000000 < 1000000 :=
  ⟨Int.lt_tmod_of_pos y (by decide), Int.tmod_lt_of_pos y (by decide)⟩
end
end Go.Proofs.YthflghdaejbdkaaGreat
namespace Go.Proofs.YthflghdaejbdkaaGreat
open Go.RowKit Go.Maps
set_option maxHeartbeats 6400000
set_option maxRecDepth 100000
set_option linter.unusedVariables false
theorem tmod_place (a : Int) {n : Int} (hn : 0 < n) : (-n < a.tmod n ∧ a.tmod n < n) ∧ (a.tmod n + n).tmod n = a % n := by
  have h1 := Int.tmod_lt_of_pos a hn
  have h2 : -n < a.tmod n := by
    have := Int.lt_tmod_of_pos a hn
    omega
  refine ⟨⟨h2, h1⟩, ?_⟩
  rw [Int.tmod_eq_emod_of_nonneg (by omega), Int.add_emod_right]
  have h := Int.mul_tdiv_add_tmod a n
  have h3 : (n * a.tdiv n + a.tmod n) % n = a.tmod n % n := by rw [Int.add_comm, Int.add_mul_emod_self_left]
  rw [← h3, h]
section
variable {w0 w : World} {l : List Asn} {mb : Nat} {d : Md} {x : MdX}
theorem sizeKe : (Tryz.prog.info? 140).map (·.size) = some 2 := by kernel_rfl
theorem results_cell_tmp2 {fn : Func} {p u v : Tmp} {ty : TypeId} (h : fn.results = #[.cell p ty, .tmp u, .tmp v]) (tmps : Array Value) (P : Program) (w : World) :
    (results fn tmps).run P w = ((asAddr (tmps.getD p undef)).run P w).andThen fun a w₁ => ((loadVar ty a).run P w₁).andThen fun y w₂ => .ok (.tuple #[y, tmps.getD u undef, tmps.getD v undef]) w₂ := by
  simp only [results, h]
  simp [Sem.run_bind, Result.andThen]
theorem ke_result {w : World} {rb : Nat} {x y : Value} {U : Nat} (h : Row w rb U [x, y]) {fn : Func} {p u v : Tmp} (hr : fn.results = #[.cell p 140, .tmp u, .tmp v]) (tmps : Array Value) (hp : tmps.getD p undef = .pointer (some ⟨rb, 0, none⟩)) : (results fn tmps).run Tryz.prog w = .ok (.tuple #[.agg #[x, y], tmps.getD u undef, tmps.getD v undef]) w := by
  have hl := run_loadVar_agg (P := Tryz.prog) w rb 0 140 [x, y] _ Tryz.underlying140 rfl sizeKe (fun j v hv => by rw [Nat.zero_add]; exact h.cell j hv)
  rw [results_cell_tmp2 hr, hp]
  simp [asAddr, Result.andThen, hl]
def PlR (d : Md) (a b : Int) (w : World) (e : Ending) (w' : World) : Prop := Only [] w w' ∧ match d.pm.place a b with
  | none => e = .returned (.tuple #[.agg #[.int .i64 0, .int .i64 0], .int .i64 0, .bool false])
  | some (k, s) => ∃ p, d.keeps[k]? = some p ∧ e = .returned (.tuple #[.agg #[.int .i64 p.1, .int .i64 (p.2 : Int)], .int .i64 (s : Int), .bool true])
theorem place_any (w : World) (hf : Fam w0 w (Mdl mb d x ++ l)) (hl : d.keeps.length ≤ 1000) (hid : ∀ p, p ∈ d.keeps → p.2 < d.slots.length) (hs48 : ∀ i, (d.sl i).length ≤ 1000) (a b : Int) (wa : wfI a) (wb : wfI b) :
    Calls Tryz.prog 221 #[.pointer (some ⟨mb, 0, none⟩), .int .i64 a, .int .i64 b] w (PlR d a b w) := by
  refine calls_abs fun R hR => ?_
  obtain ⟨ka, kc, hk⟩ := orow_len (Mdl.ke hf)
  by_cases h0 : d.keeps.length = 0
  · have HPL : Hid (d.pm.place a b = none) := by show _ = none; unfold Pm.place; rw [if_pos (pm_len.trans h0)]
    have HF : Hid (Fam w0 (w.alloc (.cells #[.int .i64 0, .int .i64 0] 140)) (Mdl mb d x ++ l)) := hf.only0 ((Only.refl _ _).alloc _)
    have HRW : Hid (Row (w.alloc (.cells #[.int .i64 0, .int .i64 0] 140)) w.heap.size 140 [.int .i64 0, .int .i64 0]) := Row.new w _ _
    have HOA : Hid (Only [] w (w.alloc (.cells #[.int .i64 0, .int .i64 0] 140))) := (Only.refl _ _).alloc _
    have c2 := (Mdl.cells HF.out).2.2.1
    rw [hk, h0] at c2
    have HR : Hid (∀ w', Only [] w w' → R (.returned (.tuple #[.agg #[.int .i64 0, .int .i64 0], .int .i64 0, .bool false])) w') := fun w' ho => hR.out _ _ ⟨ho, by rw [HPL.out]⟩
    clear hk h0 hf hid hs48 hR
    go_enter Tryz.func221, Tryz.ntmps221
    go_upto_region 1 with fail
    generalize (w.alloc (.cells #[.int .i64 0, .int .i64 0] 140)) = w1 at *
    have f0 := HRW.out.free 0
    have f1 := HRW.out.free 1
    have r0 := HRW.out.cell 0 rfl
    have r1 := HRW.out.cell 1 rfl
    generalize hrb : w.heap.size = rb at *
    have HRB := Lib.hid hrb
    clear hrb
    go_wp2_with fail
    refine bodyPost_ret (ke_result ((HRW.out.set 0 _).set 1 _) rfl _ rfl) rfl ?_
    refine HR.out _ ?_
    exact (HOA.out.set (.inr (by show _ ≤ rb; rw [HRB.out]; exact Nat.le_refl _)) _).set (.inr (by show _ ≤ rb; rw [HRB.out]; exact Nat.le_refl _)) _
  obtain ⟨n, hn⟩ : ∃ n, n = d.keeps.length := ⟨_, rfl⟩
  rw [← hn] at hk hl h0
  have hnI : (0 : Int) < n := by omega
  obtain ⟨⟨t1, t2⟩, t3⟩ := tmod_place a hnI
  have e0 := Int.emod_nonneg a (b := (n : Int)) (by omega)
  have e1 := Int.emod_lt_of_pos a hnI
  obtain ⟨k, hkk⟩ : ∃ k : Nat, (k : Int) = a % (n : Int) := ⟨(a % (n : Int)).toNat, by omega⟩
  have hkn : k < n := by omega
  obtain ⟨p, hp⟩ : ∃ p, d.keeps[k]? = some p := ⟨_, List.getElem?_eq_getElem (by rw [← hn]; exact hkn)⟩
  have hpi := hid p (List.mem_of_getElem? hp)
  have HF : Hid (∀ w', Only [] w w' → Fam w0 w' (Mdl mb d x ++ l)) := fun w' ho => hf.only0 ho
  obtain ⟨v, hv, hiv⟩ := Mdl.slots hf hpi
  obtain ⟨va, vc, hvv⟩ := hiv.len
  obtain ⟨m, hm⟩ : ∃ m, m = (d.sl p.2).length := ⟨_, rfl⟩
  have hm1 := hs48 p.2
  rw [← hm] at hvv hm1
  obtain ⟨sg, scap, hsv, hsc, hscell, _⟩ := Va.at (Mdl.vs hf) hv
  obtain ⟨kg, kcap, hkv, hkc, hk0, hk1, _⟩ := Ke.at (Mdl.ke hf) hp
  have hsl : p.2 < x.ss.length := (List.getElem?_eq_some_iff.1 hv).1
  have HC : Hid (∀ w', Only [] w w' → w'.cell? ⟨mb, 0, none⟩ = some (.slice (some ⟨sg, 0, none⟩) x.ss.length scap) ∧ w'.cell? ⟨mb, 2, none⟩ = some (.slice (some ⟨kg, 0, none⟩) n kcap) ∧ w'.cell? ⟨sg, p.2, none⟩ = some (.slice va m vc) ∧ w'.cell? ⟨kg, k * 2, none⟩ = some (.int .i64 p.1) ∧ w'.cell? ⟨kg, k * 2 + 1, none⟩ = some (.int .i64 (p.2 : Int))) := fun w' ho => by
    have hc := Mdl.cells (HF.out w' ho)
    rw [← hsv, hn, ← hkv]
    refine ⟨hc.1, hc.2.2.1, ?_, ho.cell0 hk0, ho.cell0 hk1⟩
    rw [← hvv]
    exact ho.cell0 hscell
  have HRW : Hid (Row (w.alloc (.cells #[.int .i64 0, .int .i64 0] 140)) w.heap.size 140 [.int .i64 0, .int .i64 0]) := Row.new w _ _
  have HOA : Hid (Only [] w (w.alloc (.cells #[.int .i64 0, .int .i64 0] 140))) := (Only.refl _ _).alloc _
  obtain ⟨c0, c2, cs, ck0, ck1⟩ := HC.out _ HOA.out
  obtain ⟨r, hr⟩ : ∃ r, r = a.tmod (n : Int) := ⟨_, rfl⟩
  rw [← hr, ← hkk] at t3
  rw [← hr] at t1 t2
  replace hr := hr.symm
  have hwr : IntKind.i64.wrap (r + (n : Int)) = r + (n : Int) := IntWalk.i64_in _ (by omega)
  have hk0i : (0 : Int) ≤ k := by omega
  have hkni : (k : Int) < n := by omega
  have hn0 : ¬ (n : Int) = 0 := by omega
  have hn0b : ((n : Int) == 0) = false := by rw [beq_eq_false_iff_ne]; omega
  have hp0 : (0 : Int) ≤ (p.2 : Int) := by omega
  have hps : (p.2 : Int) < (x.ss.length : Int) := by omega
  have hpl : d.pm.place a b = if m = 0 then none else some (k, (b % (m : Int)).toNat) := by
    have e2 : d.pm.ids.length = n := pm_len.trans hn.symm
    have e3 : (a % (n : Int)).toNat = k := by omega
    have e4 : d.pm.ids[k]?.getD 0 = p.2 := by
      show ((d.keeps.map (fun p => p.2))[k]?).getD 0 = _
      rw [List.getElem?_map, hp]
      rfl
    have e5 : (d.pm.sl p.2).length = m := hm.symm
    unfold Pm.place
    rw [e2, if_neg h0, e3, e4, e5]
  have HRN : Hid (m = 0 → ∀ w', Only [] w w' → R (.returned (.tuple #[.agg #[.int .i64 0, .int .i64 0], .int .i64 0, .bool false])) w') := fun e w' ho => hR.out _ _ ⟨ho, by rw [hpl, if_pos e]⟩
  have HRS : Hid (m ≠ 0 → ∀ w', Only [] w w' → R (.returned (.tuple #[.agg #[.int .i64 p.1, .int .i64 (p.2 : Int)], .int .i64 (((b % (m : Int)).toNat : Nat) : Int), .bool true])) w') := fun e w' ho => hR.out _ _ ⟨ho, by rw [hpl, if_neg e]; exact ⟨p, hp, rfl⟩⟩
  have HN := Lib.hid hn
  have HM := Lib.hid hm
  clear hn hm
  clear hid hs48 hf hv hiv hvv hsv hsc hscell hkv hkc hk0 hk1 hp hpi hk e0 e1 hkk HF hR hpl
  generalize x.ss.length = sn at *
  generalize p.2 = pid at *
  generalize p.1 = ph at *
  go_enter Tryz.func221, Tryz.ntmps221
  go_upto_region 1 with fail
  generalize (w.alloc (.cells #[.int .i64 0, .int .i64 0] 140)) = w1 at *
  go_upto_region 4 with fail
  have HS : Hid (∀ w', Only [] w w' → w'.cell? ⟨mb, 2, none⟩ = some (.slice (some ⟨kg, 0, none⟩) n kcap) ∧ w'.cell? ⟨kg, k * 2, none⟩ = some (.int .i64 ph) ∧ w'.cell? ⟨kg, k * 2 + 1, none⟩ = some (.int .i64 (pid : Int))) := fun w' ho => ⟨(HC.out w' ho).2.1, (HC.out w' ho).2.2.2⟩
  generalize hNN : (n : Int) = NN at *
  have hknn : k < n := hkn
  go_region_held3 (fun w' => w'.cell? ⟨mb, 2, none⟩ = some (.slice (some ⟨kg, 0, none⟩) n kcap) ∧ w'.cell? ⟨kg, k * 2, none⟩ = some (.int .i64 ph) ∧ w'.cell? ⟨kg, k * 2 + 1, none⟩ = some (.int .i64 (pid : Int)))
    (first | (exact HS.out _ HOA.out) | (exact HS.out _ HOA.out.drew) | (exact HS.out _ (HOA.out.drew.alloc _)) | (exact HS.out _ (HOA.out.alloc _)))
    (fail)
  have HXR : Hid (w1.heap.size ≠ w.heap.size) := by have := HRW.out.lt; show _ ≠ _; omega
  have HO2 : Hid (Only [] w (w1.alloc (.cells #[.int .i64 ph, .int .i64 (pid : Int)] 140)).drew) := (HOA.out.alloc _).drew
  have HO12 : Hid (Only [] w1 (w1.alloc (.cells #[.int .i64 ph, .int .i64 (pid : Int)] 140)).drew) := ((Only.refl _ _).alloc _).drew
  have HRX : Hid (Row (w1.alloc (.cells #[.int .i64 ph, .int .i64 (pid : Int)] 140)).drew w1.heap.size 140 [.int .i64 ph, .int .i64 (pid : Int)]) := Row.new w1 _ _
  have HR2 : Hid (Row (w1.alloc (.cells #[.int .i64 ph, .int .i64 (pid : Int)] 140)).drew w.heap.size 140 [.int .i64 0, .int .i64 0]) := HO12.out.row HRW.out (by simp)
  clear c0 c2 cs ck0 ck1 HS HOA HO12 HRW hr hwr t1 t2 t3 hk0i hkni hNN hn0 hn0b hknn hnI
  generalize hw2 : (w1.alloc (.cells #[.int .i64 ph, .int .i64 (pid : Int)] 140)).drew = w2 at *
  clear hw2
  generalize w1.heap.size = xb at *
  obtain ⟨c0, c2, cs, ck0, ck1⟩ := HC.out _ HO2.out
  have x1 := HRX.out.cell 1 rfl
  go_upto_region 5 with fail
  have HS : Hid (∀ w', Only [] w2 w' → w'.cell? ⟨mb, 0, none⟩ = some (.slice (some ⟨sg, 0, none⟩) sn scap) ∧ w'.cell? ⟨sg, pid, none⟩ = some (.slice va m vc) ∧ w'.cell? ⟨xb, 1, none⟩ = some (.int .i64 (pid : Int))) := fun w' ho => ⟨ho.cell0 c0, ho.cell0 cs, ho.cell0 x1⟩
  go_region_held3 (fun w' => w'.cell? ⟨mb, 0, none⟩ = some (.slice (some ⟨sg, 0, none⟩) sn scap) ∧ w'.cell? ⟨sg, pid, none⟩ = some (.slice va m vc) ∧ w'.cell? ⟨xb, 1, none⟩ = some (.int .i64 (pid : Int)))
    (first | (exact HS.out _ (Only.refl _ _)) | (exact HS.out _ (Only.refl _ _).drew))
    (fail)
  have HO3 : Hid (Only [] w w2.drew) := HO2.out.drew
  have HRX3 : Hid (Row w2.drew xb 140 [.int .i64 ph, .int .i64 (pid : Int)]) := HRX.out
  have HR3 : Hid (Row w2.drew w.heap.size 140 [.int .i64 0, .int .i64 0]) := HR2.out
  clear HS c0 c2 cs ck0 ck1 x1 HRX HR2 HO2 HC
  generalize w2.drew = w3 at *
  have f0 := HR3.out.free 0
  have f1 := HR3.out.free 1
  have r0 := HR3.out.cell 0 rfl
  have r1 := HR3.out.cell 1 rfl
  have y0 := HRX3.out.cell 0 rfl
  have y1 := HRX3.out.cell 1 rfl
  generalize hrb : w.heap.size = rb at *
  have HRB := Lib.hid hrb
  clear hrb
  by_cases hm0 : m = 0
  · subst hm0
    go_wp2_with fail
    refine bodyPost_ret (ke_result ((HR3.out.set 0 _).set 1 _) rfl _ rfl) rfl ?_
    refine HRN.out (by trivial) _ ?_
    exact (HO3.out.set (.inr (by show _ ≤ rb; rw [HRB.out]; exact Nat.le_refl _)) _).set (.inr (by show _ ≤ rb; rw [HRB.out]; exact Nat.le_refl _)) _
  have hmI : (0 : Int) < m := by omega
  obtain ⟨⟨t1, t2⟩, t3⟩ := tmod_place b hmI
  have e0 := Int.emod_nonneg b (b := (m : Int)) (by omega)
  obtain ⟨s, hs⟩ : ∃ s : Nat, s = (b % (m : Int)).toNat := ⟨_, rfl⟩
  have HRS2 := HRS.out hm0
  rw [← hs] at HRS2
  have HRT := Lib.hid HRS2
  have t3 : (b.tmod (m : Int) + (m : Int)).tmod (m : Int) = (s : Int) := by rw [t3, hs]; omega
  obtain ⟨q, hq⟩ : ∃ q, q = b.tmod (m : Int) := ⟨_, rfl⟩
  rw [← hq] at t1 t2 t3
  replace hq := hq.symm
  have hwr : IntKind.i64.wrap (q + (m : Int)) = q + (m : Int) := IntWalk.i64_in _ (by omega)
  have hm0i : ¬ (m : Int) = 0 := by omega
  clear HRS2 HRS HRN hs e0
  have hxr : xb ≠ rb := HXR.out
  go_upto_region 8 with fail
  have HS : Hid (∀ w', Only [rb] w3 w' → w'.cell? ⟨xb, 0, none⟩ = some (.int .i64 ph) ∧ w'.cell? ⟨xb, 1, none⟩ = some (.int .i64 (pid : Int))) := fun w' ho => ⟨ho.cell y0 (by simpa using hxr), ho.cell y1 (by simpa using hxr)⟩
  generalize hMM : (m : Int) = MM at *
  go_region_held3 (fun w' => w'.cell? ⟨xb, 0, none⟩ = some (.int .i64 ph) ∧ w'.cell? ⟨xb, 1, none⟩ = some (.int .i64 (pid : Int)))
    (first | (exact HS.out _ (Only.refl _ _)) | (exact HS.out _ (Only.refl _ _).drew) | (exact HS.out _ (((Only.refl _ _).set (.inl (by simp)) _).set (.inl (by simp)) _).drew) | (exact HS.out _ (((Only.refl _ _).set (.inl (by simp)) _).set (.inl (by simp)) _)))
    (fail)
  go_wp2_with fail
  refine bodyPost_ret (ke_result (show Row (((w3.setCell ⟨rb, 0, none⟩ (.int .i64 ph)).setCell ⟨rb, 1, none⟩ (.int .i64 (pid : Int))).drew) rb 140 [.int .i64 ph, .int .i64 (pid : Int)] from (HR3.out.set 0 (.int .i64 ph)).set 1 (.int .i64 (pid : Int))) rfl _ rfl) rfl ?_
  refine HRT.out _ ?_
  exact ((HO3.out.set (.inr (by show _ ≤ rb; rw [HRB.out]; exact Nat.le_refl _)) _).set (.inr (by show _ ≤ rb; rw [HRB.out]; exact Nat.le_refl _)) _).drew
end
end Go.Proofs.YthflghdaejbdkaaGreat
