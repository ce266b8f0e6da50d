/- Lemmas of this claim. -/
import Derived.Test.YthflghdaejbdkaaGreatXfCyMh
import Derived.Deep.DeepCutAuto
import Derived.Deep.RegionLaw
import Derived.Test.YthflghdaejbdkaaGreatXfCyMn
namespace Go.Proofs.YthflghdaejbdkaaGreat
open Go.RowKit Go.Maps
set_option maxHeartbeats 6400000
set_option maxRecDepth 100000
set_option linter.unusedVariables false
def Md.based (d : Md) : Md := { d with slots := d.base, refs := d.baseR }
theorem second_cell (w : World) (C : Array Value) (T1 T2 : TypeId) (y : Value) : ((w.alloc (.cells C T1)).alloc (.cells #[y] T2)).drew.cell? ⟨w.heap.size + 1, 0, none⟩ = some y := by
  have := (Row.new (w.alloc (.cells C T1)) T2 [y]).cell 0 rfl
  rw [World.size_alloc] at this
  exact this
theorem zeros_ints (w : World) (C : Array Value) (n : Nat) (hC : C.toList = List.replicate n (.int .i64 0)) (hn : n ≤ 1000) (o : Obj) : Ints ((w.alloc (.cells C 3)).alloc o).drew w.heap.size (.slice (some ⟨w.heap.size, 0, none⟩) n n) (List.replicate n 0) := by
  have hr : Row (w.alloc (.cells C 3)) w.heap.size 3 C.toList := by have := Row.new w 3 C.toList; simpa using this
  have h := Ints.ofRow (l := List.replicate n 0) (cap := n) (Nat.le_refl _) hr (by rw [hC]; simp) (by rw [hC]; simp) (by simp) (by simp only [maxLen]; omega)
  rw [List.length_replicate] at h
  exact (h.alloc o).drew
section
variable {w0 w : World} {l : List Asn} {mb : Nat} {d : Md} {x : MdX}
theorem made_full (w : World) (hf : Fam w0 w (Mdl mb d x ++ l)) (va : Option Addr) (n vc : Nat) (h : Int) :
    Calls Tryz.prog 168 #[.pointer (some ⟨mb, 0, none⟩), .int .i64 h, .int .i64 14, .slice va n vc] w (fun e w' => e = .returned (.tuple #[]) ∧ ∃ x', Fam w0 w' (Mdl mb { d with lost := true } x' ++ l)) := by
  refine calls_abs fun R hR => ?_
  have c3 := (Mx.cells (Mdl.toMx hf)).2.2.2.1
  have f3 := (Mx.cells (Mdl.toMx hf)).2.2.2.2 3
  have HE : Hid (Fam w0 (w.setCell ⟨mb, 3, none⟩ (.bool true)) (Mdl mb { d with lost := true } x ++ l)) := Mx.lost (Mdl.toMx hf) true
  clear hf
  generalize d.lost = lo at *
  go_enter Tryz.func168, Tryz.ntmps168
  cases lo with
  | true =>
    go_wp2_with fail
    go_end0
    exact hR.out _ _ ⟨rfl, _, HE.out⟩
  | false =>
    go_wp2_with fail
    go_end0
    exact hR.out _ _ ⟨rfl, _, HE.out⟩
theorem made_ok (w : World) (va : Option Addr) (n vc : Nat) (bl : List Bool) (hf : Fam w0 w (Mdl mb d x ++ (l ++ [BlsA (.slice va n vc) bl]))) (hn : bl.length = n) (hn6 : n ≤ 1000) (hsl : d.slots.length ≤ 1000) (hkl : d.keeps.length ≤ 1000) (hrs : d.refs.length = d.slots.length) (h : Int) :
    Calls Tryz.prog 168 #[.pointer (some ⟨mb, 0, none⟩), .int .i64 h, .int .i64 0, .slice va n vc] w (fun e w' => e = .returned (.tuple #[]) ∧ ∃ x', Fam w0 w' (Mdl mb (d.made h bl) x' ++ l)) := by
  refine calls_abs fun R hR => ?_
  obtain ⟨L1, hL1⟩ : ∃ z : List Asn, z = l ++ [BlsA (.slice va n vc) bl] := ⟨_, rfl⟩
  rw [← hL1] at hf
  have HL1 := Lib.hid hL1
  have HN := Lib.hid hn
  have HRS := Lib.hid hrs
  obtain ⟨k1, k2⟩ := Mdl.lens hf
  obtain ⟨sv, rv, kv, ss, rs⟩ := x
  replace hf : Fam w0 w (Mx mb sv rv kv d.lost ss rs d.keeps ss d.slots rs d.refs ++ L1) := hf
  replace k1 : ss.length = d.slots.length := k1
  replace k2 : rs.length = d.refs.length := k2
  obtain ⟨sa, sc, hsv⟩ := orow_len (Mx.vs hf)
  obtain ⟨ra, rc, hrv⟩ := orow_len (Mx.vr hf)
  obtain ⟨sn, hsn⟩ : ∃ z, z = ss.length := ⟨_, rfl⟩
  have hrn : rs.length = sn := by omega
  rw [← hsn] at hsv
  rw [hrn] at hrv
  subst hsv
  subst hrv
  obtain ⟨c0, c1, _, _, fz⟩ := Mx.cells hf
  have HF := Lib.hid hf
  have hs6 : sn ≤ 1000 := by omega
  have HSN := Lib.hid hsn
  have HRN := Lib.hid hrn
  have HSL := Lib.hid (show d.slots.length = sn by omega)
  have HKL := Lib.hid hkl
  have HAP := Lib.hid (Mx.apart hf)
  have f0 := fz 0
  have f1 := fz 1
  clear hf k1 k2 fz hL1 hn hrs hsn hrn hsl hkl
  go_enter Tryz.func168, Tryz.ntmps168
  go_upto_if 26 with fail
  go_cut [0] (fun s0 wx => s0 = .pointer (some ⟨mb, 0, none⟩) ∧ ∃ x', Fam w0 wx (Mdl mb d.based x' ++ L1))
  case first => as_aux_lemma =>
    by_cases hz : sn = 0
    · subst hz
      have HSS : Hid (ss = []) := List.eq_nil_of_length_eq_zero HSN.out.symm
      have HRR : Hid (rs = []) := List.eq_nil_of_length_eq_zero HRN.out
      have HBD : Hid (d.based = ⟨d.slots ++ [[]], d.refs ++ [[]], d.keeps, d.lost⟩) := by
        have e1 : d.slots = [] := List.eq_nil_of_length_eq_zero HSL.out
        have e2 : d.refs = [] := List.eq_nil_of_length_eq_zero (HRS.out.trans HSL.out)
        show _ = _
        unfold Md.based Md.base Md.baseR
        rw [if_pos e1, if_pos e1, e1, e2]
        rfl
      go_wp2_with (at_builtin; refine append_is1 rfl _ _ rfl (.slice sa 0 sc) ss rfl ?o1 w.heap.size (.slice none 0 0) rfl rfl ?o2 ?o3 ?o4)
      case o1 => exact Mx.vs (HF.out.alloc _)
      case o2 => exact (Row.new w _ [_]).cell 0 rfl
      case o3 => have := HSN.out; omega
      case o4 =>
        intro v1 w2 h1 h2 h3
        replace h1 : w2.ownsRow 0 23 1 v1 (ss ++ [Value.slice none 0 0]).length (ss ++ [Value.slice none 0 0]) := by rw [List.length_append]; exact h1
        obtain ⟨a1, m1, hv1⟩ := orow_len h1
        have e1 : (ss ++ [Value.slice none 0 0]).length = 1 := by rw [HSS.out]; rfl
        rw [e1] at hv1
        obtain ⟨⟨z0, z1⟩, F2⟩ := Mx.app0 (HF.out.alloc _) h1 h2 (by rw [World.size_alloc]; exact h3)
        subst hv1
        have F3 := Lib.hid (Mx.pushS F2.addNilI)
        obtain ⟨_, c1', _, _, fz'⟩ := Mx.cells F3.out
        have f1' := fz' 1
        clear h1 h2 h3 F2 e1 fz' HF c0 c1 f0 f1
        go_wp2_with (at_builtin; refine append_bs1 rfl _ _ rfl (.slice ra 0 rc) rs rfl ?p1 w2.heap.size (.slice none 0 0) rfl rfl ?p2 ?p3 ?p4)
        case p1 => exact Mx.vr (F3.out.alloc _)
        case p2 => rw [show w2.heap.size = (w2.setCell ⟨mb, 0, none⟩ (.slice a1 1 m1)).heap.size by simp]; exact (Row.new (w2.setCell ⟨mb, 0, none⟩ (.slice a1 1 m1)) _ [_]).cell 0 rfl
        case p3 => have := HRN.out; omega
        case p4 =>
          intro v2 w3 h1 h2 h3
          replace h1 : w3.ownsRow 0 50 1 v2 (rs ++ [Value.slice none 0 0]).length (rs ++ [Value.slice none 0 0]) := by rw [List.length_append]; exact h1
          obtain ⟨a2, m2, hv2⟩ := orow_len h1
          have e1 : (rs ++ [Value.slice none 0 0]).length = 1 := by rw [HRR.out]; rfl
          rw [e1] at hv2
          obtain ⟨⟨z2, z3⟩, F4⟩ := Mx.app1 (F3.out.alloc _) h1 h2 (by rw [World.size_alloc, World.size_setCell]; exact h3)
          subst hv2
          have F5 := Lib.hid (Mx.pushR F4.addNilB)
          clear h1 h2 h3 F4 e1 F3 c1' f1' z0 z1
          go_wp2_with fail
          go_meet
          exact ⟨rfl, _, by rw [HBD.out]; exact Mdl.ofMx F5.out⟩
    · have HBD : Hid (d.based = d) := by
        have e1 : ¬ d.slots = [] := fun e => hz (by rw [← HSL.out, e]; rfl)
        show _ = _
        unfold Md.based Md.base Md.baseR
        rw [if_neg e1, if_neg e1]
      go_wp2_with fail
      go_meet
      exact ⟨rfl, _, by rw [HBD.out]; exact Mdl.ofMx HF.out⟩
  case rest =>
    obtain ⟨rfl, x', hf⟩ := hcut
    clear HF HSN HRN c0 c1 f0 f1 HAP
    have HBL : Hid (d.based.slots.length = d.nid) := base_len d
    have HBR : Hid (d.based.refs.length = d.nid) := baseR_len HRS.out
    have hn1 : d.nid ≤ 1001 := by
      have := HSL.out
      unfold Md.nid
      split <;> omega
    obtain ⟨k1, k2⟩ := Mdl.lens hf
    obtain ⟨sv, rv, kv, ss, rs⟩ := x'
    replace hf : Fam w0 wc (Mx mb sv rv kv d.lost ss rs d.keeps ss d.based.slots rs d.based.refs ++ L1) := hf
    replace k1 : ss.length = d.based.slots.length := k1
    replace k2 : rs.length = d.based.refs.length := k2
    rw [HBL.out] at k1
    rw [HBR.out] at k2
    obtain ⟨sa, sc, hsv⟩ := orow_len (Mx.vs hf)
    obtain ⟨ra, rc, hrv⟩ := orow_len (Mx.vr hf)
    obtain ⟨ka, kc, hkv⟩ := orow_len (Mx.ke hf)
    rw [k1] at hsv
    rw [k2] at hrv
    subst hsv
    subst hrv
    obtain ⟨kn, hkn⟩ : ∃ z, z = d.keeps.length := ⟨_, rfl⟩
    rw [← hkn] at hkv
    subst hkv
    have HKN := Lib.hid hkn
    have HSS := Lib.hid k1
    have HRR := Lib.hid k2
    have hkl : kn ≤ 1000 := by rw [hkn]; exact HKL.out
    have HF := Lib.hid hf
    obtain ⟨c0, c1, c2, _, fz⟩ := Mx.cells hf
    have f2 := fz 2
    clear hf k1 k2 fz hkn
    obtain ⟨nid, hnid⟩ : ∃ z, z = d.nid := ⟨_, rfl⟩
    rw [← hnid] at HF HBL HBR HSS HRR c0 c1 hn1
    have HNI := Lib.hid hnid
    clear hnid
    have HKE : Hid (∀ wl, Only [] wc wl → wl.ownsRow 0 140 2 (.slice ka kn kc) d.keeps.length (keC d.keeps)) := fun wl ho => Mx.ke (HF.out.only0 ho)
    have HEND : Hid (∀ wl, Only [] wc wl → ∀ v' w2, w2.ownsRow 0 140 2 v' (d.keeps ++ [(h, nid)]).length (keC (d.keeps ++ [(h, nid)])) → Only (Value.slice ka kn kc).ownBlock.toList wl w2 → (v'.ownBlock = (Value.slice ka kn kc).ownBlock ∨ v'.ownBlock = some wl.heap.size) → (w2.cell? ⟨mb, 2, none⟩ = some (.slice ka kn kc) ∧ w2.frozen? ⟨mb, 2, none⟩ = false) ∧ Hid (Fam w0 (w2.setCell ⟨mb, 2, none⟩ v') (Mx mb (.slice sa nid sc) (.slice ra nid rc) v' d.lost ss rs (d.keeps ++ [(h, nid)]) ss d.based.slots rs d.based.refs ++ L1))) := fun wl ho v' w2 h1 h2 h3 => Mx.app2 (HF.out.only0 ho) h1 h2 h3
    have HK6 : Hid (d.keeps.length + 1 ≤ 1000000) := by have := HKL.out; show _ ≤ _; omega
    go_upto_region 5 with fail
    go_cut [0] (fun s0 wx => s0 = .pointer (some ⟨mb, 0, none⟩) ∧ ∃ kv', Fam w0 wx (Mx mb (.slice sa nid sc) (.slice ra nid rc) kv' d.lost ss rs (d.keeps ++ [(h, nid)]) ss d.based.slots rs d.based.refs ++ L1))
    case first =>
      have c2b : (wc.alloc (.cells #[.int .i64 h, .int .i64 (nid : Int)] 140)).cell? ⟨mb, 2, none⟩ = some (.slice ka kn kc) := ((Only.refl [] wc).alloc _).cell0 c2
      go_region_law ((refine step_ke (by rfl) (.tmp 49) (.tmp 57) (by rfl) _ d.keeps (by rfl) (HKE.out _ (by first | exact only_a1 wc _ | exact (Only.refl _ _).alloc _)) ⟨wc.heap.size, 0, none⟩ 1 1 [(h, nid)] (by rfl) (by rfl) (World.news_of_block (cs := #[.int .i64 h, .int .i64 (nid : Int)]) (t := 140) (fr := (0, 0)) (heap_alloc_new wc _)) (by omega) HK6.out ?_; intro g cap w2 h1 h2 h3; obtain ⟨⟨cst, fst⟩, FE⟩ := HEND.out _ (by first | exact only_a1 wc _ | exact (Only.refl _ _).alloc _) _ _ h1 h2 h3))
      all_goals
        clear h1 h2 h3 c2b
        go_wp2_with fail
        go_meet
        exact ⟨rfl, _, FE.out⟩
    case rest =>
      obtain ⟨rfl, kv', hf⟩ := hcut
      clear HF HKE HEND c0 c1 c2 f2 HKN HK6
      have hsl : nid ≤ 1000000 := by omega
      obtain ⟨c0, c1, _, _, fz⟩ := Mx.cells hf
      have f0 := fz 0
      have HF := Lib.hid hf
      obtain ⟨C, hC, hmk'⟩ := mk_intsM n (by omega)
      have hmk : ∀ wx : World, (Instr.makeSlice 23 (.int .i64 (n : Int)) (.int .i64 (n : Int))).run Tryz.prog wx = .ok (.slice (some ⟨wx.heap.size, 0, none⟩) n n) (wx.alloc (.cells C 3)) := hmk'
      have HC := Lib.hid hC
      have HVS : Hid (∀ wl, Only [] wc wl → wl.ownsRow 0 23 1 (.slice sa nid sc) ss.length ss) := fun wl ho => Mx.vs (HF.out.only0 ho)
      have HS6 : Hid (ss.length ≤ 1000000) := by show _ ≤ _; rw [HSS.out]; exact hsl
      have HEND : Hid (∀ v' w2, w2.ownsRow 0 23 1 v' (ss ++ [Value.slice (some ⟨wc.heap.size, 0, none⟩) n n]).length (ss ++ [Value.slice (some ⟨wc.heap.size, 0, none⟩) n n]) → Only (Value.slice sa nid sc).ownBlock.toList ((wc.alloc (.cells C 3)).alloc (.cells #[Value.slice (some ⟨wc.heap.size, 0, none⟩) n n] 23)).drew w2 → (v'.ownBlock = (Value.slice sa nid sc).ownBlock ∨ v'.ownBlock = some ((wc.alloc (.cells C 3)).alloc (.cells #[Value.slice (some ⟨wc.heap.size, 0, none⟩) n n] 23)).drew.heap.size) → (w2.cell? ⟨mb, 0, none⟩ = some (.slice sa nid sc) ∧ w2.frozen? ⟨mb, 0, none⟩ = false) ∧ Hid (Fam w0 (w2.setCell ⟨mb, 0, none⟩ v') (Mx mb v' (.slice ra nid rc) kv' d.lost (ss ++ [Value.slice (some ⟨wc.heap.size, 0, none⟩) n n]) rs (d.keeps ++ [(h, nid)]) (ss ++ [Value.slice (some ⟨wc.heap.size, 0, none⟩) n n]) (d.based.slots ++ [List.replicate n 0]) rs d.based.refs ++ L1))) := fun v' w2 h1 h2 h3 => by
        obtain ⟨z, F2⟩ := Mx.app0 (l := L1 ++ [IntsA (.slice (some ⟨wc.heap.size, 0, none⟩) n n) (List.replicate n 0)]) (HF.out.addInts (((Only.refl [] wc).alloc _).alloc _).drew (zeros_ints wc C n HC.out hn6 _)) h1 h2 h3
        exact ⟨z, Mx.pushS F2⟩
      clear hC hmk' fz
      go_upto_region 6 with fail
      go_cut [0] (fun s0 wx => s0 = .pointer (some ⟨mb, 0, none⟩) ∧ ∃ sv' ss', Fam w0 wx (Mx mb sv' (.slice ra nid rc) kv' d.lost ss' rs (d.keeps ++ [(h, nid)]) ss' (d.based.slots ++ [List.replicate n 0]) rs d.based.refs ++ L1))
      case first =>
        have c0a : (wc.alloc (.cells C 3)).cell? ⟨mb, 0, none⟩ = some (.slice sa nid sc) := ((Only.refl [] wc).alloc _).cell0 c0
        have c0b : ((wc.alloc (.cells C 3)).alloc (.cells #[Value.slice (some ⟨wc.heap.size, 0, none⟩) n n] 23)).cell? ⟨mb, 0, none⟩ = some (.slice sa nid sc) := (((Only.refl [] wc).alloc _).alloc _).cell0 c0
        go_region_law ((refine step_is (by rfl) (.tmp 65) (.tmp 69) (by rfl) _ ss (by rfl) (HVS.out _ (by first | exact only_a2 wc _ _ | exact ((Only.refl _ _).alloc _).alloc _)) (wc.heap.size + 1) (.slice (some ⟨wc.heap.size, 0, none⟩) n n) rfl (by rfl) (second_cell wc C _ _ _) HS6.out ?_; intro g cap w2 h1 h2 h3; obtain ⟨⟨cst, fst⟩, FE⟩ := HEND.out _ _ h1 h2 h3))
        all_goals
          clear h1 h2 h3 c0a c0b hmk
          go_wp2_with fail
          go_meet
          exact ⟨rfl, _, _, FE.out⟩
      case rest =>
        obtain ⟨rfl, sv', ss', hf⟩ := hcut
        clear HF HVS HEND c0 c1 f0 hmk HC HS6
        obtain ⟨_, c1, _, _, fz⟩ := Mx.cells hf
        have f1 := fz 1
        have HF := Lib.hid hf
        have HE : Hid (∀ z, Fam w0 z (Mx mb sv' (.slice ra nid rc) kv' d.lost ss' rs (d.keeps ++ [(h, nid)]) ss' (d.based.slots ++ [List.replicate n 0]) rs d.based.refs ++ L1) → True) := fun _ _ => trivial
        clear hf fz HE
        go_wp2_with (at_builtin; refine append_bs1 rfl _ _ rfl (.slice ra nid rc) rs rfl ?p1 wc.heap.size (.slice va n vc) rfl rfl ?p2 ?p3 ?p4)
        case p1 => exact Mx.vr (HF.out.alloc _)
        case p2 => exact (Row.new wc _ [_]).cell 0 rfl
        case p3 => rw [HRR.out]; exact hsl
        case p4 =>
          intro v2 w3 h1 h2 h3
          replace h1 : w3.ownsRow 0 50 1 v2 (rs ++ [Value.slice va n vc]).length (rs ++ [Value.slice va n vc]) := by rw [List.length_append]; exact h1
          obtain ⟨⟨z2, z3⟩, F4⟩ := Mx.app1 (HF.out.alloc _) h1 h2 (by rw [World.size_alloc]; exact h3)
          rw [HL1.out] at F4
          have F5 := Lib.hid (Mx.pushR F4)
          obtain ⟨a2, m2, hv2⟩ := orow_len h1
          have e1 : (rs ++ [Value.slice va n vc]).length = nid + 1 := by rw [List.length_append, HRR.out]; rfl
          rw [e1] at hv2
          subst hv2
          clear h1 h2 h3 F4 e1 HF c1 f1
          go_wp2_with fail
          go_end0
          have e2 : d.made h bl = ⟨d.based.slots ++ [List.replicate n 0], d.based.refs ++ [bl], d.keeps ++ [(h, nid)], d.lost⟩ := by
            rw [HNI.out, ← HN.out]
            rfl
          exact hR.out _ _ ⟨rfl, _, by rw [e2]; exact Mdl.ofMx F5.out⟩
end
end Go.Proofs.YthflghdaejbdkaaGreat
namespace Go.Proofs.YthflghdaejbdkaaGreat
open Go.RowKit Go.Maps
set_option maxHeartbeats 12800000
set_option maxRecDepth 100000
set_option linter.unusedVariables false
section
variable {w0 w : World} {mb cb N : Nat} {d : Md} {x : MdX} {K : Nat → Prop} {φ : Nat → Int} {c : Co}
theorem St.mono {N' : Nat} (h : St N d K φ c) (hn : N ≤ N') : St N' d K φ c := ⟨h.sf, h.ok, h.kl, Nat.le_trans h.sl hn, h.ln⟩
theorem Acted.mono {N' : Nat} {lo : Bool} {p : Pm} {e : Ending} {w' : World} (h : Acted w0 mb cb N lo p e w') (hn : N ≤ N') : Acted w0 mb cb N' lo p e w' := by
  obtain ⟨h1, d', c', x', K', φ', h2, h3, h4⟩ := h
  exact ⟨h1, d', c', x', K', φ', h2, h3.mono hn, h4⟩
theorem store_any (w : World) (hf : Fam w0 w (Mdl mb d x ++ [CoA cb c])) (hN : N ≤ 1000) (h : St N d K φ c) (dd a b y : Int) (wa : wfI a) (wb : wfI b) :
    Calls Tryz.prog 169 #[.pointer (some ⟨mb, 0, none⟩), .pointer (some ⟨cb, 0, none⟩), .agg #[.int .i64 dd, .int .i64 a, .int .i64 b, .int .i64 y]] w (Acted w0 mb cb N d.lost (d.pm.store a b y)) := by
  cases hp : d.pm.place a b with
  | none => exact store_none w hf hN h dd a b y wa wb hp
  | some ks => exact store_some w hf hN h dd a b y wa wb hp
theorem load_any (w : World) (hf : Fam w0 w (Mdl mb d x ++ [CoA cb c])) (hN : N ≤ 1000) (h : St N d K φ c) (dd a b y : Int) (wa : wfI a) (wb : wfI b) :
    Calls Tryz.prog 170 #[.pointer (some ⟨mb, 0, none⟩), .pointer (some ⟨cb, 0, none⟩), .agg #[.int .i64 dd, .int .i64 a, .int .i64 b, .int .i64 y]] w (Acted w0 mb cb N d.lost (d.pm.load a b)) := by
  cases hp : d.pm.place a b with
  | none => exact load_none w hf hN h dd a b y wa wb hp
  | some ks => exact load_some w hf hN h dd a b y wa wb hp
theorem act_2 (w : World) (hf : Fam w0 w (Mdl mb d x ++ [CoA cb c])) (hN : N ≤ 1000) (h : St N d K φ c) (a b y : Int) (wa : wfI a) (wb : wfI b) :
    Calls Tryz.prog 86 #[.pointer (some ⟨mb, 0, none⟩), .pointer (some ⟨cb, 0, none⟩), .agg #[.int .i64 2, .int .i64 a, .int .i64 b, .int .i64 y]] w (Acted w0 mb cb N d.lost (d.pm.store a b y)) := by
  refine calls_abs fun R hR => ?_
  have hf1 := hf.alloc (.cells #[.int .i64 2, .int .i64 a, .int .i64 b, .int .i64 y] 80)
  have rw0 := Row.new w 80 [.int .i64 2, .int .i64 a, .int .i64 b, .int .i64 y]
  have o0 := rw0.cell 0 rfl
  have o1 := rw0.cell 1 rfl
  have o2 := rw0.cell 2 rfl
  have o3 := rw0.cell 3 rfl
  obtain ⟨ka, kc, hkv⟩ := orow_len (Mdl.ke hf)
  have c2 := (Mdl.cells hf1).2.2.1
  rw [hkv] at c2
  have hkl := h.kl
  obtain ⟨kn, hkn⟩ : ∃ z, z = d.keeps.length := ⟨_, rfl⟩
  rw [← hkn] at c2 hkl
  have cs := store_any _ hf1 hN h 2 a b y wa wb
  have HKV := Lib.hid hkv
  have HKN := Lib.hid hkn
  clear hf hf1 h wa wb rw0 hkv hkn
  go_enter Tryz.func86, Tryz.ntmps86
  go_upto_region 1 with fail
  generalize (w.alloc (.cells #[.int .i64 2, .int .i64 a, .int .i64 b, .int .i64 y] 80)) = w1 at *
  go_wp2_with fail
  refine cs.mono ?_
  rintro e w' ⟨rfl, hrest⟩
  have HE := Lib.hid hrest
  clear cs hrest c2 o0 o1 o2 o3
  go_wp2_with fail
  exact hR.out _ _ ⟨rfl, HE.out⟩
theorem act_7 (w : World) (hf : Fam w0 w (Mdl mb d x ++ [CoA cb c])) (hN : N ≤ 1000) (h : St N d K φ c) (a b y : Int) (wa : wfI a) (wb : wfI b) :
    Calls Tryz.prog 86 #[.pointer (some ⟨mb, 0, none⟩), .pointer (some ⟨cb, 0, none⟩), .agg #[.int .i64 7, .int .i64 a, .int .i64 b, .int .i64 y]] w (Acted w0 mb cb N d.lost (d.pm.load a b)) := by
  refine calls_abs fun R hR => ?_
  have hf1 := hf.alloc (.cells #[.int .i64 7, .int .i64 a, .int .i64 b, .int .i64 y] 80)
  have rw0 := Row.new w 80 [.int .i64 7, .int .i64 a, .int .i64 b, .int .i64 y]
  have o0 := rw0.cell 0 rfl
  have o1 := rw0.cell 1 rfl
  have o2 := rw0.cell 2 rfl
  have o3 := rw0.cell 3 rfl
  obtain ⟨ka, kc, hkv⟩ := orow_len (Mdl.ke hf)
  have c2 := (Mdl.cells hf1).2.2.1
  rw [hkv] at c2
  have hkl := h.kl
  obtain ⟨kn, hkn⟩ : ∃ z, z = d.keeps.length := ⟨_, rfl⟩
  rw [← hkn] at c2 hkl
  have cs := load_any _ hf1 hN h 7 a b y wa wb
  have HKV := Lib.hid hkv
  have HKN := Lib.hid hkn
  clear hf hf1 h wa wb rw0 hkv hkn
  go_enter Tryz.func86, Tryz.ntmps86
  go_upto_region 1 with fail
  generalize (w.alloc (.cells #[.int .i64 7, .int .i64 a, .int .i64 b, .int .i64 y] 80)) = w1 at *
  go_wp2_with fail
  refine cs.mono ?_
  rintro e w' ⟨rfl, hrest⟩
  have HE := Lib.hid hrest
  clear cs hrest c2 o0 o1 o2 o3
  go_wp2_with fail
  exact hR.out _ _ ⟨rfl, HE.out⟩
theorem act_no (w : World) (hf : Fam w0 w (Mdl mb d x ++ [CoA cb c])) (hN : N ≤ 1000) (h : St N d K φ c) (o a b y : Int) (wa : wfI a) (wb : wfI b) (n0 : o ≠ 0) (n1 : o ≠ 1) (n2 : o ≠ 2) (n7 : o ≠ 7) (n9 : o ≠ 9) :
    Calls Tryz.prog 86 #[.pointer (some ⟨mb, 0, none⟩), .pointer (some ⟨cb, 0, none⟩), .agg #[.int .i64 o, .int .i64 a, .int .i64 b, .int .i64 y]] w (Acted w0 mb cb N d.lost (d.pm)) := by
  refine calls_abs fun R hR => ?_
  have hf1 := hf.alloc (.cells #[.int .i64 o, .int .i64 a, .int .i64 b, .int .i64 y] 80)
  have rw0 := Row.new w 80 [.int .i64 o, .int .i64 a, .int .i64 b, .int .i64 y]
  have o0 := rw0.cell 0 rfl
  have o1 := rw0.cell 1 rfl
  have o2 := rw0.cell 2 rfl
  have o3 := rw0.cell 3 rfl
  obtain ⟨ka, kc, hkv⟩ := orow_len (Mdl.ke hf)
  have c2 := (Mdl.cells hf1).2.2.1
  rw [hkv] at c2
  have hkl := h.kl
  obtain ⟨kn, hkn⟩ : ∃ z, z = d.keeps.length := ⟨_, rfl⟩
  rw [← hkn] at c2 hkl
  have b0 : (o == 0) = false := by simpa using n0
  have b1 : (o == 1) = false := by simpa using n1
  have b2 : (o == 2) = false := by simpa using n2
  have b7 : (o == 7) = false := by simpa using n7
  have b9 : (o == 9) = false := by simpa using n9
  have HE : Hid (R (.returned (.bool true)) (w.alloc (.cells #[.int .i64 o, .int .i64 a, .int .i64 b, .int .i64 y] 80))) := hR.out _ _ (Acted.of hf1 h (fun e => ⟨e, rfl⟩))
  clear hf hf1 h wa wb rw0 hkv hkn n0 n1 n2 n7 n9
  go_enter Tryz.func86, Tryz.ntmps86
  go_upto_region 1 with fail
  generalize (w.alloc (.cells #[.int .i64 o, .int .i64 a, .int .i64 b, .int .i64 y] 80)) = w1 at *
  go_wp2_with fail
  exact HE.out
theorem act_90 (w : World) (hf : Fam w0 w (Mdl mb d x ++ [CoA cb c])) (hN : N ≤ 1000) (h : St N d K φ c) (a b y : Int) (wa : wfI a) (wb : wfI b) (h0 : d.keeps.length = 0) :
    Calls Tryz.prog 86 #[.pointer (some ⟨mb, 0, none⟩), .pointer (some ⟨cb, 0, none⟩), .agg #[.int .i64 9, .int .i64 a, .int .i64 b, .int .i64 y]] w (Acted w0 mb cb N d.lost (d.pm)) := by
  refine calls_abs fun R hR => ?_
  have hf1 := hf.alloc (.cells #[.int .i64 9, .int .i64 a, .int .i64 b, .int .i64 y] 80)
  have rw0 := Row.new w 80 [.int .i64 9, .int .i64 a, .int .i64 b, .int .i64 y]
  have o0 := rw0.cell 0 rfl
  have o1 := rw0.cell 1 rfl
  have o2 := rw0.cell 2 rfl
  have o3 := rw0.cell 3 rfl
  obtain ⟨ka, kc, hkv⟩ := orow_len (Mdl.ke hf)
  have c2 := (Mdl.cells hf1).2.2.1
  rw [hkv] at c2
  have hkl := h.kl
  obtain ⟨kn, hkn⟩ : ∃ z, z = d.keeps.length := ⟨_, rfl⟩
  rw [← hkn] at c2 hkl
  have HE : Hid (R (.returned (.bool true)) (w.alloc (.cells #[.int .i64 9, .int .i64 a, .int .i64 b, .int .i64 y] 80))) := hR.out _ _ (Acted.of hf1 h (fun e => ⟨e, rfl⟩))
  have h00 : kn = 0 := by omega
  subst h00
  clear hf hf1 h wa wb rw0 hkv hkn h0
  go_enter Tryz.func86, Tryz.ntmps86
  go_upto_region 1 with fail
  generalize (w.alloc (.cells #[.int .i64 9, .int .i64 a, .int .i64 b, .int .i64 y] 80)) = w1 at *
  go_wp2_with fail
  exact HE.out
end
end Go.Proofs.YthflghdaejbdkaaGreat
