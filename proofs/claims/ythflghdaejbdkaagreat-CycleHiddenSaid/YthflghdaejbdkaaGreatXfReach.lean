/- Lemmas of this claim. -/
import Derived.Test.YthflghdaejbdkaaGreatIterLay
import Derived.Test.YthflghdaejbdkaaGreatXfObjG
import Derived.Lib.SlKeysI
import Derived.Test.YthflghdaejbdkaaGreatXfOFam
import Derived.OwnWalk
import Derived.Test.YthflghdaejbdkaaGreatXfOModel
import Derived.Test.YthflghdaejbdkaaGreatXfInts
import Derived.Laws.StructEq
import Derived.Test.YthflghdaejbdkaaGreatXfRBlockE
namespace Go.Proofs.YthflghdaejbdkaaGreat
open Go.RowKit Go.Maps Go.Sort Go.Shelf
set_option maxHeartbeats 3200000
set_option maxRecDepth 100000
set_option linter.unusedVariables false
theorem sortsA (m : Nat) : AnyZI.SortsIn Tryz.prog Tryz.sortedA_ren Fence.wide m :=
  ⟨fun blk off cap ss W hH hblk hsz => callsIn_wide.2 (AnyM.slices_Sort_int Tryz.sortA blk off cap ss W hH hblk hsz),
   fun p cap W => callsIn_wide.2 (AnyM.slices_Sort_int_none Tryz.sortA p cap W)⟩
theorem sorted_is {P : Program} {k : TypeId} {R : Value → Option (DataW Unit × List MemPlace)} {w : World} {b n : Nat} {D : DataW Unit} (hown : w.ownsMap P k R b n D) (K : Keyed P k) (hk : P.underlying k = some (.int .i64)) {l ss : List Int} (hl : l.Pairwise (· < ·)) (hm : ∀ x, x ∈ l → wfI x) (hh : ∀ x, wfI x → (Maps.has D (.int .i64 x) = true ↔ x ∈ l)) (hp : ss.Perm (intKeys D)) :
    ss.mergeSort (fun x y => decide (x ≤ y)) = l := by
  obtain ⟨es, hD, hpw, _⟩ := hown.entries K
  obtain ⟨es', hD', hko⟩ := hown.keysOf
  obtain rfl : es = es' := by rw [hD] at hD'; simpa using hD'
  subst hD
  have hnd : l.Nodup := hl.imp (fun h e => by omega)
  have hkeys : ∀ p ∈ es, ∃ x, p.1 = .int .i64 x ∧ wfI x := fun p hp => by
    obtain ⟨v, hv⟩ := hko p hp
    obtain ⟨x, _, hx, hw⟩ := Maps.keyOf_i64 hk hv
    exact ⟨x, hx, hw⟩
  have h1 : l.Perm (intKeys (.map es)) := perm_intKeys hpw (fun p hp => by obtain ⟨x, hx, _⟩ := hkeys p hp; exact ⟨x, hx⟩) hnd (fun x => by
    constructor
    · intro hx; exact (hh x (hm x hx)).2 hx
    · intro hx
      refine (hh x ?_).1 hx
      simp only [Maps.has, List.any_eq_true] at hx
      obtain ⟨p, hp, hs⟩ := hx
      obtain ⟨y, hy, hw⟩ := hkeys p hp
      rw [hy] at hs
      have e : y = x := by simpa [Lit.sameKey] using hs
      rw [← e]; exact hw)
  have h2 := mergeSort_of_perm_i (hp.trans h1.symm)
  show ss.mergeSort leI = l
  rw [h2]
  exact List.mergeSort_of_pairwise (hl.imp (fun h => by simp only [leI, decide_eq_true_eq]; omega))
theorem below_only {w w' : World} {B : Nat} (h : Below B w w') (hB : B = w.heap.size) : Only [] w w' := by
  subst hB
  exact ⟨h.os, h.tape, h.output, h.size, fun k hk _ => h.block k hk⟩
theorem keysThings_any (w : World) (mb : Option Nat) : Calls Tryz.prog 135 #[.map mb] w fun e w' => e = .returned (.func (.func 204) #[] #[.pointer (some ⟨w.heap.size, 0, none⟩)]) ∧ w' = w.alloc (.cells #[.map mb] 173) :=
  callsIn_wide.1 (AnyZI.keys_in Tryz.keysA Fence.wide 5 trivial rfl mb w)
theorem sortedThings_any {w : World} {mb n : Nat} {f : Int → Option Nat} (h : MapAt w mb n f) (hn : n ≤ 1000000) {l : List Int} (hl : l.Pairwise (· < ·)) (hm : ∀ x, x ∈ l → wfI x) (hf : ∀ x, wfI x → ((f x).isSome = true ↔ x ∈ l)) :
    Calls Tryz.prog 133 #[.func (.func 204) #[] #[.pointer (some ⟨w.heap.size, 0, none⟩)]] (w.alloc (.cells #[.map (some mb)] 173)) fun e w' =>
      ∃ v, e = .returned v ∧ Ints w' w.heap.size v l ∧ Only [] w w' := by
  obtain ⟨D, hD, hDf⟩ := h
  have hbl := hD.lt
  have hsz := hD.size_le
  have hseq : SeqGives Fence.wide 2 Tryz.prog 204 #[.pointer (some ⟨w.heap.size, 0, none⟩)] encZ (fun ss => ss.Perm (intKeys D)) (Maps.size D) (w.alloc (.cells #[.map (some mb)] 173)) :=
    AnyZI.keys_gives (ρ := Tryz.keysA_ren) { Tryz.keysA with } Fence.wide _ trivial rfl (by omega) w.heap.size mb n D _ (by simp) (by simp) (hD.alloc _)
  have cS := AnyZI.sorted_in Tryz.sortedA Fence.wide 5 trivial trivial trivial trivial rfl (by omega) (sortsA _) (enters_of Tryz.func202 (by kernel_rfl) rfl) 204 #[.pointer (some ⟨w.heap.size, 0, none⟩)] trivial (enters_of Tryz.func204 (by kernel_rfl) rfl) _ _ (by simp only [maxLen]; omega) (by omega) _ hseq
  change CallsIn _ _ Tryz.prog 133 _ _ _ at cS
  refine (callsIn_wide.1 cS).mono ?_
  rintro e w' ⟨v, ss, rfl, hS, hrow, _, hb⟩
  have hss := sorted_is hD keyedI Tryz.underlying3 hl hm (fun x hx => by rw [(hDf x hx).1]; exact hf x hx) hS
  have hlen : ss.length = l.length := by rw [← hss, List.length_mergeSort]
  rw [hss, hlen] at hrow
  have ho := below_only hb rfl
  refine ⟨v, rfl, ?_, ((Only.refl [] w).alloc _).trans ho (by simp)⟩
  have hI : Ints w' (w.alloc (.cells #[.map (some mb)] 173)).heap.size v l := hrow
  exact hI.base (by simp)
theorem Hp.handlesN_sorted (M : Hp) (k : Nat) : (M.handlesN k).Pairwise (· < ·) := by
  induction k with
  | zero => exact List.Pairwise.nil
  | succ k ih =>
    unfold Hp.handlesN
    refine List.pairwise_append.2 ⟨ih, by split <;> simp, fun a ha b hb => ?_⟩
    have hb2 : b = (k : Int) + 1 := by
      split at hb
      · simpa using hb
      · simp at hb
    have : ∀ j, ∀ a, a ∈ M.handlesN j → a < (j : Int) + 1 := by
      intro j
      induction j with
      | zero => intro a ha; simp [Hp.handlesN] at ha
      | succ j ih2 =>
        intro a ha
        unfold Hp.handlesN at ha
        rw [List.mem_append] at ha
        rcases ha with ha | ha
        · have := ih2 a ha; omega
        · split at ha
          · simp at ha; omega
          · simp at ha
    have := this k a ha
    omega
theorem Hp.mem_handlesK {M : Hp} {k : Nat} {x : Int} : x ∈ M.handlesN k ↔ ∃ j : Nat, j < k ∧ x = (j : Int) + 1 ∧ (M.ob x).isSome = true := by
  induction k with
  | zero => simp [Hp.handlesN]
  | succ k ih =>
    unfold Hp.handlesN
    rw [List.mem_append, ih]
    constructor
    · rintro (⟨j, h1, h2, h3⟩ | h)
      · exact ⟨j, by omega, h2, h3⟩
      · split at h
        · rename_i hs
          simp at h
          subst h
          exact ⟨k, by omega, rfl, hs⟩
        · simp at h
    · rintro ⟨j, h1, h2, h3⟩
      by_cases e : j = k
      · right
        subst e
        subst h2
        rw [if_pos h3]
        simp
      · exact .inl ⟨j, by omega, h2, h3⟩
theorem Hp.Ok.mem_handles {M : Hp} (hk : M.Ok) {x : Int} : x ∈ M.handles ↔ (M.ob x).isSome = true := by
  unfold Hp.handles
  rw [Hp.mem_handlesK]
  constructor
  · rintro ⟨_, _, _, h⟩; exact h
  · intro h
    obtain ⟨o, ho⟩ := Option.isSome_iff_exists.1 h
    have := hk.hr x o ho
    exact ⟨x.toNat - 1, by omega, by omega, h⟩
theorem handles_rep {L : Nat → Option Lb} {hb : Nat} {M : Hp} {X : HX} (w : World) (h : HRep w L hb M X) (hk : M.Ok) : Calls Tryz.prog 62 #[.pointer (some ⟨hb, 0, none⟩)] w (RetL w M.handles) := by
  refine calls_abs fun R hR => ?_
  have h1 := hnone_rep w h
  have c1 := h.cells.2.1
  have hkeys := keysThings_any w (some X.mb)
  have hsort := sortedThings_any h.mp (by omega) (l := M.handles) (Hp.handlesN_sorted M 192) (fun x hx => by
    obtain ⟨o, ho⟩ := Option.isSome_iff_exists.1 (hk.mem_handles.1 hx)
    have := hk.hr x o ho
    exact wfI_mk (by omega)) (fun x _ => by
    rw [hk.mem_handles]
    cases M.ob x <;> simp)
  clear h hk
  go_enter Tryz.func62, Tryz.ntmps62
  go_wp2_with fail
  refine h1.mono ?_
  rintro e _ ⟨rfl, rfl⟩
  go_wp2_with fail
  refine hkeys.mono ?_
  rintro e _ ⟨rfl, rfl⟩
  go_wp2_with fail
  refine hsort.mono ?_
  rintro e w5 ⟨v, rfl, hi, ho⟩
  have HI := Lib.hid hi
  have HO := Lib.hid ho
  clear h1 hkeys hsort hi ho
  go_wp2_with fail
  exact hR.out _ _ ⟨v, rfl, HI.out, HO.out⟩
end Go.Proofs.YthflghdaejbdkaaGreat
namespace Go.Proofs.YthflghdaejbdkaaGreat
open Go.RowKit Go.Maps
set_option maxHeartbeats 12800000
set_option maxRecDepth 100000
set_option linter.unusedVariables false
theorem Hp.Ok.wfH {M : Hp} (hk : M.Ok) {k : Int} (h : (M.ob k).isSome = true) : wfI k := by
  obtain ⟨o, ho⟩ := Option.isSome_iff_exists.1 h
  have := hk.hr k o ho
  exact wfI_mk (by omega)
theorem gI_get {l : List Int} {i : Nat} (h : i < l.length) : gI l i = l[i] := by unfold gI; rw [List.getElem?_eq_getElem h]; rfl
section
variable {M : Hp} {i k : Nat} {o o2 : Th} {bits : List Bool}
end
end Go.Proofs.YthflghdaejbdkaaGreat
namespace Go.Proofs.YthflghdaejbdkaaGreat
set_option linter.unusedVariables false
set_option maxRecDepth 100000
inductive Hp.Rch (M : Hp) (roots : List Int) : Int → Prop
  | root {x : Int} : x ∈ roots → x ≠ 0 → Hp.Rch M roots x
  | step {x y : Int} {o : Th} : Hp.Rch M roots x → M.ob x = some o → y ∈ o.refsL → Hp.Rch M roots y
def Hp.badRoot (M : Hp) (roots : List Int) : Prop := ∃ x, x ∈ roots ∧ x ≠ 0 ∧ M.ob x = none
open Classical in
noncomputable def Hp.reachN (M : Hp) (roots : List Int) : Nat → List Int
  | 0 => []
  | k + 1 => Hp.reachN M roots k ++ if M.Rch roots ((k : Int) + 1) then [(k : Int) + 1] else []
noncomputable def Hp.reachL (M : Hp) (roots : List Int) : List Int := M.reachN roots 192
section
variable {M : Hp} {roots : List Int}
theorem Hp.Ok.refTo (hk : M.Ok) {x y : Int} {o : Th} (ho : M.ob x = some o) (hy : y ∈ o.refsL) : (M.ob y).isSome = true ∧ 1 ≤ y ∧ y ≤ 192 := by
  obtain ⟨s, hs, h1, h2, h3⟩ := Th.of_mem_refsN hy
  have h4 := hk.sl x o ho s hs
  rw [h1, h2] at h4
  have h5 : (M.ob y).isSome = true := by
    unfold Hp.fits at h4
    simp only [if_true, Bool.or_eq_true, decide_eq_true_eq] at h4
    rcases h4 with h4 | h4
    · exact absurd h4 h3
    · exact h4
  obtain ⟨o', ho'⟩ := Option.isSome_iff_exists.1 h5
  exact ⟨h5, hk.hr y o' ho'⟩
theorem Hp.Rch.some (hk : M.Ok) (hb : ¬ M.badRoot roots) {x : Int} (h : M.Rch roots x) : (M.ob x).isSome = true ∧ 1 ≤ x ∧ x ≤ 192 := by
  cases h with
  | root h1 h2 =>
    cases e : M.ob x with
    | none => exact absurd ⟨x, h1, h2, e⟩ hb
    | some o => exact ⟨rfl, hk.hr x o e⟩
  | step h1 h2 h3 => exact hk.refTo h2 h3
theorem Hp.mem_reachN {k : Nat} {x : Int} : x ∈ M.reachN roots k ↔ ∃ j : Nat, j < k ∧ x = (j : Int) + 1 ∧ M.Rch roots x := by
  induction k with
  | zero => simp [Hp.reachN]
  | succ k ih =>
    unfold Hp.reachN
    rw [List.mem_append, ih]
    constructor
    · rintro (⟨j, h1, h2, h3⟩ | h)
      · exact ⟨j, by omega, h2, h3⟩
      · split at h
        · rename_i hs
          simp at h
          subst h
          exact ⟨k, by omega, rfl, hs⟩
        · simp at h
    · rintro ⟨j, h1, h2, h3⟩
      by_cases e : j = k
      · right
        subst e
        subst h2
        rw [if_pos h3]
        simp
      · exact .inl ⟨j, by omega, h2, h3⟩
theorem Hp.Ok.mem_reach (hk : M.Ok) (hb : ¬ M.badRoot roots) {x : Int} : x ∈ M.reachL roots ↔ M.Rch roots x := by
  unfold Hp.reachL
  rw [Hp.mem_reachN]
  constructor
  · rintro ⟨_, _, _, h⟩; exact h
  · intro h
    obtain ⟨_, h1, h2⟩ := h.some hk hb
    exact ⟨x.toNat - 1, by omega, by omega, h⟩
end
end Go.Proofs.YthflghdaejbdkaaGreat
