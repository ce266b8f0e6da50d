/- Lemmas of this claim. -/
import Derived.Test.YtkjocehdbpekjaaGreatIterLay
import Derived.Test.YtkjocehdbpekjaaGreatQOFull
import Derived.Lib.SlKeysI
import Derived.Test.YtkjocehdbpekjaaGreatQBSameB
import Derived.Test.YtkjocehdbpekjaaGreatQOUndo
namespace Go.Proofs.YtkjocehdbpekjaaGreat
open Go.RowKit Go.Maps Go.Sort Go.Shelf
set_option maxHeartbeats 3200000
set_option maxRecDepth 100000
set_option linter.unusedVariables false
theorem sortsA (m : Nat) : AnyZI.SortsIn Tryz.prog Tryz.sortedA_ren Fence.wide m :=
  ⟨fun blk off cap ss W hH hblk hsz => callsIn_wide.2 (AnyM.slices_Sort_int Tryz.sortA blk off cap ss W hH hblk hsz),
   fun p cap W => callsIn_wide.2 (AnyM.slices_Sort_int_none Tryz.sortA p cap W)⟩
theorem sorted_is {P : Program} {k : TypeId} {R : Value → Option (DataW Unit × List MemPlace)} {w : World} {b n : Nat} {D : DataW Unit} (hown : w.ownsMap P k R b n D) (K : Keyed P k) (hk : P.underlying k = some (.int .i64)) {l ss : List Int} (hl : l.Pairwise (· < ·)) (hm : ∀ x, x ∈ l → wfI x) (hh : ∀ x, wfI x → (Maps.has D (.int .i64 x) = true ↔ x ∈ l)) (hp : ss.Perm (intKeys D)) :
    ss.mergeSort (fun x y => decide (x ≤ y)) = l := by
  obtain ⟨es, hD, hpw, _⟩ := hown.entries K
  obtain ⟨es', hD', hko⟩ := hown.keysOf
  obtain rfl : es = es' := by rw [hD] at hD'; simpa using hD'
  subst hD
  have hnd : l.Nodup := hl.imp (fun h e => by omega)
  have hkeys : ∀ p ∈ es, ∃ x, p.1 = .int .i64 x ∧ wfI x := fun p hp => by
    obtain ⟨v, hv⟩ := hko p hp
    obtain ⟨x, _, hx, hw⟩ := Maps.keyOf_i64 hk hv
    exact ⟨x, hx, hw⟩
  have h1 : l.Perm (intKeys (.map es)) := perm_intKeys hpw (fun p hp => by obtain ⟨x, hx, _⟩ := hkeys p hp; exact ⟨x, hx⟩) hnd (fun x => by
    constructor
    · intro hx; exact (hh x (hm x hx)).2 hx
    · intro hx
      refine (hh x ?_).1 hx
      simp only [Maps.has, List.any_eq_true] at hx
      obtain ⟨p, hp, hs⟩ := hx
      obtain ⟨y, hy, hw⟩ := hkeys p hp
      rw [hy] at hs
      have e : y = x := by simpa [Lit.sameKey] using hs
      rw [← e]; exact hw)
  have h2 := mergeSort_of_perm_i (hp.trans h1.symm)
  show ss.mergeSort leI = l
  rw [h2]
  exact List.mergeSort_of_pairwise (hl.imp (fun h => by simp only [leI, decide_eq_true_eq]; omega))
theorem below_only {w w' : World} {B : Nat} (h : Below B w w') (hB : B = w.heap.size) : Only [] w w' := by
  subst hB
  exact ⟨h.os, h.tape, h.output, h.size, fun k hk _ => h.block k hk⟩
theorem keysThings_any (w : World) (mb : Option Nat) : Calls Tryz.prog 90 #[.map mb] w fun e w' => e = .returned (.func (.func 156) #[] #[.pointer (some ⟨w.heap.size, 0, none⟩)]) ∧ w' = w.alloc (.cells #[.map mb] 127) :=
  callsIn_wide.1 (AnyZI.keys_in Tryz.keysA Fence.wide 5 trivial rfl mb w)
theorem sortedThings_any {w : World} {mb n : Nat} {f : Int → Option Nat} (h : MapAt w mb n f) (hn : n ≤ 1000000) {l : List Int} (hl : l.Pairwise (· < ·)) (hm : ∀ x, x ∈ l → wfI x) (hf : ∀ x, wfI x → ((f x).isSome = true ↔ x ∈ l)) :
    Calls Tryz.prog 88 #[.func (.func 156) #[] #[.pointer (some ⟨w.heap.size, 0, none⟩)]] (w.alloc (.cells #[.map (some mb)] 127)) fun e w' =>
      ∃ v, e = .returned v ∧ Ints w' w.heap.size v l ∧ Only [] w w' := by
  obtain ⟨D, hD, hDf⟩ := h
  have hbl := hD.lt
  have hsz := hD.size_le
  have hseq : SeqGives Fence.wide 2 Tryz.prog 156 #[.pointer (some ⟨w.heap.size, 0, none⟩)] encZ (fun ss => ss.Perm (intKeys D)) (Maps.size D) (w.alloc (.cells #[.map (some mb)] 127)) :=
    AnyZI.keys_gives (ρ := Tryz.keysA_ren) { Tryz.keysA with } Fence.wide _ trivial rfl (by omega) w.heap.size mb n D _ (by simp) (by simp) (hD.alloc _)
  have cS := AnyZI.sorted_in Tryz.sortedA Fence.wide 5 trivial trivial trivial trivial rfl (by omega) (sortsA _) (enters_of Tryz.func154 (by kernel_rfl) rfl) 156 #[.pointer (some ⟨w.heap.size, 0, none⟩)] trivial (enters_of Tryz.func156 (by kernel_rfl) rfl) _ _ (by simp only [maxLen]; omega) (by omega) _ hseq
  change CallsIn _ _ Tryz.prog 88 _ _ _ at cS
  refine (callsIn_wide.1 cS).mono ?_
  rintro e w' ⟨v, ss, rfl, hS, hrow, _, hb⟩
  have hss := sorted_is hD keyedI Tryz.underlying3 hl hm (fun x hx => by rw [(hDf x hx).1]; exact hf x hx) hS
  have hlen : ss.length = l.length := by rw [← hss, List.length_mergeSort]
  rw [hss, hlen] at hrow
  have ho := below_only hb rfl
  refine ⟨v, rfl, ?_, ((Only.refl [] w).alloc _).trans ho (by simp)⟩
  have hI : Ints w' (w.alloc (.cells #[.map (some mb)] 127)).heap.size v l := hrow
  exact hI.base (by simp)
theorem Hp.handlesN_sorted (M : Hp) (k : Nat) : (M.handlesN k).Pairwise (· < ·) := by
  induction k with
  | zero => exact List.Pairwise.nil
  | succ k ih =>
    unfold Hp.handlesN
    refine List.pairwise_append.2 ⟨ih, by split <;> simp, fun a ha b hb => ?_⟩
    have hb2 : b = (k : Int) + 1 := by
      split at hb
      · simpa using hb
      · simp at hb
    have : ∀ j, ∀ a, a ∈ M.handlesN j → a < (j : Int) + 1 := by
      intro j
      induction j with
      | zero => intro a ha; simp [Hp.handlesN] at ha
      | succ j ih2 =>
        intro a ha
        unfold Hp.handlesN at ha
        rw [List.mem_append] at ha
        rcases ha with ha | ha
        · have := ih2 a ha; omega
        · split at ha
          · simp at ha; omega
          · simp at ha
    have := this k a ha
    omega
theorem Hp.mem_handlesK {M : Hp} {k : Nat} {x : Int} : x ∈ M.handlesN k ↔ ∃ j : Nat, j < k ∧ x = (j : Int) + 1 ∧ (M.ob x).isSome = true := by
  induction k with
  | zero => simp [Hp.handlesN]
  | succ k ih =>
    unfold Hp.handlesN
    rw [List.mem_append, ih]
    constructor
    · rintro (⟨j, h1, h2, h3⟩ | h)
      · exact ⟨j, by omega, h2, h3⟩
      · split at h
        · rename_i hs
          simp at h
          subst h
          exact ⟨k, by omega, rfl, hs⟩
        · simp at h
    · rintro ⟨j, h1, h2, h3⟩
      by_cases e : j = k
      · right
        subst e
        subst h2
        rw [if_pos h3]
        simp
      · exact .inl ⟨j, by omega, h2, h3⟩
theorem Hp.Ok.mem_handles {M : Hp} (hk : M.Ok) {x : Int} : x ∈ M.handles ↔ (M.ob x).isSome = true := by
  unfold Hp.handles
  rw [Hp.mem_handlesK]
  constructor
  · rintro ⟨_, _, _, h⟩; exact h
  · intro h
    obtain ⟨o, ho⟩ := Option.isSome_iff_exists.1 h
    have := hk.hr x o ho
    exact ⟨x.toNat - 1, by omega, by omega, h⟩
theorem handles_rep {L : Nat → Option Lb} {hb : Nat} {M : Hp} {X : HX} (w : World) (h : HRep w L hb M X) (hk : M.Ok) : Calls Tryz.prog 42 #[.pointer (some ⟨hb, 0, none⟩)] w (RetL w M.handles) := by
  refine calls_abs fun R hR => ?_
  have h1 := hnone_rep w h
  have c1 := h.cells.2.1
  have hkeys := keysThings_any w (some X.mb)
  have hsort := sortedThings_any h.mp (by omega) (l := M.handles) (Hp.handlesN_sorted M 192) (fun x hx => by
    obtain ⟨o, ho⟩ := Option.isSome_iff_exists.1 (hk.mem_handles.1 hx)
    have := hk.hr x o ho
    exact wfI_mk (by omega)) (fun x _ => by
    rw [hk.mem_handles]
    cases M.ob x <;> simp)
  clear h hk
  go_enter Tryz.func42, Tryz.ntmps42
  go_wp2_with fail
  refine h1.mono ?_
  rintro e _ ⟨rfl, rfl⟩
  go_wp2_with fail
  refine hkeys.mono ?_
  rintro e _ ⟨rfl, rfl⟩
  go_wp2_with fail
  refine hsort.mono ?_
  rintro e w5 ⟨v, rfl, hi, ho⟩
  have HI := Lib.hid hi
  have HO := Lib.hid ho
  clear h1 hkeys hsort hi ho
  go_wp2_with fail
  exact hR.out _ _ ⟨v, rfl, HI.out, HO.out⟩
end Go.Proofs.YtkjocehdbpekjaaGreat
namespace Go.Proofs.YtkjocehdbpekjaaGreat
open Go.RowKit Go.Maps
set_option maxHeartbeats 12800000
set_option maxRecDepth 100000
set_option linter.unusedVariables false
theorem Hp.Ok.wfH {M : Hp} (hk : M.Ok) {k : Int} (h : (M.ob k).isSome = true) : wfI k := by
  obtain ⟨o, ho⟩ := Option.isSome_iff_exists.1 h
  have := hk.hr k o ho
  exact wfI_mk (by omega)
theorem gI_get {l : List Int} {i : Nat} (h : i < l.length) : gI l i = l[i] := by unfold gI; rw [List.getElem?_eq_getElem h]; rfl
theorem gI_lt {l : List Int} (h : l.Pairwise (· < ·)) {i j : Nat} (hi : i < j) (hj : j < l.length) : gI l i < gI l j := by
  have h2 := List.pairwise_iff_getElem.1 h i j (by omega) hj hi
  rw [gI_get hj, gI_get (show i < l.length by omega)]
  exact h2
theorem handles_sorted (M : Hp) : M.handles.Pairwise (· < ·) := by unfold Hp.handles; exact Hp.handlesN_sorted M 192
theorem handles_lt {M : Hp} {i j : Nat} (hi : i < j) (hj : j < M.handles.length) : gI M.handles i < gI M.handles j := gI_lt (handles_sorted M) hi hj
def SeenB (M : Hp) (i : Nat) (o : Th) (k : Nat) (bits : List Bool) : Prop :=
  bits.length = 384 ∧ ∀ a : Nat, a < 384 → (gB bits a = true ↔ (∃ j, j < i ∧ ∃ o', M.ob (gI M.handles j) = some o' ∧ ∃ m, m < o'.blocks.length ∧ gI o'.blocks m = a) ∨ ∃ m, m < k ∧ gI o.blocks m = a)
theorem gB_rep {n j : Nat} : gB (List.replicate n false) j = false := by
  unfold gB
  rw [List.getElem?_replicate]
  split <;> rfl
theorem gB_set {l : List Bool} {i j : Nat} {v : Bool} (hi : i < l.length) : gB (l.set i v) j = if j = i then v else gB l j := by
  unfold gB
  rw [List.getElem?_set]
  by_cases e : i = j
  · subst e; rw [if_pos rfl, if_pos hi, if_pos rfl]; rfl
  · rw [if_neg e, if_neg (Ne.symm e)]
section
variable {M : Hp} {i k : Nat} {o o2 : Th} {bits : List Bool}
theorem SeenB.zero : SeenB M 0 o 0 (List.replicate 384 false) := ⟨List.length_replicate, fun a ha => by
  rw [gB_rep]
  constructor
  · intro h; cases h
  · rintro (⟨j, h, _⟩ | ⟨m, h, _⟩) <;> omega⟩
theorem SeenB.turn (h : SeenB M i o 0 bits) : SeenB M i o2 0 bits := ⟨h.1, fun a ha => by
  rw [h.2 a ha]
  constructor
  · rintro (h | ⟨m, h, _⟩)
    · exact .inl h
    · omega
  · rintro (h | ⟨m, h, _⟩)
    · exact .inl h
    · omega⟩
theorem SeenB.next (h : SeenB M i o o.blocks.length bits) (ho : M.ob (gI M.handles i) = some o) : SeenB M (i + 1) o2 0 bits := ⟨h.1, fun a ha => by
  rw [h.2 a ha]
  constructor
  · rintro (⟨j, hj, h⟩ | ⟨m, hm, h⟩)
    · exact .inl ⟨j, by omega, h⟩
    · exact .inl ⟨i, by omega, o, ho, m, hm, h⟩
  · rintro (⟨j, hj, o', ho', m, hm, h⟩ | ⟨m, hm, _⟩)
    · by_cases e : j = i
      · subst e
        rw [ho] at ho'
        cases ho'
        exact .inr ⟨m, hm, h⟩
      · exact .inl ⟨j, by omega, o', ho', m, hm, h⟩
    · omega⟩
theorem SeenB.no (h : SeenB M i o k bits) (hk : M.Ok) (hi : i < M.handles.length) (ho : M.ob (gI M.handles i) = some o) (hkl : k < o.blocks.length) {a : Nat} (ha : a < 384) (he : gI o.blocks k = a) : gB bits a = false := by
  cases e : gB bits a with
  | false => rfl
  | true =>
    rcases (h.2 a ha).1 e with ⟨j, hj, o', ho', m, hm, h2⟩ | ⟨m, hm, h2⟩
    · have h3 := hk.dj _ o' ho' _ o ho m hm k hkl (h2.trans he.symm)
      have := handles_lt hj hi
      omega
    · have h3 := hk.dj _ o ho _ o ho m (by omega) k hkl (h2.trans he.symm)
      omega
theorem SeenB.step (h : SeenB M i o k bits) {a : Nat} (ha : a < 384) (he : gI o.blocks k = a) : SeenB M i o (k + 1) (bits.set a true) := ⟨by rw [List.length_set]; exact h.1, fun x hx => by
  rw [gB_set (by rw [h.1]; exact ha)]
  by_cases e : x = a
  · subst e
    rw [if_pos rfl]
    exact ⟨fun _ => .inr ⟨k, by omega, he⟩, fun _ => rfl⟩
  · rw [if_neg e, h.2 x hx]
    constructor
    · rintro (h | ⟨m, hm, h⟩)
      · exact .inl h
      · exact .inr ⟨m, by omega, h⟩
    · rintro (h7 | ⟨m, hm, h7⟩)
      · exact .inl h7
      · by_cases em : m = k
        · rw [em, he] at h7; omega
        · exact .inr ⟨m, by omega, h7⟩⟩
end
theorem bits_cell {bits : List Bool} {a : Nat} (h : a < bits.length) : (bits.map Value.bool)[a]? = some (.bool (gB bits a)) := by
  rw [List.getElem?_map]
  unfold gB
  rw [List.getElem?_eq_getElem h]
  rfl
theorem mk_bools (n : Nat) (hn : n ≤ 1000) : ∃ C : Array Value, C.toList = (List.replicate n false).map Value.bool ∧ ∀ wx : World, (Instr.makeSlice 61 (.int .i64 (n : Int)) (.int .i64 (n : Int))).run Tryz.prog wx = .ok (.slice (some ⟨wx.heap.size, 0, none⟩) n n) (wx.alloc (.cells C 4)) := by
  obtain ⟨i0, hi0, hz0, hz1, hz2⟩ := info_parts infoBool
  refine ⟨madeCells (Value.bool false).cells (n * 1), by rw [made_bls, List.map_replicate], fun wx => ?_⟩
  rw [run_makeSlice (P := Tryz.prog) (w := wx) 61 4 i0 _ Tryz.underlying61 hi0 hz0 .i64 .i64 _ _ (by omega) (by omega) (by rw [hz1]; omega) (by rw [hz2]; omega) (by omega), hz1]
  rfl
end Go.Proofs.YtkjocehdbpekjaaGreat
