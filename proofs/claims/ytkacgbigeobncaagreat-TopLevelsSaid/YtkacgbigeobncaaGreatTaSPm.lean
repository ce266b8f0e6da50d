/- Lemmas of this claim. -/
import Derived.Test.YtkacgbigeobncaaGreatTaSModelC
namespace Go.Proofs.YtkacgbigeobncaaGreat
set_option linter.unusedVariables false
set_option linter.unusedSimpArgs false
structure Sp where
  size : Int
  room : Int
  users : Int
  parent : Int
  portal : Int
structure Th where
  area : Int
  blocks : Int
  refs : List Int
structure Pm where
  scs : List Sp
  stk : Nat → List Int
  ob : Int → Option Th
  made : Nat
def Pm.n (P : Pm) : Nat := P.scs.length
def Pm.isA (P : Pm) (a : Int) : Bool := isAn P.n a
def Pm.sp (P : Pm) (a : Int) : Sp := P.scs[a.toNat - 2]?.getD ⟨0, 0, 0, 0, 0⟩
def Pm.setSp (P : Pm) (a : Int) (s : Sp) : Pm := { P with scs := P.scs.set (a.toNat - 2) s }
def Pm.pushed (P : Pm) (t : Nat) (a : Int) : Pm := { P with stk := upd P.stk t (P.stk t ++ [a]) }
def Pm.enter (P : Pm) (t a : Int) : Int × Pm :=
  if isT t && P.isA a then
    if 2 ≤ a ∧ 0 < (P.sp a).users ∧ (P.sp a).parent ≠ under (P.stk t.toNat) then (17, P)
    else if 8 ≤ (P.stk t.toNat).length then (2, P)
    else (0, ((if 2 ≤ a then P.setSp a { P.sp a with parent := under (P.stk t.toNat), users := (P.sp a).users + 1 } else P).pushed t.toNat a))
  else (1, P)
def delOb (ob : Int → Option Th) (a : Int) (k : Int) : Option Th := match ob k with | some th => if th.area = a then none else some th | none => none
def cutRefs (ob : Int → Option Th) (th : Th) : Th := { th with refs := th.refs.filter fun n => (ob n).isSome }
def resetOb (ob : Int → Option Th) (a : Int) (k : Int) : Option Th := (delOb ob a k).map (cutRefs (delOb ob a))
def Pm.reset (P : Pm) (a : Int) : Pm := { P.setSp a ⟨(P.sp a).size, (P.sp a).size, 0, 0, 0⟩ with ob := resetOb P.ob a }
def Pm.popped (P : Pm) (t : Nat) : Pm := { P with stk := upd P.stk t (P.stk t).dropLast }
def Pm.fewer (P : Pm) (a : Int) : Pm := P.setSp a { P.sp a with users := (P.sp a).users - 1 }
def Pm.leave (P : Pm) (t : Int) : Int × Int × Pm :=
  if isT t then
    if (P.stk t.toNat).length = 1 then (0, 13, P)
    else (top (P.stk t.toNat), 0,
      if 2 ≤ top (P.stk t.toNat) then
        (if (P.sp (top (P.stk t.toNat))).users - 1 = 0 then ((P.popped t.toNat).fewer (top (P.stk t.toNat))).reset (top (P.stk t.toNat)) else (P.popped t.toNat).fewer (top (P.stk t.toNat)))
      else P.popped t.toNat)
  else (0, 1, P)
def Pm.stack (P : Pm) (t : Int) : List Int × Int := if isT t then (P.stk t.toNat, 0) else ([], 1)
def Pm.parent (P : Pm) (a : Int) : Int × Int := if P.isA a then (if 2 ≤ a ∧ 0 < (P.sp a).users then ((P.sp a).parent, 0) else (0, 3)) else (0, 1)
def Pm.users (P : Pm) (a : Int) : Int × Int := if P.isA a then (if 2 ≤ a then ((P.sp a).users, 0) else (0, 0)) else (0, 1)
def Pm.room (P : Pm) (a : Int) : Int × Int := if P.isA a then (if 2 ≤ a then ((P.sp a).room, 0) else (1000, 0)) else (0, 1)
def Pm.withOb (P : Pm) (th : Th) : Pm := { P with made := P.made + 1, ob := fun k => if k = P.made + 1 then some th else P.ob k }
def Pm.taken (P : Pm) (a b : Int) : Pm := if 2 ≤ a then P.setSp a { P.sp a with room := (P.sp a).room - b } else P
def Pm.alloc (P : Pm) (t b : Int) : Int × Int × Pm :=
  if isT t && decide (1 ≤ b ∧ b ≤ 8) then
    if 2 ≤ top (P.stk t.toNat) ∧ (P.sp (top (P.stk t.toNat))).room < b then (0, 14, P)
    else if 500 ≤ P.made then (0, 2, P)
    else (P.made + 1, 0, (P.taken (top (P.stk t.toNat)) b).withOb ⟨top (P.stk t.toNat), b, []⟩)
  else (0, 1, P)
def Pm.area (P : Pm) (x : Int) : Int × Int := match P.ob x with | some th => (th.area, 0) | none => (0, 3)
def Pm.outerN (P : Pm) : Nat → Int → Int → Bool
  | 0, _, _ => false
  | n + 1, a, b => if a < 2 ∨ a = b then true else if b < 2 ∨ (P.sp b).users = 0 then false else Pm.outerN P n a (P.sp b).parent
def Pm.may (P : Pm) (x y : Int) : Bool × Int := match P.ob x, P.ob y with | some t, some u => (P.outerN 8 u.area t.area, 0) | _, _ => (false, 3)
def Pm.refs (P : Pm) (x : Int) : List Int × Int := match P.ob x with | some th => (th.refs, 0) | none => ([], 3)
def Pm.portal (P : Pm) (a : Int) : Int × Int := if P.isA a && decide (2 ≤ a) then (if (P.sp a).users = 0 then (0, 13) else ((P.sp a).portal, 0)) else (0, 1)
structure Pm.ok (P : Pm) : Prop where
  n6 : P.scs.length ≤ 6
  sp : ∀ a, 2 ≤ a → a < (P.n : Int) + 2 → 1 ≤ (P.sp a).size ∧ (P.sp a).size ≤ 24 ∧ 0 ≤ (P.sp a).room ∧ (P.sp a).room ≤ 24 ∧ 0 ≤ (P.sp a).users ∧ (P.sp a).users ≤ 40 ∧ 0 ≤ (P.sp a).parent ∧ (P.sp a).parent < (P.n : Int) + 2
  s1 : ∀ t, t < 5 → 1 ≤ (P.stk t).length ∧ (P.stk t).length ≤ 8
  sa : ∀ t, t < 5 → ∀ a ∈ P.stk t, 0 ≤ a ∧ a < (P.n : Int) + 2
  md : P.made ≤ 500
  th : ∀ k th, P.ob k = some th → 1 ≤ k ∧ k ≤ P.made ∧ 0 ≤ th.area ∧ th.area < (P.n : Int) + 2 ∧ 1 ≤ th.blocks ∧ th.blocks ≤ 8 ∧ th.refs.length ≤ 500 ∧ ∀ y ∈ th.refs, 1 ≤ y ∧ y ≤ 500
  rk : ∃ rk : Int → Nat, (∀ a, rk a ≤ 6) ∧ ∀ a, 2 ≤ a → a < (P.n : Int) + 2 → 0 < (P.sp a).users → 2 ≤ (P.sp a).parent → rk (P.sp a).parent < rk a
def Sc.spOf (M : Sc) (j : Nat) : Sp := ⟨gI M.sizes j, M.roomN (j + 2 : Nat), M.usersN (j + 2 : Nat), (M.par (j + 2 : Nat)).getD 0, M.por (j + 2)⟩
def Sc.thOf (M : Sc) (x : Int) : Option Th := if M.inn x then some ⟨(M.ob x).area, (M.ob x).blocks, (M.ob x).refs.filter M.inn⟩ else none
def Sc.toP (M : Sc) : Pm := ⟨(List.range M.n).map M.spOf, M.stk, M.thOf, M.obs.length⟩
theorem Sc.toP_n (M : Sc) : M.toP.n = M.n := by simp [Pm.n, toP]
theorem Sc.toP_isA (M : Sc) (a : Int) : M.toP.isA a = M.isA a := by unfold Pm.isA Sc.isA; rw [toP_n]
theorem Sc.toP_sp {M : Sc} {a : Int} (h2 : 2 ≤ a) (hn : a < (M.n : Int) + 2) : M.toP.sp a = M.spOf (a.toNat - 2) := by
  unfold Pm.sp toP
  simp only
  rw [List.getElem?_map, List.getElem?_range (by omega)]
  rfl
theorem back2 {a : Int} (h2 : 2 ≤ a) : ((a.toNat - 2 + 2 : Nat) : Int) = a := by omega
theorem Sc.toP_users {M : Sc} {a : Int} (h2 : 2 ≤ a) (hn : a < (M.n : Int) + 2) : (M.toP.sp a).users = M.usersN a := by
  rw [toP_sp h2 hn]; show (M.usersN ((a.toNat - 2 + 2 : Nat) : Int) : Int) = _; rw [back2 h2]
theorem Sc.toP_room {M : Sc} {a : Int} (h2 : 2 ≤ a) (hn : a < (M.n : Int) + 2) : (M.toP.sp a).room = M.roomN a := by
  rw [toP_sp h2 hn]; show M.roomN ((a.toNat - 2 + 2 : Nat) : Int) = _; rw [back2 h2]
theorem Sc.toP_parent {M : Sc} {a : Int} (h2 : 2 ≤ a) (hn : a < (M.n : Int) + 2) : (M.toP.sp a).parent = (M.par a).getD 0 := by
  rw [toP_sp h2 hn]; show (M.par ((a.toNat - 2 + 2 : Nat) : Int)).getD 0 = _; rw [back2 h2]
theorem Sc.toP_size {M : Sc} {a : Int} (h2 : 2 ≤ a) (hn : a < (M.n : Int) + 2) : (M.toP.sp a).size = gI M.sizes (a.toNat - 2) := by
  rw [toP_sp h2 hn]; rfl
theorem Sc.used_pos {M : Sc} {a : Int} : 0 < (M.usersN a : Int) ↔ M.used a = true := by unfold used; simp
theorem Sc.used_zero {M : Sc} {a : Int} : (M.usersN a : Int) = 0 ↔ M.used a = false := by unfold used; simp
theorem nodup_le {l : List Int} {n : Nat} (hd : l.Nodup) (h : ∀ y ∈ l, 1 ≤ y ∧ y ≤ n) : l.length ≤ n := by
  induction n generalizing l with
  | zero =>
    cases l with
    | nil => simp
    | cons x r => have := h x (by simp); omega
  | succ n ih =>
    have h1 : (l.erase (n + 1 : Int)).length ≤ n := ih (hd.erase _) (fun y hy => by
      have := h y (List.mem_of_mem_erase hy)
      have h3 : y ≠ (n + 1 : Int) := by
        rintro rfl
        exact (List.Nodup.not_mem_erase hd) hy
      omega)
    have h2 := List.length_erase (a := (n + 1 : Int)) (l := l)
    split at h2 <;> omega
theorem cntN_le {M : Sc} (h : ∀ t, t < 5 → (M.stk t).length ≤ 8) (a : Int) {k : Nat} (hk : k ≤ 5) : M.cntN a k ≤ 8 * k := by
  induction k with
  | zero => simp [Sc.cntN]
  | succ k ih =>
    unfold Sc.cntN
    have := ih (by omega)
    have := h k (by omega)
    have : (M.stk k).count a ≤ (M.stk k).length := List.count_le_length
    omega
theorem sumB_nonneg {a : Int} {l : List Ob} (h : ∀ o ∈ l, 1 ≤ o.blocks) : 0 ≤ sumB a l := by
  induction l with
  | nil => simp [sumB]
  | cons o r ih =>
    unfold sumB
    have := ih (fun o ho => h o (List.mem_cons_of_mem _ ho))
    have := h o (by simp)
    split <;> omega
theorem Sc.Ok.toP {M : Sc} (h : M.Ok) : M.toP.ok := by
  obtain ⟨rk, h6, hr⟩ := h.rank
  refine ⟨by simp [Sc.toP]; exact h.n6, fun a h2 ha => ?_, h.s1, fun t ht a ha => by rw [Sc.toP_n]; exact h.sa t ht a ha, h.ob, fun k th hk => ?_, rk, h6, fun a h2 ha hu hp => ?_⟩
  · rw [Sc.toP_n] at ha ⊢
    have hi : a.toNat - 2 < M.sizes.length := by unfold Sc.n at ha; omega
    have hsz := h.sz _ (List.getElem_mem hi)
    have hg : gI M.sizes (a.toNat - 2) = M.sizes[a.toNat - 2] := by unfold gI; rw [List.getElem?_eq_getElem hi]; rfl
    rw [Sc.toP_size h2 ha, Sc.toP_room h2 ha, Sc.toP_users h2 ha, Sc.toP_parent h2 ha, hg]
    have hrm := h.rm a h2 ha
    have hsn := sumB_nonneg (a := a) (fun o ho => (h.oa o ho).2.2.1)
    have hru : M.roomN a = gI M.sizes (a.toNat - 2) - sumB a M.obs := by unfold Sc.roomN; rw [if_neg (by omega)]
    have hul : M.usersN a ≤ 40 := by unfold Sc.usersN; rw [if_pos h2]; exact cntN_le (fun t ht => (h.s1 t ht).2) a (Nat.le_refl _)
    refine ⟨hsz.1, hsz.2, hrm, by rw [hru, hg]; omega, by omega, by omega, ?_⟩
    cases hp : M.par a with
    | none => simp; omega
    | some p =>
      simp only [Option.getD_some]
      rcases Sc.par_in hp with e | e
      · omega
      · have := h.usedA e; omega
  · have hk' : M.thOf k = some th := hk
    unfold Sc.thOf at hk'
    split at hk'
    · rename_i hin
      cases hk'
      have m := obI_mem hin
      obtain ⟨h1, h2, h3, h4, h5, h6⟩ := h.oa _ m.1
      refine ⟨m.2.2.1, m.2.2.2, h1, by rw [Sc.toP_n]; exact h2, h3, h4, ?_, fun y hy => ?_⟩
      · exact Nat.le_trans (List.length_filter_le _ _) (Nat.le_trans (nodup_le h5 h6) h.ob)
      · have := h6 y (List.mem_filter.1 hy).1
        have := h.ob
        omega
    · cases hk'
  · rw [Sc.toP_n] at ha
    rw [Sc.toP_users h2 ha] at hu
    rw [Sc.toP_parent h2 ha] at hp ⊢
    obtain ⟨p, e⟩ := Sc.used_par (Sc.used_pos.1 hu)
    rw [e] at hp ⊢
    exact hr a p e hp
theorem map_range_set {α : Type} {f g : Nat → α} {n i : Nat} {v : α} (h : ∀ j, j < n → g j = if j = i then v else f j) : (List.range n).map g = ((List.range n).map f).set i v := by
  apply List.ext_getElem
  · simp
  · intro j h1 h2
    simp at h1
    rw [List.getElem_set]
    simp only [List.getElem_map, List.getElem_range]
    rw [h j h1]
    by_cases e : j = i
    · simp [e]
    · simp [e, Ne.symm e]
theorem map_range_congr {α : Type} {f g : Nat → α} {n : Nat} (h : ∀ j, j < n → g j = f j) : (List.range n).map g = (List.range n).map f :=
  List.map_congr_left (fun j hj => h j (by simpa using hj))
theorem Pm.ext' {P Q : Pm} (h1 : P.scs = Q.scs) (h2 : P.stk = Q.stk) (h3 : P.ob = Q.ob) (h4 : P.made = Q.made) : P = Q := by
  cases P; cases Q; simp_all
theorem Sp.ext' {P Q : Sp} (h1 : P.size = Q.size) (h2 : P.room = Q.room) (h3 : P.users = Q.users) (h4 : P.parent = Q.parent) (h5 : P.portal = Q.portal) : P = Q := by
  cases P; cases Q; simp_all
theorem Sc.Ok.toP_outerN {M : Sc} (h : M.Ok) {n : Nat} {a b : Int} (ha : 0 ≤ a) (hb : b < (M.n : Int) + 2) : M.toP.outerN n a b = M.outerN n a b := by
  induction n generalizing b with
  | zero => rfl
  | succ n ih =>
    unfold Pm.outerN Sc.outerN
    by_cases h1 : a < 2 ∨ a = b
    · rw [if_pos h1, if_pos (show a = 0 ∨ a = 1 ∨ a = b by omega)]
    · rw [if_neg h1, if_neg (show ¬ (a = 0 ∨ a = 1 ∨ a = b) by omega)]
      by_cases h2 : b < 2
      · rw [if_pos (.inl h2), Sc.par_low (by omega)]
      · rw [Sc.toP_users (by omega) hb, Sc.toP_parent (by omega) hb]
        cases hp : M.par b with
        | none => rw [if_pos (.inr (Sc.used_zero.2 (Sc.par_none.1 hp)))]
        | some p =>
          have hu := Sc.par_used hp
          have h0 := Sc.used_pos.2 hu
          rw [if_neg (by omega)]
          simp only [Option.getD_some]
          refine ih ?_
          rcases Sc.par_in hp with e | e
          · omega
          · exact (h.usedA e).2
theorem Sc.toP_stack (M : Sc) (t : Int) : M.toP.stack t = M.stack t := rfl
theorem isA_lt {M : Sc} {a : Int} (h : M.isA a = true) : 0 ≤ a ∧ a < (M.n : Int) + 2 := by unfold Sc.isA isAn at h; simpa using h
theorem Sc.toP_ob (M : Sc) (x : Int) : M.toP.ob x = if M.inn x then some ⟨(M.ob x).area, (M.ob x).blocks, (M.ob x).refs.filter M.inn⟩ else none := rfl
theorem Sc.Ok.areaA {M : Sc} (h : M.Ok) {x : Int} (hx : M.inn x = true) : 0 ≤ (M.ob x).area ∧ (M.ob x).area < (M.n : Int) + 2 :=
  ⟨(h.oa _ (obI_mem hx).1).1, (h.oa _ (obI_mem hx).1).2.1⟩
theorem Sc.Ok.toP_may {M : Sc} (h : M.Ok) (x y : Int) : M.toP.may x y = M.may x y := by
  unfold Pm.may Sc.may
  rw [Sc.toP_ob, Sc.toP_ob]
  cases hx : M.inn x <;> cases hy : M.inn y <;> simp
  exact h.toP_outerN (h.areaA hy).1 (h.areaA hx).2
theorem Sc.toP_set {M M' : Sc} {a : Int} {s : Sp} (h2 : 2 ≤ a) (hn : a < (M.n : Int) + 2) (hs : M'.sizes = M.sizes) (ha : M'.spOf (a.toNat - 2) = s) (ho : ∀ b, 2 ≤ b → b < (M.n : Int) + 2 → b ≠ a → M'.spOf (b.toNat - 2) = M.spOf (b.toNat - 2)) :
    M'.toP.scs = M.toP.scs.set (a.toNat - 2) s := by
  have en : M'.n = M.n := by unfold n; rw [hs]
  show (List.range M'.n).map M'.spOf = ((List.range M.n).map M.spOf).set _ _
  rw [en]
  refine map_range_set (fun j hj => ?_)
  by_cases e : j = a.toNat - 2
  · rw [if_pos e, e]; exact ha
  · rw [if_neg e]
    have := ho ((j + 2 : Nat) : Int) (by omega) (by omega) (by omega)
    rwa [show ((j + 2 : Nat) : Int).toNat - 2 = j by omega] at this
theorem Sc.toP_same {M M' : Sc} (hs : M'.sizes = M.sizes) (ho : ∀ b, 2 ≤ b → b < (M.n : Int) + 2 → M'.spOf (b.toNat - 2) = M.spOf (b.toNat - 2)) : M'.toP.scs = M.toP.scs := by
  have en : M'.n = M.n := by unfold n; rw [hs]
  show (List.range M'.n).map M'.spOf = (List.range M.n).map M.spOf
  rw [en]
  refine map_range_congr (fun j hj => ?_)
  have := ho ((j + 2 : Nat) : Int) (by omega) (by omega)
  rwa [show ((j + 2 : Nat) : Int).toNat - 2 = j by omega] at this
theorem Sc.spOf_at (M : Sc) {a : Int} (h2 : 2 ≤ a) : M.spOf (a.toNat - 2) = ⟨gI M.sizes (a.toNat - 2), M.roomN a, M.usersN a, (M.par a).getD 0, M.por a.toNat⟩ := by
  unfold spOf
  rw [back2 h2, show a.toNat - 2 + 2 = a.toNat by omega]
end Go.Proofs.YtkacgbigeobncaaGreat
