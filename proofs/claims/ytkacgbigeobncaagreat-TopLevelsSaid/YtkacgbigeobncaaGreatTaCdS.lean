/- Lemmas of this claim. -/
import Derived.Test.YtkacgbigeobncaaGreatTaSModelC
namespace Go.Proofs.YtkacgbigeobncaaGreat
set_option linter.unusedVariables false
set_option linter.unusedSimpArgs false
set_option maxRecDepth 100000
def stkL (n : Nat) : List Int := 0 :: (List.range n).map (fun (i : Nat) => (i : Int) + 2)
def stkF (n : Nat) (t : Nat) : List Int := if t = 0 then stkL n else [0]
def lvOf (l : Nat) : Int := if l = 0 then 0 else (l : Int) + 1
structure Lv (n k : Nat) (M : Sc) (L : List (Int × Nat)) : Prop where
  ok : M.Ok
  sz : M.sizes = [24, 24, 24, 24, 24, 24]
  st : M.stk = stkF n
  n6 : n ≤ 6
  ln : M.obs.length ≤ k
  ob : ∀ p, p ∈ L → M.inn p.1 = true ∧ (M.ob p.1).area = lvOf p.2 ∧ p.2 ≤ n
variable {n k : Nat} {M : Sc} {L : List (Int × Nat)}
theorem stkF_zero : stkF 0 = fun _ => [0] := by
  funext t
  unfold stkF
  split <;> rfl
theorem Lv.new : Lv 0 0 (Sc.new [24, 24, 24, 24, 24, 24]) [] :=
  ⟨Sc.Ok.new (by decide), rfl, stkF_zero.symm, by omega, Nat.le_refl _, fun p hp => by cases hp⟩
theorem stkL_succ (n : Nat) : stkL (n + 1) = stkL n ++ [(n : Int) + 2] := by
  unfold stkL
  rw [List.range_succ, List.map_append, List.cons_append]
  rfl
theorem stkL_len (n : Nat) : (stkL n).length = n + 1 := by unfold stkL; simp
theorem stkF_push (n : Nat) : upd (stkF n) 0 (stkL n ++ [(n : Int) + 2]) = stkF (n + 1) := by
  funext t
  unfold upd stkF
  by_cases h : t = 0
  · rw [if_pos h, if_pos h, stkL_succ]
  · rw [if_neg h, if_neg h, if_neg h]
theorem stkF_pop (n : Nat) : upd (stkF (n + 1)) 0 ((stkF (n + 1) 0).dropLast) = stkF n := by
  funext t
  unfold upd
  by_cases h : t = 0
  · rw [if_pos h, h]
    show (stkL (n + 1)).dropLast = stkL n
    rw [stkL_succ, List.dropLast_concat]
  · rw [if_neg h]
    unfold stkF
    rw [if_neg h, if_neg h]
def Sc.bare (n : Nat) : Sc := ⟨[24, 24, 24, 24, 24, 24], stkF n, [], fun _ => 0⟩
theorem cnt_st {M N : Sc} (h : M.stk = N.stk) (a : Int) : ∀ k, M.cntN a k = N.cntN a k
  | 0 => rfl
  | k + 1 => by unfold Sc.cntN; rw [cnt_st h a k, h]
theorem used_st {M N : Sc} (h : M.stk = N.stk) (a : Int) : M.used a = N.used a := by unfold Sc.used Sc.usersN; rw [cnt_st h]
theorem parN_st {M N : Sc} (h : M.stk = N.stk) (a : Int) : ∀ k, M.parN a k = N.parN a k
  | 0 => rfl
  | k + 1 => by unfold Sc.parN; rw [parN_st h a k, h]
theorem par_st {M N : Sc} (h : M.stk = N.stk) (a : Int) : M.par a = N.par a := by unfold Sc.par; rw [parN_st h]
theorem outer_st {M N : Sc} (h : M.stk = N.stk) : ∀ k a b, M.outerN k a b = N.outerN k a b
  | 0, a, b => rfl
  | k + 1, a, b => by
    unfold Sc.outerN
    rw [par_st h]
    split
    · rfl
    · split
      · exact outer_st h k a _
      · rfl
theorem bare_used : ∀ n, n < 6 → (Sc.bare n).used ((n : Int) + 2) = false := by decide +kernel
theorem bare_outer : ∀ n, n ≤ 6 → ∀ a, a ≤ 6 → ∀ b, b ≤ 6 → a ≤ n → b ≤ n → (Sc.bare n).outerN 8 (lvOf a) (lvOf b) = decide (a ≤ b) := by decide +kernel
theorem top_stkL (n : Nat) : top (stkL n) = lvOf n := by
  cases n with
  | zero => rfl
  | succ n =>
    unfold top gI
    rw [stkL_len, stkL_succ]
    rw [List.getElem?_append_right (by rw [stkL_len]; omega), stkL_len]
    have e : n + 1 + 1 - 1 - (n + 1) = 0 := by omega
    rw [e]
    unfold lvOf
    rw [if_neg (by omega)]
    show (n : Int) + 2 = _
    omega
theorem Lv.enter (h : Lv n k M L) (hn : n < 6) : (M.enter 0 ((n : Int) + 2)).1 = 0 ∧ Lv (n + 1) k (M.enter 0 ((n : Int) + 2)).2 L := by
  have hA : M.isA ((n : Int) + 2) = true := by unfold Sc.isA isAn Sc.n; rw [h.sz]; simp; omega
  have hu : M.used ((n : Int) + 2) = false := by rw [used_st (N := Sc.bare n) h.st]; exact bare_used n hn
  have hs : M.stk ((0 : Int)).toNat = stkL n := by rw [h.st]; rfl
  have he : M.enter 0 ((n : Int) + 2) = (0, { M with stk := stkF (n + 1) }) := by
    unfold Sc.enter
    rw [hA, hu, hs, stkL_len]
    rw [if_pos (by decide), if_neg (by simp), if_neg (by omega)]
    rw [← stkF_push, ← h.st]
    rfl
  have hok := h.ok.enter 0 ((n : Int) + 2)
  rw [he] at hok ⊢
  exact ⟨rfl, hok, h.sz, rfl, by omega, h.ln, fun p hp => by
    obtain ⟨a, b, c⟩ := h.ob p hp
    exact ⟨a, b, by omega⟩⟩
theorem Lv.leave (h : Lv (n + 1) k M L) : (M.leave 0).2.1 = 0 ∧ Lv n k (M.leave 0).2.2 (L.filter (fun p => decide (p.2 ≤ n))) := by
  have hs : M.stk ((0 : Int)).toNat = stkL (n + 1) := by rw [h.st]; rfl
  have ht : top (stkL (n + 1)) = (n : Int) + 2 := by rw [top_stkL]; unfold lvOf; rw [if_neg (by omega)]; omega
  have hp : (M.popped ((0 : Int)).toNat).stk = stkF n := by
    show upd M.stk 0 ((M.stk 0).dropLast) = stkF n
    rw [h.st]
    exact stkF_pop n
  have hu : (M.popped ((0 : Int)).toNat).used ((n : Int) + 2) = false := by
    rw [used_st (N := Sc.bare n) hp]
    exact bare_used n (by have := h.n6; omega)
  have he : M.leave 0 = ((n : Int) + 2, 0, (M.popped ((0 : Int)).toNat).reset ((n : Int) + 2)) := by
    unfold Sc.leave
    rw [hs, ht, stkL_len, if_pos (by decide), if_neg (by omega), if_pos ⟨by omega, hu⟩]
  have hok := h.ok.leave 0
  rw [he] at hok ⊢
  refine ⟨rfl, hok, h.sz, hp, by have := h.n6; omega, by show (M.obs.map _).length ≤ k; rw [List.length_map]; exact h.ln, fun p hp2 => ?_⟩
  rw [List.mem_filter] at hp2
  obtain ⟨h1, h2⟩ := hp2
  have h2 : p.2 ≤ n := by simpa using h2
  obtain ⟨a, b, _⟩ := h.ob p h1
  have hx : 1 ≤ p.1 ∧ p.1 ≤ M.obs.length ∧ (obI M.obs p.1).gone = false := by
    unfold Sc.inn innL at a
    simp only [Bool.and_eq_true, decide_eq_true_eq, Bool.not_eq_true'] at a
    exact ⟨a.1.1, a.1.2, a.2⟩
  have hne : (M.ob p.1).area ≠ (n : Int) + 2 := by
    rw [b]
    unfold lvOf
    split <;> omega
  have hob : obI (M.obs.map (goneIn ((n : Int) + 2))) p.1 = obI M.obs p.1 := by
    have hl : p.1.toNat - 1 < M.obs.length := by omega
    unfold obI
    rw [List.getElem?_map, List.getElem?_eq_getElem hl]
    show goneIn _ _ = _
    have e : (M.ob p.1) = M.obs[p.1.toNat - 1] := by unfold Sc.ob obI; rw [List.getElem?_eq_getElem hl]; rfl
    unfold goneIn
    rw [if_neg (by rw [← e]; exact hne)]
    rfl
  refine ⟨?_, ?_, h2⟩
  · show innL (M.obs.map _) p.1 = true
    unfold innL
    rw [hob, List.length_map]
    simp only [Bool.and_eq_true, decide_eq_true_eq, Bool.not_eq_true']
    exact ⟨⟨hx.1, hx.2.1⟩, hx.2.2⟩
  · show (obI (M.obs.map _) p.1).area = _
    rw [hob]
    exact b
theorem Lv.alloc (h : Lv n k M L) (hk : k < 500) : ((M.alloc 0 1).2.1 = 0 ∧ Lv n (k + 1) (M.alloc 0 1).2.2 (L ++ [((M.alloc 0 1).1, n)])) ∨ ((M.alloc 0 1).2.1 = 14 ∧ 0 < n ∧ (M.alloc 0 1).2.2 = M) := by
  have hs : M.stk ((0 : Int)).toNat = stkL n := by rw [h.st]; rfl
  have hln := h.ln
  by_cases hr : M.roomN (lvOf n) < 1
  · right
    have he : M.alloc 0 1 = (0, 14, M) := by
      unfold Sc.alloc
      rw [hs, top_stkL, if_pos (by decide), if_pos hr]
    rw [he]
    refine ⟨rfl, ?_, rfl⟩
    cases n with
    | zero =>
      have : M.roomN (lvOf 0) = 1000 := rfl
      omega
    | succ n => omega
  · left
    have he : M.alloc 0 1 = ((M.obs.length : Int) + 1, 0, { M with obs := M.obs ++ [⟨lvOf n, 1, [], false⟩] }) := by
      unfold Sc.alloc
      rw [hs, top_stkL, if_pos (by decide), if_neg hr, if_neg (by omega)]
    have hok := h.ok.alloc 0 1
    rw [he] at hok ⊢
    refine ⟨rfl, hok, h.sz, h.st, h.n6, by show (M.obs ++ [_]).length ≤ _; rw [List.length_append]; simp; omega, fun p hp => ?_⟩
    rcases List.mem_append.1 hp with hp | hp
    · obtain ⟨a, b, c⟩ := h.ob p hp
      have hx : 1 ≤ p.1 ∧ p.1 ≤ M.obs.length ∧ (obI M.obs p.1).gone = false := by
        unfold Sc.inn innL at a
        simp only [Bool.and_eq_true, decide_eq_true_eq, Bool.not_eq_true'] at a
        exact ⟨a.1.1, a.1.2, a.2⟩
      have hob : obI (M.obs ++ [(⟨lvOf n, 1, [], false⟩ : Ob)]) p.1 = obI M.obs p.1 := by
        unfold obI
        rw [List.getElem?_append_left (by omega)]
      refine ⟨?_, ?_, c⟩
      · show innL (M.obs ++ [_]) p.1 = true
        unfold innL
        rw [hob]
        simp only [Bool.and_eq_true, decide_eq_true_eq, Bool.not_eq_true', List.length_append, List.length_singleton]
        exact ⟨⟨hx.1, by omega⟩, hx.2.2⟩
      · show (obI (M.obs ++ [_]) p.1).area = _
        rw [hob]
        exact b
    · rw [List.mem_singleton] at hp
      subst hp
      have hob : obI (M.obs ++ [(⟨lvOf n, 1, [], false⟩ : Ob)]) ((M.obs.length : Int) + 1) = ⟨lvOf n, 1, [], false⟩ := by
        unfold obI
        have e : ((M.obs.length : Int) + 1).toNat - 1 = M.obs.length := by omega
        rw [e, List.getElem?_append_right (Nat.le_refl _), Nat.sub_self]
        rfl
      refine ⟨?_, ?_, Nat.le_refl _⟩
      · show innL (M.obs ++ [_]) ((M.obs.length : Int) + 1) = true
        unfold innL
        rw [hob]
        simp only [Bool.and_eq_true, decide_eq_true_eq, Bool.not_eq_true', List.length_append, List.length_singleton]
        exact ⟨⟨by omega, by omega⟩, trivial⟩
      · show (obI (M.obs ++ [_]) ((M.obs.length : Int) + 1)).area = _
        rw [hob]
theorem Lv.may (h : Lv n k M L) {p q : Int × Nat} (hp : p ∈ L) (hq : q ∈ L) : M.may p.1 q.1 = (decide (q.2 ≤ p.2), 0) := by
  obtain ⟨a1, b1, c1⟩ := h.ob p hp
  obtain ⟨a2, b2, c2⟩ := h.ob q hq
  have hn := h.n6
  unfold Sc.may
  rw [a1, a2, b1, b2]
  show (M.outerN 8 _ _, _) = _
  rw [outer_st (N := Sc.bare n) h.st, bare_outer n hn q.2 (by omega) p.2 (by omega) c2 c1]
theorem Lv.stack (h : Lv n k M L) : M.stack 0 = (stkL n, 0) := by
  unfold Sc.stack
  rw [if_pos (by decide)]
  show (M.stk 0, _) = _
  rw [h.st]
  rfl
end Go.Proofs.YtkacgbigeobncaaGreat
namespace Go.Proofs.YtkacgbigeobncaaGreat
structure Ins where
  op : Int
  a : Int
  b : Int
  deriving DecidableEq, Inhabited
def specs : List (Int × Int × Int) := [(0,0,1),(1,0,1),(2,0,1),(2,0,1),(0,0,1),(0,0,1),(0,0,1),(0,0,1),(0,0,3),(0,0,8),(0,0,1),(0,0,1),(3,4,1),(0,0,1),(4,0,12),(5,0,4),(5,4,4),(6,0,2),(6,0,3),(0,0,3),(0,0,4),(0,0,2),(7,0,2),(7,0,3),(4,0,2),(8,0,4),(9,0,6),(10,0,2),(11,0,3),(0,0,1),(12,2,2),(13,0,2),(14,0,4),(0,0,2),(0,0,1),(0,0,1)]
def spec (op : Int) : Int × Int × Int := specs.getD op.toNat (0, 0, 0)
def mosts : List Int := [0, 0, 9, 4, 9, 48, 6, 9, 15, 15, 3, 9, 50, 5, 24]
def mostR (r : Int) : Int := mosts.getD r.toNat 0
def inR (n r : Int) : Bool :=
  if r = 1 then decide (-2147483648 ≤ n) && decide (n ≤ 2147483647) else if r = 3 then decide (2 ≤ n) && decide (n ≤ 4) else if r = 14 then decide (1 ≤ n) && decide (n ≤ 24) else decide (0 ≤ n) && decide (n ≤ mostR r)
def known (op : Int) : Bool := decide (0 ≤ op) && decide (op < 36)
def Ins.valid (i : Ins) : Bool := known i.op && inR i.a (spec i.op).1 && inR i.b (spec i.op).2.1 && (decide (i.op ≠ 12) || decide (i.a ≠ 3) || decide (i.b = 0))
def opens (op : Int) : Bool := op == 29 || op == 30 || op == 31 || op == 32 || op == 33
def Ins.cost (i : Ins) : Int := if i.op = 15 ∨ i.op = 16 then (spec i.op).2.2 + i.a else (spec i.op).2.2
theorem spec_range : ∀ op : Int, 0 ≤ (spec op).1 ∧ (spec op).1 < 15 ∧ 0 ≤ (spec op).2.1 ∧ (spec op).2.1 < 15 ∧ 0 ≤ (spec op).2.2 ∧ (spec op).2.2 ≤ 12 := by
  intro op
  have h : ∀ k, k < 36 → (fun s : Int × Int × Int => 0 ≤ s.1 ∧ s.1 < 15 ∧ 0 ≤ s.2.1 ∧ s.2.1 < 15 ∧ 0 ≤ s.2.2 ∧ s.2.2 ≤ 12) (specs.getD k (0, 0, 0)) := by decide
  unfold spec
  by_cases hk : op.toNat < 36
  · exact h _ hk
  · rw [List.getD_eq_getElem?_getD, List.getElem?_eq_none (by simp [specs]; omega)]
    decide
end Go.Proofs.YtkacgbigeobncaaGreat
namespace Go.Proofs.YtkacgbigeobncaaGreat
def setI (f : Nat → Int) (k : Nat) (v : Int) : Nat → Int := fun j => if j = k then v else f j
def nums (n : Nat) (f : Nat → Int) : List Int := (List.range n).map f
theorem nums_set (n : Nat) (f : Nat → Int) (k : Nat) (v : Int) : (nums n f).set k v = nums n (setI f k v) := by
  apply List.ext_getElem
  · simp [nums]
  · intro i h1 h2
    simp only [nums, List.getElem_set, List.getElem_map, List.getElem_range, setI]
    by_cases h : k = i
    · subst h; simp
    · rw [if_neg h, if_neg (fun e => h e.symm)]
theorem nums_at {n : Nat} (f : Nat → Int) {k : Nat} (h : k < n) : (nums n f)[k]? = some (f k) := by simp [nums, h]
structure Shp where
  op : Nat → Int
  el : Nat → Int
  en : Nat → Int
  dp : Nat → Int
  open_ : List Nat
  deep : Nat
def Shp.zero : Shp := ⟨fun _ => 0, fun _ => 0, fun _ => 0, fun _ => 0, [], 0⟩
def topN (l : List Nat) : Nat := l.getLastD 0
def Shp.first (s : Shp) (k : Nat) : Shp :=
  { s with op := setI s.op k (if s.open_ = [] then -1 else (topN s.open_ : Int)), el := setI s.el k (-1), en := setI s.en k (-1), dp := setI s.dp k s.open_.length }
def Shp.step (c : List Ins) (s : Shp) (k : Nat) : Option Shp :=
  let i := c.getD k default
  let t := s.first k
  if opens i.op then some { t with open_ := t.open_ ++ [k], deep := max t.deep (t.open_.length + 1) }
  else if i.op = 34 ∨ i.op = 35 then
    if s.open_ = [] then none else
    let o := topN s.open_
    let c0 := (c.getD o default).op
    let t := { t with dp := setI t.dp k ((s.open_.length : Int) - 1) }
    if i.op = 34 then
      if ¬ (c0 = 29 ∨ c0 = 33) ∨ 0 ≤ t.el o then none else some { t with el := setI t.el o k }
    else if c0 = 33 ∧ t.el o < 0 then none else some { t with en := setI t.en o k, open_ := t.open_.dropLast }
  else some t
def Shp.steps (c : List Ins) : Nat → Option Shp
  | 0 => some Shp.zero
  | k + 1 => (Shp.steps c k).bind fun s => s.step c k
def shape (c : List Ins) : Option Shp := Shp.steps c c.length
def nestOk (c : List Ins) : Bool := match shape c with | none => false | some s => decide (s.open_ = []) && decide (s.deep ≤ 6)
theorem Shp.steps_none {c : List Ins} {k m : Nat} (h : Shp.steps c k = none) (hkm : k ≤ m) : Shp.steps c m = none := by
  induction m with
  | zero => have : k = 0 := by omega
            subst this; exact h
  | succ m ih =>
    by_cases e : k = m + 1
    · subst e; exact h
    · unfold Shp.steps; rw [ih (by omega)]; rfl
structure Shp.Ok (s : Shp) (k : Nat) : Prop where
  lt : ∀ o, o ∈ s.open_ → o < k
  len : s.open_.length ≤ k
  deep : s.deep ≤ k
theorem Shp.Ok.step {c : List Ins} {s t : Shp} {k : Nat} (h : s.Ok k) (ht : s.step c k = some t) : t.Ok (k + 1) := by
  have e1 : (s.first k).open_ = s.open_ := rfl
  have e2 : (s.first k).deep = s.deep := rfl
  have h0 := h.lt
  have h1 := h.len
  have h2 := h.deep
  unfold Shp.step at ht
  dsimp only at ht
  split at ht
  · cases ht
    refine ⟨fun o ho => ?_, ?_, ?_⟩
    · simp only [e1, List.mem_append, List.mem_singleton] at ho
      rcases ho with ho | ho
      · have := h0 o ho; omega
      · omega
    · simp only [e1, List.length_append, List.length_singleton]; omega
    · simp only [e1, e2]; omega
  · split at ht
    · split at ht
      · cases ht
      · split at ht
        · split at ht
          · cases ht
          · cases ht
            exact ⟨fun o ho => Nat.lt_succ_of_lt (h0 o ho), by simp only [e1]; omega, by simp only [e2]; omega⟩
        · split at ht
          · cases ht
          · cases ht
            exact ⟨fun o ho => Nat.lt_succ_of_lt (h0 o (List.dropLast_subset _ ho)), by simp only [e1, List.length_dropLast]; omega, by simp only [e2]; omega⟩
    · cases ht
      exact ⟨fun o ho => Nat.lt_succ_of_lt (h0 o ho), by simp only [e1]; omega, by simp only [e2]; omega⟩
theorem Shp.steps_ok {c : List Ins} : ∀ {k : Nat} {s : Shp}, Shp.steps c k = some s → s.Ok k
  | 0, s, h => by cases h; exact ⟨fun o ho => (by cases ho), Nat.le_refl _, Nat.le_refl _⟩
  | k + 1, s, h => by
    unfold Shp.steps at h
    cases hk : Shp.steps c k with
    | none => rw [hk] at h; cases h
    | some t => rw [hk] at h; exact (Shp.steps_ok hk).step h
def codeE (c : List Ins) : Int := if 120 < c.length then 2 else if c.any (fun i => !i.valid) then 1 else if nestOk c then 0 else 7
end Go.Proofs.YtkacgbigeobncaaGreat
