/- Layer 15's laws: both memories at once. -/
import Derived.Test.YtbjmgbbggbbidaaRScopeP
namespace Go.Proofs.Ytbjmgbbggbbidaa
open Go.RowKit Go.Maps
set_option maxHeartbeats 1600000
set_option maxRecDepth 100000
set_option linter.unusedVariables false

/-- The program's memory is Mp, the document's is Mr; all their blocks are new since base. -/
structure HalfL (w : World) (base p q : Nat) (Mp Mr : Sc) (L : Nat → Option Lb) (K : Nat → Option Rb) (X : PX) (Y : RX) : Prop where
  hp : PRep w L p Mp.toP X
  hq : RRep w K q Mr Y
  okp : Mp.Ok
  okr : Mr.Ok
  d : ∀ k, L k ≠ none → K k = none
  gp : ∀ k, L k ≠ none → base ≤ k
  gq : ∀ k, K k ≠ none → base ≤ k
def Half (w : World) (base p q : Nat) (Mp Mr : Sc) : Prop := ∃ L K X Y, HalfL w base p q Mp Mr L K X Y
section
variable {w w' w1 : World} {base p q : Nat} {Mp Mr M' : Sc}
theorem Half.okp (h : Half w base p q Mp Mr) : Mp.Ok := by obtain ⟨L, K, X, Y, h⟩ := h; exact h.okp
theorem Half.okr (h : Half w base p q Mp Mr) : Mr.Ok := by obtain ⟨L, K, X, Y, h⟩ := h; exact h.okr
theorem Half.only0 (h : Half w base p q Mp Mr) (ho : Only [] w w') : Half w' base p q Mp Mr := by
  obtain ⟨L, K, X, Y, h⟩ := h
  exact ⟨L, K, X, Y, h.hp.only0 ho, h.hq.only0 ho, h.okp, h.okr, h.d, h.gp, h.gq⟩
theorem Half.pstep (h : Half w base p q Mp Mr) (hbase : base ≤ w.heap.size) {F : FuncId} {args : Array Value} {r : Value} (hok : M'.Ok) (hc : ∀ L X, PRep w L p Mp.toP X → Calls Try.prog F args w (Did w L p r M'.toP)) :
    Calls Try.prog F args w (fun e w1 => e = .returned r ∧ Half w1 base p q M' Mr ∧ OnlyP (fun k => base ≤ k) w w1) := by
  obtain ⟨L, K, X, Y, h⟩ := h
  refine (hc L X h.hp).mono ?_
  rintro e w1 ⟨rfl, L', X', h1, h2, h3⟩
  have hk : ∀ k, K k ≠ none → ¬ L k ≠ none := fun k h4 h5 => h4 (h.d k h5)
  refine ⟨rfl, ⟨L', K, X', Y, h1, h.hq.only h3 (fun k hk => h.d k hk), hok, h.okr, fun k h4 => ?_, fun k h4 => (h2 k h4).elim (h.gp k) (fun x => by omega), h.gq⟩, ⟨h3.os, h3.tape, h3.output, h3.size, fun k hk hn => h3.block k hk (fun x => hn (h.gp k x))⟩⟩
  rcases h2 k h4 with h5 | h5
  · exact h.d k h5
  · cases e : K k with
    | none => rfl
    | some ℓ => have := h.hq.lt k (by rw [e]; simp); omega
theorem Half.rstep (h : Half w base p q Mp Mr) (hbase : base ≤ w.heap.size) {F : FuncId} {args : Array Value} {r : Value} (hok : M'.Ok) (hc : ∀ K Y, RRep w K q Mr Y → Calls Try.prog F args w (RDid w K q r M')) :
    Calls Try.prog F args w (fun e w1 => e = .returned r ∧ Half w1 base p q Mp M' ∧ OnlyP (fun k => base ≤ k) w w1) := by
  obtain ⟨L, K, X, Y, h⟩ := h
  refine (hc K Y h.hq).mono ?_
  rintro e w1 ⟨rfl, K', Y', h1, h2, h3⟩
  have hd : ∀ k, K k ≠ none → L k = none := fun k hk => by
    cases e : L k with
    | none => rfl
    | some ℓ => exact absurd (h.d k (by rw [e]; simp)) hk
  refine ⟨rfl, ⟨L, K', X, Y', h.hp.only h3 hd, h1, h.okp, hok, fun k h4 => ?_, h.gp, fun k h4 => (h2 k h4).elim (h.gq k) (fun x => by omega)⟩, ⟨h3.os, h3.tape, h3.output, h3.size, fun k hk hn => h3.block k hk (fun x => hn (h.gq k x))⟩⟩
  cases e : K' k with
  | none => rfl
  | some ℓ =>
    rcases h2 k (by rw [e]; simp) with h5 | h5
    · exact absurd (h.d k h4) h5
    · have := h.hp.lt k h4; omega
theorem OnlyP.base0 {w0 : World} (h : OnlyP (fun k => w0.heap.size ≤ k) w0 w1) : Only [] w0 w1 := ⟨h.os, h.tape, h.output, h.size, fun k hk _ => h.block k hk (by omega)⟩
theorem Only.past {w0 : World} (h0 : Only [] w0 w) (h : OnlyP (fun k => w0.heap.size ≤ k) w w1) : Only [] w0 w1 := OnlyP.base0 ((h0.toP0 (S := fun k => w0.heap.size ≤ k)).trans h (fun x hx => .inl hx))
end

/-! ## What both answer -/
structure View where
  cur : Int → Int × Int
  stk : Int → List Int × Int
  par : Int → Int × Int
  usr : Int → Int × Int
  roo : Int → Int × Int
  por : Int → Int × Int
  are : Int → Int × Int
  ref : Int → List Int × Int
def View.none : View := ⟨fun _ => (0, 1), fun _ => ([], 1), fun _ => (0, 1), fun _ => (0, 1), fun _ => (0, 1), fun _ => (0, 1), fun _ => (0, 1), fun _ => ([], 1)⟩
def View.of (M : Sc) : View := ⟨M.current, M.stack, M.parent, M.users, M.room, M.portal, M.area, M.refs⟩
structure Agree (w : World) (vp vq : Value) (V : View) : Prop where
  cur : ∀ t, Calls Try.prog 39 #[vp, .int .i64 t] w (Two w (V.cur t)) ∧ Calls Try.prog 65 #[vq, .int .i64 t] w (Two w (V.cur t))
  stk : ∀ t, Calls Try.prog 16 #[vp, .int .i64 t] w (TwoL w (V.stk t)) ∧ Calls Try.prog 19 #[vq, .int .i64 t] w (TwoL w (V.stk t)) ∧ (V.stk t).1.length ≤ 1000
  par : ∀ a, Calls Try.prog 15 #[vp, .int .i64 a] w (Two w (V.par a)) ∧ Calls Try.prog 66 #[vq, .int .i64 a] w (Two w (V.par a))
  usr : ∀ a, Calls Try.prog 14 #[vp, .int .i64 a] w (Two w (V.usr a)) ∧ Calls Try.prog 67 #[vq, .int .i64 a] w (Two w (V.usr a))
  roo : ∀ a, Calls Try.prog 18 #[vp, .int .i64 a] w (Two w (V.roo a)) ∧ Calls Try.prog 68 #[vq, .int .i64 a] w (Two w (V.roo a))
  por : ∀ a, Calls Try.prog 33 #[vp, .int .i64 a] w (Two w (V.por a)) ∧ Calls Try.prog 34 #[vq, .int .i64 a] w (Two w (V.por a))
  are : ∀ x, wfI x → Calls Try.prog 17 #[vp, .int .i64 x] w (Two w (V.are x)) ∧ Calls Try.prog 29 #[vq, .int .i64 x] w (Two w (V.are x))
  ref : ∀ x, wfI x → Calls Try.prog 21 #[vp, .int .i64 x] w (TwoL w (V.ref x)) ∧ Calls Try.prog 30 #[vq, .int .i64 x] w (TwoL w (V.ref x)) ∧ (V.ref x).1.length ≤ 1000
  len : (vq = .pointer none) ∨ ∃ q va n vc, vq = .pointer (some ⟨q, 0, none⟩) ∧ w.cell? ⟨q, 2, none⟩ = some (.slice va n vc) ∧ n ≤ 500
theorem two_of {w : World} {F : FuncId} {args : Array Value} {a b : Int} (h : Calls Try.prog F args w (Exact w (.tuple #[.int .i64 a, .int .i64 b]))) : Calls Try.prog F args w (Two w (a, b)) := h.mono (by rintro e _ ⟨rfl, rfl⟩; exact ⟨rfl, Drew.refl _⟩)
theorem agree_none (w : World) : Agree w (.pointer none) (.pointer none) View.none :=
  ⟨fun t => ⟨current_nope w _ (.inl rfl) t, rcurrent_nil w t⟩, fun t => ⟨stack_nope w _ (.inl rfl) t, rstack_nil w t, by simp [View.none]⟩, fun a => ⟨parent_nope w _ (.inl rfl) a, two_of (rparent_nil w a)⟩, fun a => ⟨users_nope w _ (.inl rfl) a, two_of (rusers_nil w a)⟩,
    fun a => ⟨room_nope w _ (.inl rfl) a, two_of (rroom_nil w a)⟩, fun a => ⟨portal_nope w _ (.inl rfl) a, two_of (rportal_nil w a)⟩, fun x _ => ⟨area_nope w _ (.inl rfl) x, two_of (rarea_nil w x)⟩, fun x _ => ⟨refs_nope w _ (.inl rfl) x, rrefs_nil w x, by simp [View.none]⟩, .inl rfl⟩
theorem stack_len {M : Sc} (h : M.Ok) (t : Int) : (M.stack t).1.length ≤ 1000 := by
  unfold Sc.stack
  split
  · rename_i hT
    obtain ⟨n, rfl, hn⟩ := isT_nat hT
    have := h.s1 n hn
    show (M.stk n).length ≤ 1000
    omega
  · simp
theorem refs_len {M : Sc} (h : M.Ok) (x : Int) : (M.refs x).1.length ≤ 1000 := by
  unfold Sc.refs
  split
  · rename_i hT
    have mx := obI_mem hT
    have h1 := h.oa _ mx.1
    have h2 := nodup_le h1.2.2.2.2.1 h1.2.2.2.2.2
    have h3 := List.length_filter_le M.inn (M.ob x).refs
    have h4 := h.ob
    show ((M.ob x).refs.filter M.inn).length ≤ 1000
    have h5 : (obI M.obs x).refs.length ≤ M.obs.length := h2
    have h6 : (M.ob x).refs.length = (obI M.obs x).refs.length := rfl
    omega
  · simp
theorem agree_half {w : World} {base p q : Nat} {M : Sc} (h : Half w base p q M M) : Agree w (.pointer (some ⟨p, 0, none⟩)) (.pointer (some ⟨q, 0, none⟩)) (View.of M) := by
  obtain ⟨L, K, X, Y, h⟩ := h
  have hp := h.hp
  have ho := h.okp.toP
  have hq := h.hq
  have hr := h.okr
  refine ⟨fun t => ⟨?_, rcurrent_rep w hq hr t⟩, fun t => ⟨?_, rstack_rep w hq hr t, stack_len hr t⟩, fun a => ⟨?_, two_of (rparent_rep w hq hr a)⟩, fun a => ⟨?_, two_of (rusers_rep w hq hr.toS a)⟩,
    fun a => ⟨?_, two_of (rroom_rep w hq hr a)⟩, fun a => ⟨?_, rportal_rep w hq hr a⟩, fun x hx => ⟨?_, rarea_rep w hq hr x⟩, fun x hx => ⟨?_, rrefs_rep w hq hr x, refs_len hr x⟩, .inr ?_⟩
  · have := currentQ_rep w hp ho t; rwa [Sc.toP_current] at this
  · have := stack_rep w hp ho t; rwa [Sc.toP_stack] at this
  · have := parent_rep w hp ho a; rwa [Sc.toP_parentQ] at this
  · have := users_rep w hp ho a; rwa [Sc.toP_usersQ] at this
  · have := room_rep w hp ho a; rwa [Sc.toP_roomQ] at this
  · have := portal_rep w hp ho a; rwa [Sc.toP_portalQ] at this
  · have := area_rep w hp ho x hx; rwa [Sc.toP_area] at this
  · have := refs_rep w hp ho x hx; rwa [Sc.toP_refs] at this
  · obtain ⟨va, vc, hv⟩ := hq.ob.len
    have := hq.cells.2.2.1
    rw [hv] at this
    exact ⟨q, va, _, vc, rfl, this, hr.ob⟩
/-- .. and at every later world. -/
def AgreeO (w : World) (vp vq : Value) (V : View) : Prop := ∀ wr, Only [] w wr → Agree wr vp vq V
theorem agreeO_none (w : World) : AgreeO w (.pointer none) (.pointer none) View.none := fun wr _ => agree_none wr
theorem agreeO_half {w : World} {base p q : Nat} {M : Sc} (h : Half w base p q M M) : AgreeO w (.pointer (some ⟨p, 0, none⟩)) (.pointer (some ⟨q, 0, none⟩)) (View.of M) := fun wr ho => agree_half (h.only0 ho)

/-! ## Lists of numbers -/
theorem ints_same (w : World) (v1 v2 : Value) (l : List Int) (h1 : Read w v1 l) (h2 : Read w v2 l) (hl : l.length ≤ 1000) :
    Calls Try.prog 22 #[v1, v2] w (fun e w' => e = .returned (.bool true) ∧ Drew w w') := by
  refine calls_abs fun R hR => ?_
  obtain ⟨a1, c1, rfl⟩ := h1.len
  obtain ⟨a2, c2, rfl⟩ := h2.len
  have H1 := Lib.hid h1
  have H2 := Lib.hid h2
  obtain ⟨n, hn⟩ : ∃ n, n = l.length := ⟨_, rfl⟩
  rw [← hn] at hl H1 H2 ⊢
  have HN := Lib.hid hn
  clear h1 h2 hn
  go_enter Try.func22, Try.ntmps22
  go_wp2_with fail
  go_loopw [5] (fun iv wr => ∃ k m : Nat, k ≤ n ∧ iv = .int .i64 k ∧ wr = w.drewN m) (fun iv _ => n - (intOf iv).toNat)
  case atStart => exact ⟨0, 0, by omega, rfl, rfl⟩
  case round =>
    obtain ⟨k, m, hk, rfl, rfl⟩ := hrel
    by_cases hlt : k < n
    · have hlt' : k < l.length := by have := HN.out; omega
      rcases H1.out with ⟨b1, o1, d1, f1, g1⟩ | ⟨oa, d, f1, g1⟩
      rotate_left
      · rw [g1] at hlt'; simp at hlt'
      rcases H2.out with ⟨b2, o2, d2, f2, g2⟩ | ⟨oa, d, f2, g2⟩
      rotate_left
      · rw [g2] at hlt'; simp at hlt'
      have e1 : a1 = some ⟨b1, o1, none⟩ := by cases f1; rfl
      have e2 : a2 = some ⟨b2, o2, none⟩ := by cases f2; rfl
      subst e1 e2
      have k1 := g1 k hlt'
      have k2 := g2 k hlt'
      have hb1 : (0 : Int) ≤ k := by omega
      have hb2 : (k : Int) < n := by omega
      generalize gI l k = z at *
      clear g1 g2 f1 f2
      go_wp2_with fail
      go_quiet (fail)
      go_wp2_with fail
      exact ⟨⟨k + 1, _, by omega, by go_num, rfl⟩, by simp [intOf]; omega⟩
    · obtain rfl : k = n := by omega
      go_wp2_with fail
      exact hR.out _ _ ⟨rfl, m, rfl⟩
end Go.Proofs.Ytbjmgbbggbbidaa
