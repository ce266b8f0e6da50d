/- Reach of the program's heap. -/
import Derived.Test.YtkjocehdbpekjaaVisit
import Derived.Test.YtkjocehdbpekjaaRReach
namespace Go.Proofs.Ytkjocehdbpekjaa
open Go.RowKit Go.Maps
set_option maxHeartbeats 12800000
set_option maxRecDepth 100000
set_option linter.unusedVariables false
/-- How much is still to be done. -/
noncomputable def reachM (w : World) (B vb lb mb : Nat) : Nat := Classical.epsilon (fun m => ∃ lv S Q, Seen w B vb lb mb lv S Q ∧ m + cntS S = 192 + Q.length)
theorem cntS_congr {S S2 : Int → Bool} (h : ∀ k : Nat, k < 192 → S ((k : Int) + 1) = S2 ((k : Int) + 1)) : cntS S = cntS S2 := by
  unfold cntS
  generalize 192 = N at *
  exact cnt_congr h
theorem Seen.only {w w' : World} {B vb lb mb : Nat} {lv : Value} {S : Int → Bool} {Q : List Int} (h : Seen w B vb lb mb lv S Q) (ho : Only [] w w') : Seen w' B vb lb mb lv S Q :=
  ⟨ho.row h.rv (by simp), ho.row h.rl (by simp), h.qs.only ho (by simp), h.st.only ho (by simp), h.ne, Nat.le_trans h.bw ho.size⟩
theorem Seen.put {w : World} {B vb lb mb : Nat} {lv v2 : Value} {S : Int → Bool} {Q Q2 : List Int} (h : Seen w B vb lb mb lv S Q) (hq : Qsl w B v2 Q2) : Seen (w.setCell ⟨lb, 0, none⟩ v2) B vb lb mb v2 S Q2 := by
  have ho : Only [lb] w (w.setCell ⟨lb, 0, none⟩ v2) := (Only.refl [lb] w).set (.inl (by simp)) _
  have hn := h.ne
  exact ⟨h.rv.other (Ne.symm hn.1) _, h.rl.set 0 _, hq.only ho (fun k hk => by have := (hq.own k hk).1; simp; omega), h.st.only ho (by simp; omega), hn, Nat.le_trans h.bw ho.size⟩
theorem Qsl.last {w : World} {base g off : Nat} {x : Int} {l : List Int} (h : Qsl w base (.slice (some ⟨g, off, none⟩) (l.length + 1) 1) (x :: l)) : Qsl w base (.slice (some ⟨g, off, none⟩) l.length 0) l := by
  rcases h with ⟨_, h1⟩ | ⟨g', off', cap, T, cs, h1, h2, h3, h4, h5, h6⟩
  · cases h1
  · simp only [Value.slice.injEq, Option.some.injEq, Addr.mk.injEq] at h1
    obtain ⟨⟨rfl, rfl, _⟩, _, rfl⟩ := h1
    have h4' : l.length + 1 ≤ 1 := h4
    exact .inr ⟨g, off, 0, T, cs, rfl, h2, h3, by omega, by omega, fun j hj => by omega⟩
theorem Seen.same {w : World} {B vb lb mb : Nat} {lv lv2 : Value} {S S2 : Int → Bool} {Q Q2 : List Int} (h : Seen w B vb lb mb lv S Q) (h2 : Seen w B vb lb mb lv2 S2 Q2) : cntS S = cntS S2 ∧ Q.length = Q2.length := by
  constructor
  · refine cntS_congr fun k hk => ?_
    have hw : wfI ((k : Int) + 1) := wfI_mk (by omega)
    have e1 := h.st.look hw
    have e2 := h2.st.look hw
    rw [e1] at e2
    exact Value.bool.inj (Result.ok.inj e2).1
  · have e := h.rl.inj h2.rl
    injection e with e1 _
    obtain ⟨a, c, h3⟩ := h.qs.len
    obtain ⟨a2, c2, h4⟩ := h2.qs.len
    rw [h3, h4] at e1
    injection e1
theorem reachM_eq {w : World} {B vb lb mb : Nat} {lv : Value} {S : Int → Bool} {Q : List Int} (h : Seen w B vb lb mb lv S Q) : reachM w B vb lb mb + cntS S = 192 + Q.length := by
  have hex : ∃ m, ∃ lv S Q, Seen w B vb lb mb lv S Q ∧ m + cntS S = 192 + Q.length := ⟨192 + Q.length - cntS S, lv, S, Q, h, by have := cntS_le S; omega⟩
  obtain ⟨lv2, S2, Q2, h2, he⟩ := Classical.epsilon_spec hex
  obtain ⟨e1, e2⟩ := h.same h2
  rw [e1, e2]
  exact he
/-- What holds while the list is eaten. -/
structure RInv (M : Hp) (roots : List Int) (S : Int → Bool) (Q : List Int) : Prop where
  sound : ∀ x, S x = true → M.Rch roots x
  rts : ∀ x, x ∈ roots → x ≠ 0 → S x = true
  cls : ∀ x, S x = true → x ∈ Q ∨ ∀ y, y ∈ (M.refs x).1 → S y = true
  inS : ∀ x, x ∈ Q → S x = true
  len : Q.length ≤ cntS S
theorem RInv.start {M : Hp} {roots : List Int} {S2 : Int → Bool} {Q2 : List Int} (h : VisOk (fun _ => false) [] S2 Q2 roots roots.length) : RInv M roots S2 Q2 := by
  refine ⟨fun x hx => ?_, fun x hx h0 => ?_, fun x hx => .inl ((h.mem x).2 (.inr ⟨rfl, hx⟩)), fun x hx => ?_, ?_⟩
  · rcases (h.sub x).1 hx with h1 | ⟨h1, j, h2, h3⟩
    · cases h1
    · exact .root (mem_gI.2 ⟨j, h2, h3⟩) h1
  · obtain ⟨j, hj, h3⟩ := mem_gI.1 hx
    exact (h.sub x).2 (.inr ⟨h0, j, hj, h3⟩)
  · rcases (h.mem x).1 hx with h1 | ⟨_, h1⟩
    · cases h1
    · exact h1
  · have h1 := h.num
    have h0 : cntS (fun _ => false) = 0 := cnt_zero (fun _ _ => rfl)
    rw [h0] at h1
    simp at h1
    omega
theorem RInv.step {M : Hp} (hk : M.Ok) {roots : List Int} {S S2 : Int → Bool} {Q Q2 : List Int} {x : Int} (h : RInv M roots S (x :: Q)) {o : Th} (ho : M.ob x = some o) (hv : VisOk S Q S2 Q2 o.refsL o.refsL.length) : RInv M roots S2 Q2 := by
  have hmono : ∀ y, S y = true → S2 y = true := fun y hy => (hv.sub y).2 (.inl hy)
  have hxr : (M.refs x).1 = o.refsL := by unfold Hp.refs; rw [ho]
  refine ⟨fun y hy => ?_, fun y hy h0 => hmono y (h.rts y hy h0), fun y hy => ?_, fun y hy => ?_, ?_⟩
  · rcases (hv.sub y).1 hy with h1 | ⟨h1, j, h2, h3⟩
    · exact h.sound y h1
    · exact .step (h.sound x (h.inS x (by simp))) ho (mem_gI.2 ⟨j, h2, h3⟩)
  · cases hs : S y with
    | false => exact .inl ((hv.mem y).2 (.inr ⟨hs, hy⟩))
    | true =>
      rcases h.cls y hs with h1 | h1
      · rcases List.mem_cons.1 h1 with h2 | h2
        · right
          intro z hz
          rw [h2, hxr] at hz
          obtain ⟨j, hj, h3⟩ := mem_gI.1 hz
          have := hk.refTo ho hz
          exact (hv.sub z).2 (.inr ⟨by omega, j, hj, h3⟩)
        · exact .inl ((hv.mem y).2 (.inl h2))
      · exact .inr (fun z hz => hmono z (h1 z hz))
  · rcases (hv.mem y).1 hy with h1 | ⟨_, h1⟩
    · exact hmono y (h.inS y (List.mem_cons_of_mem _ h1))
    · exact h1
  · have h1 := hv.num
    have h2 := h.len
    simp only [List.length_cons] at h2
    omega
theorem RInv.done {M : Hp} (hk : M.Ok) {roots : List Int} (hb : ¬ M.badRoot roots) {S : Int → Bool} (h : RInv M roots S []) (x : Int) : S x = true ↔ x ∈ M.reachL roots := by
  rw [hk.mem_reach hb]
  constructor
  · exact h.sound x
  · intro hr
    induction hr with
    | root h1 h2 => exact h.rts _ h1 h2
    | step h1 h2 h3 ih =>
      rcases h.cls _ ih with h4 | h4
      · cases h4
      · refine h4 _ ?_
        unfold Hp.refs
        rw [h2]
        exact h3
section
variable {L : Nat → Option Lb} {hb : Nat} {M : Hp} {X : HX}
end
end Go.Proofs.Ytkjocehdbpekjaa
