/- The law QueuePlays, walked. -/
import Derived.Test.YtemdkffkpdhciaaPlayD
import Derived.Test.YtemdkffkpdhciaaQLawB
import Derived.Test.YtemdkffkpdhciaaArgs
namespace Go.Proofs.Ytemdkffkpdhciaa
open Go.RowKit
open Go.ChangeShapes Go.WideShapes
set_option maxHeartbeats 800000
set_option maxRecDepth 100000
set_option linter.unusedVariables false

/-- A slice of numbers; a nil one has no room. -/
def Numc (w : World) (a : Option Addr) (len cap : Nat) (f : Nat → Int) : Prop := Nums w a len f ∧ (a = none → len = 0 ∧ cap = 0)
theorem numc_of {H : Type} {enc : TypeId × Value → H} {P : Program} {w : World} {base : Nat} {spare : Nat → Bool} {held : Bool} {t e : TypeId} {fuel len cap : Nat} {a : Option Addr} {x : DataW H × List MemPlace} (ht : P.underlying t = some (.slice e)) (he : P.underlying e = some (.int .i64)) (hc : P.cellsOf e = 1)
    (h : DataW.trod enc P w base spare held fuel t [.slice a len cap] = some x) : ∃ f, Numc w a len cap f := by
  obtain ⟨f, hf⟩ := nums_of ht he hc h
  refine ⟨f, hf, fun e1 => ?_⟩
  subst e1
  rcases open_ints ht he hc h with ⟨h1, _⟩ | ⟨a', len', cap', zs, hcs, hb, hl, hm, hz, hx, hcell, hwz⟩
  · simp at h1; exact h1
  · simp at hcs

/-- The numbers that a slice holds. -/
def listOf (len : Nat) (f : Nat → Int) : List Int := (List.range len).map f
theorem listOf_len (len : Nat) (f : Nat → Int) : (listOf len f).length = len := by simp [listOf]
theorem listOf_at {len : Nat} {f : Nat → Int} {i : Nat} (h : i < len) : gI (listOf len f) i = f i := by simp [listOf, gI, h]
theorem Numc.read {w : World} {a : Option Addr} {len cap : Nat} {f : Nat → Int} (h : Numc w a len cap f) : Read w (.slice a len cap) (listOf len f) := by
  obtain ⟨⟨_, h0 | ⟨b, o, rfl, hc⟩⟩, _⟩ := h
  · subst h0
    exact .inr ⟨a, cap, rfl, rfl⟩
  · refine .inl ⟨b, o, cap, by rw [listOf_len], fun i hi => ?_⟩
    rw [listOf_len] at hi
    rw [(hc i hi).1, listOf_at hi]
theorem Numc.news {w : World} {a : Option Addr} {len cap : Nat} {f : Nat → Int} (h : Numc w a len cap f) : ∀ ad, a = some ad → ∀ j u, (listOf len f)[j]? = some u → w.cell? (ad.add j) = some (.int .i64 u) := by
  rintro ad rfl j u hu
  have hj : j < len := by have := (List.getElem?_eq_some_iff.1 hu).1; rwa [listOf_len] at this
  obtain ⟨⟨_, h0 | ⟨b, o, h1, hc⟩⟩, _⟩ := h
  · omega
  · cases h1
    rw [add_at, (hc j hj).1]
    have : gI (listOf len f) j = u := by unfold gI; rw [hu]; rfl
    rw [← this, listOf_at hj]

theorem PSt.step_len (σ : PSt) (x : Int) : (σ.step x).put.length ≤ σ.put.length + 1 ∧ (σ.step x).taken.length ≤ σ.taken.length + 1 := by
  have h1 : ∀ τ : PSt, τ.putStep.put.length ≤ τ.put.length + 1 ∧ τ.putStep.taken.length ≤ τ.taken.length + 1 := by
    intro τ; unfold PSt.putStep; refine ⟨?_, Nat.le_succ _⟩; show (if _ then _ else _ : List Bool).length ≤ _; split <;> simp
  have h2 : ∀ τ : PSt, τ.takeStep.put.length ≤ τ.put.length + 1 ∧ τ.takeStep.taken.length ≤ τ.taken.length + 1 := by
    intro τ; unfold PSt.takeStep; refine ⟨Nat.le_succ _, ?_⟩; show (if _ then _ else _ : List Int).length ≤ _; split <;> simp
  unfold PSt.step
  split
  · split
    · cases hps : σ.puts with
      | nil => simp
      | cons y ys => exact h1 _
    · exact h1 _
  · split
    · split
      · simp
      · exact h2 _
    · exact h2 _
theorem PSt.fold_len : ∀ (l : List Int) (σ : PSt), (l.foldl PSt.step σ).put.length ≤ σ.put.length + l.length ∧ (l.foldl PSt.step σ).taken.length ≤ σ.taken.length + l.length
  | [], σ => by simp
  | x :: l, σ => by
    have h1 := PSt.fold_len l (σ.step x)
    have h2 := σ.step_len x
    simp only [List.foldl_cons, List.length_cons]
    omega
theorem plOut_len (size takes : Int) (puts sched : List Int) : (plOut size puts takes sched).1.length ≤ sched.length ∧ (plOut size puts takes sched).2.length ≤ sched.length := by
  unfold plOut
  split
  · have := PSt.fold_len sched ⟨QSt.new size.toNat, puts, takes.toNat, [], []⟩
    simpa using this
  · simp

theorem walk_QueuePlays (a0 : Int) (a1 : Option Addr) (len1 cap1 : Nat) (f1 : Nat → Int) (a2 : Int) (a3 : Option Addr) (len3 cap3 : Nat) (f3 : Nat → Int) (w : World) (w0 : (Lit.int .i64 a0).wf = true) (w1 : Numc w a1 len1 cap1 f1) (w2 : (Lit.int .i64 a2).wf = true) (w3 : Numc w a3 len3 cap3 f3) :
    Calls Try.prog 7 #[.int .i64 a0, .slice a1 len1 cap1, .int .i64 a2, .slice a3 len3 cap3] w fun e w' => e = .returned (.bool true) ∧ Below w.heap.size w w' := by
  refine calls_abs fun R hR => ?_
  have hm1 := w1.1.1
  have hm3 := w3.1.1
  by_cases h1 : 500 < len1
  · clear w1 w3
    go_enter Try.func7, Try.ntmps7
    go_wp2_with fail
    refine (sane_any _).mono ?_
    rintro e w1 ⟨rfl, o1⟩
    go_wp2_with fail
    exact hR.out _ _ ⟨rfl, o1.below (Nat.le_refl _) (by simp)⟩
  by_cases h3 : 500 < len3
  · clear w1 w3
    go_enter Try.func7, Try.ntmps7
    go_wp2_with fail
    refine (sane_any _).mono ?_
    rintro e w1 ⟨rfl, o1⟩
    go_wp2_with fail
    exact hR.out _ _ ⟨rfl, o1.below (Nat.le_refl _) (by simp)⟩
  have R1 := w1.read
  have R3 := w3.read
  have N1 := w1.news
  have N3 := w3.news
  have Z1 := w1.2
  have Z3 := w3.2
  have L1 : (listOf len1 f1).length = len1 := listOf_len _ _
  have L3 : (listOf len3 f3).length = len3 := listOf_len _ _
  clear w1 w3
  generalize listOf len1 f1 = l1 at *
  generalize listOf len3 f3 = l3 at *
  subst L1
  subst L3
  have R1 := Lib.hid R1
  have R3 := Lib.hid R3
  have N1 := Lib.hid N1
  have N3 := Lib.hid N3
  have Z1 := Lib.hid Z1
  have Z3 := Lib.hid Z3
  have OL := Lib.hid (plOut_len a0 a2 l1 l3)
  generalize hER : playErr a0 l1 a2 l3 = er
  generalize hOT : plOut a0 l1 a2 l3 = out at *
  have HER := Lib.hid hER
  have HOT := Lib.hid hOT
  clear hER hOT
  go_enter Try.func7, Try.ntmps7
  go_wp2_with (at_builtin; refine append_intsO rfl _ _ rfl w.heap.size _ [] rfl (Ints.nil _ _) a1 l1.length cap1 l1 rfl Z1.out rfl N1.out ?c1 ?c2 ?c3)
  case c1 => simp; omega
  case c2 => simp
  case c3 =>
    intro v1 x1 i1 o1 b1
    have i1 : Ints x1 w.heap.size v1 l1 := i1
    have o1 : Only [] w x1 := o1.mono (by simp [Value.ownBlock])
    have hs1 := o1.size
    have I1 := Lib.hid i1
    have O1 := Lib.hid o1
    clear i1 o1 b1
    have N3' : Hid (∀ ad, a3 = some ad → ∀ j u, l3[j]? = some u → x1.cell? (ad.add j) = some (.int .i64 u)) := by
      intro ad h j u hu
      exact O1.out.cell (N3.out ad h j u hu) (by simp)
    go_wp2_with (at_builtin; refine append_intsO rfl _ _ rfl x1.heap.size _ [] rfl (Ints.nil _ _) a3 l3.length cap3 l3 rfl Z3.out rfl N3'.out ?d1 ?d2 ?d3)
    case d1 => simp; omega
    case d2 => simp
    case d3 =>
      intro v3 x2 i3 o2 b3
      have i3 : Ints x2 x1.heap.size v3 l3 := i3
      have o2 : Only [] x1 x2 := o2.mono (by simp [Value.ownBlock])
      have O2 := Lib.hid (O1.out.trans o2 (by simp))
      have I1' := Lib.hid (I1.out.only o2 (by simp))
      have I3 := Lib.hid i3
      clear i3 o2 b3 N3'
      go_wp2_with fail
      have hcc := play_any x2 a0 a2 v1 v3 l1 l3 I1'.out.read I3.out.read (fun k hk => (I1'.out.own k hk).2) (fun a m c' e => by
        rcases I1'.out.form with ⟨e2, e3⟩ | ⟨g, cap, e2, _, _, e3, _⟩
        · rw [e2] at e; cases e; exact Nat.le_refl _
        · rw [e2] at e; cases e; exact e3) (by omega) (by omega)
      rw [HER.out, HOT.out] at hcc
      refine hcc.mono ?_
      rintro e x3 ⟨u1, u2, rfl, g1, g2, o3⟩
      clear hcc
      have G1 := Lib.hid g1
      have G2 := Lib.hid g2
      have O3 := Lib.hid (O2.out.trans o3 (by simp))
      clear g1 g2 o3
      go_wp2_with fail
      have hcc := refPlay_any x3 a0 a2 _ _ l1 l3 (R1.out.only O3.out (by simp)) (R3.out.only O3.out (by simp)) (by omega) (by omega)
      rw [HER.out, HOT.out] at hcc
      refine hcc.mono ?_
      rintro e x4 ⟨u3, u4, rfl, g3, g4, o4⟩
      clear hcc
      have G1 := Lib.hid (G1.out.only o4 (by simp))
      have G2 := Lib.hid (G2.out.only o4 (by simp))
      have G3 := Lib.hid g3
      have G4 := Lib.hid g4
      have O4 := Lib.hid (O3.out.trans o4 (by simp))
      clear o4
      obtain ⟨s1, c1, e1⟩ := G1.out.len
      obtain ⟨s3, c3, e3⟩ := g3.len
      clear g3 g4
      subst e1
      subst e3
      go_wp2_with fail
      refine (ints_eq x4 _ _ _ G2.out.read G4.out.read (by have := OL.out.2; omega)).mono ?_
      rintro e _ ⟨rfl, n5, rfl⟩
      go_wp2_with fail
      go_loopw [15] (fun i wr => ∃ k : Nat, k ≤ out.1.length ∧ i = .int .i64 k ∧ ∃ n, wr = x4.drewN n) (fun i _ => out.1.length - (intOf i).toNat)
      case atStart => exact ⟨0, by omega, rfl, _, rfl⟩
      case round =>
        obtain ⟨k, hk, rfl, n, rfl⟩ := hrel
        have hol := OL.out.1
        by_cases hlt : k < out.1.length
        · rcases G1.out.form with ⟨e1, e2⟩ | ⟨b1, d1, e1, _, _, _, q1⟩
          · rw [e2] at hlt; simp at hlt
          rcases G3.out.form with ⟨e3, e4⟩ | ⟨b3, d3, e3, _, _, _, q3⟩
          · rw [e4] at hlt; simp at hlt
          simp only [Value.slice.injEq] at e1 e3
          obtain ⟨rfl, _, rfl⟩ := e1
          obtain ⟨rfl, _, rfl⟩ := e3
          have m1 := q1 k hlt
          have m3 := q3 k hlt
          clear q1 q3
          generalize out.1[k]?.getD false = bb at m1 m3
          cases bb
          · go_wp2_with fail
            go_quiet (fail)
            go_wp2_with fail
            exact ⟨⟨k + 1, by omega, by go_num, drewN_n _ _⟩, by simp [intOf]; omega⟩
          · go_wp2_with fail
            go_quiet (fail)
            go_wp2_with fail
            exact ⟨⟨k + 1, by omega, by go_num, drewN_n _ _⟩, by simp [intOf]; omega⟩
        · go_wp2_with fail
          refine (sane_any _).mono ?_
          rintro e x5 ⟨rfl, o5⟩
          go_wp2_with fail
          exact hR.out _ _ ⟨rfl, ((O4.out.drewN _).trans o5 (by simp)).below (Nat.le_refl _) (by simp)⟩
end Go.Proofs.Ytemdkffkpdhciaa
