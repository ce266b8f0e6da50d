/- Layer 11's laws: a call in both heaps. -/
import Derived.Test.YtcdeikbehpepjaaGreatOFam
namespace Go.Proofs.YtcdeikbehpepjaaGreat
open Go.RowKit Go.Maps
set_option maxHeartbeats 6400000
set_option maxRecDepth 100000
set_option linter.unusedVariables false
section
variable {w0 w : World} {l : List Asn} {p q : Nat} {M : Hp}
/-- What a call in both heaps yields. -/
def ODid (w0 : World) (l : List Asn) (ip iq p q : Nat) (e : Ending) (w1 : World) : Prop :=
  e = .returned (.bool true) ∧ ∃ M', Fam w0 w1 ((l.set ip (PH p M')).set iq (GH q M'))
theorem odo_1a (h : Fam w0 w l) (ip iq : Nat) (hip : l[ip]? = some (PH p M)) (hiq : l[iq]? = some (GH q M)) (hne : ip ≠ iq) (a b c : Int) (g : Option Addr) (n k : Nat) (bl : List Bool) (wa : wfI a) (wb : wfI b) (wc : wfI c) (hba : BCap w0 g n k bl) (hn : n ≤ 20) :
    Calls Tryz.prog 29 #[.pointer (some ⟨p, 0, none⟩), .pointer (some ⟨q, 0, none⟩), .agg #[.int .i64 1, .int .i64 a, .int .i64 b, .int .i64 c, .slice g n k]] w (ODid w0 l ip iq p q) := by
  refine calls_abs fun R hR => ?_
  have HF1 := Lib.hid (h.addRow 56 [.int .i64 1, .int .i64 a, .int .i64 b, .int .i64 c, .slice g n k])
  have hr1 := HF1.out.row _ (lat_last _ _)
  have e0 := hr1.cell 0 rfl
  have e1 := hr1.cell 1 rfl
  have e4 := hr1.cell 4 rfl
  have hbl : bl.length ≤ 1000000 := by rw [hba.len]; omega
  have HC1 : Hid (∀ wx lx, Fam w0 wx lx → lx[ip]? = some (PH p M) → Calls Tryz.prog 63 #[.pointer (some ⟨p, 0, none⟩), .int .i64 a, .slice g n k] wx (fun e w1 => e = .returned (.tuple #[.int .i64 (M.newObject a bl).1, .int .i64 (M.newObject a bl).2.1]) ∧ Fam w0 w1 (lx.set ip (PH p (M.newObject a bl).2.2)))) := fun wx lx hf hi =>
    hf.pstep ip hi (fun hk => hk.newObject a bl) (fun L X hr hk => newObject_rep wx hr hk a _ bl (hba.barg.only hf.only) hbl)
  have HC2 : Hid (∀ wx lx, Fam w0 wx lx → lx[iq]? = some (GH q M) → Calls Tryz.prog 64 #[.pointer (some ⟨q, 0, none⟩), .int .i64 a, .slice g n k] wx (fun e w1 => e = .returned (.tuple #[.int .i64 (M.newObject a bl).1, .int .i64 (M.newObject a bl).2.1]) ∧ Fam w0 w1 (lx.set iq (GH q (M.newObject a bl).2.2)))) := fun wx lx hf hi =>
    hf.gstep iq hi (fun hk => hk.newObject a bl) (fun L X hr hk => gnewObject_rep wx hr hk a _ bl (hba.barg.only hf.only) hbl)
  generalize M.newObject a bl = r at *
  obtain ⟨r1, r2, M'⟩ := r
  have hn1 : ¬ (20 : Int) < n := by omega
  have HN : Hid (∀ w1, Fam w0 w1 ((l ++ [RowA w.heap.size 56 [.int .i64 1, .int .i64 a, .int .i64 b, .int .i64 c, .slice g n k]]).set ip (PH p M')) → Row w1 w.heap.size 56 [.int .i64 1, .int .i64 a, .int .i64 b, .int .i64 c, .slice g n k]) := fun w1 hf => hf.row l.length (lset_at (lat_last _ _) (by have := lat_lt hip; omega))
  have HQ : Hid (((l ++ [RowA w.heap.size 56 [.int .i64 1, .int .i64 a, .int .i64 b, .int .i64 c, .slice g n k]]).set ip (PH p M'))[iq]? = some (GH q M)) := lset_at (lat_left hiq) hne
  have c1 := HC1.out _ _ HF1.out (lat_left hip)
  have HL : Hid (ip < l.length ∧ iq < l.length) := ⟨lat_lt hip, lat_lt hiq⟩
  clear hip hiq hne hba h hr1 HC1
  go_enter Tryz.func29, Tryz.ntmps29
  go_wp2_with fail
  refine c1.mono ?_
  rintro e w3 ⟨rfl, f3⟩
  have hr3 := HN.out w3 f3
  have e1 := hr3.cell 1 rfl
  have e4 := hr3.cell 4 rfl
  have c2 := HC2.out _ _ f3 HQ.out
  clear f3 hr3 HC2 HF1 HN
  go_wp2_with fail
  refine c2.mono ?_
  rintro e w4 ⟨rfl, f4⟩
  have HE : Hid (Fam w0 w4 ((l.set ip (PH p M')).set iq (GH q M'))) := f4.pop2 HL.out.1 HL.out.2
  clear f4
  go_wp2_with fail
  exact hR.out _ _ ⟨rfl, M', HE.out⟩
theorem odo_1b (h : Fam w0 w l) (ip iq : Nat) (hip : l[ip]? = some (PH p M)) (hiq : l[iq]? = some (GH q M)) (hne : ip ≠ iq) (a b c : Int) (g : Option Addr) (n k : Nat) (bl : List Bool) (wa : wfI a) (wb : wfI b) (wc : wfI c) (hba : BCap w0 g n k bl) (hn : 20 < n) :
    Calls Tryz.prog 29 #[.pointer (some ⟨p, 0, none⟩), .pointer (some ⟨q, 0, none⟩), .agg #[.int .i64 1, .int .i64 a, .int .i64 b, .int .i64 c, .slice g n k]] w (ODid w0 l ip iq p q) := by
  refine calls_abs fun R hR => ?_
  have HF1 := Lib.hid (h.addRow 56 [.int .i64 1, .int .i64 a, .int .i64 b, .int .i64 c, .slice g 20 k])
  have hr0 := (Row.new w 56 [.int .i64 1, .int .i64 a, .int .i64 b, .int .i64 c, .slice g n k])
  have q4 := hr0.cell 4 rfl
  have q0 := hr0.cell 0 rfl
  have qf := hr0.free 4
  have hk20 : (20 : Int) ≤ k := by have := hba.cap; omega
  have hn1 : (20 : Int) < n := by omega
  have hr1 := HF1.out.row _ (lat_last _ _)
  have e0 := hr1.cell 0 rfl
  have e1 := hr1.cell 1 rfl
  have e4 := hr1.cell 4 rfl
  have HC1 : Hid (∀ wx lx, Fam w0 wx lx → lx[ip]? = some (PH p M) → Calls Tryz.prog 63 #[.pointer (some ⟨p, 0, none⟩), .int .i64 a, .slice g 20 k] wx (fun e w1 => e = .returned (.tuple #[.int .i64 0, .int .i64 1]) ∧ Fam w0 w1 (lx.set ip (PH p M)))) := fun wx lx hf hi =>
    by
      have hl20 : (bl.take 20).length = 20 := by rw [List.length_take, hba.len]; omega
      refine hf.pstep ip hi id (fun L X hr hk => ?_)
      have := newObject_rep wx hr hk a _ (bl.take 20) ((hba.barg20 hn).only hf.only) (by omega)
      rw [newObject_long (by omega)] at this
      exact this
  have HC2 : Hid (∀ wx lx, Fam w0 wx lx → lx[iq]? = some (GH q M) → Calls Tryz.prog 64 #[.pointer (some ⟨q, 0, none⟩), .int .i64 a, .slice g 20 k] wx (fun e w1 => e = .returned (.tuple #[.int .i64 0, .int .i64 1]) ∧ Fam w0 w1 (lx.set iq (GH q M)))) := fun wx lx hf hi =>
    by
      have hl20 : (bl.take 20).length = 20 := by rw [List.length_take, hba.len]; omega
      refine hf.gstep iq hi id (fun L X hr hk => ?_)
      have := gnewObject_rep wx hr hk a _ (bl.take 20) ((hba.barg20 hn).only hf.only) (by omega)
      rw [newObject_long (by omega)] at this
      exact this
  have HN : Hid (∀ w1, Fam w0 w1 ((l ++ [RowA w.heap.size 56 [.int .i64 1, .int .i64 a, .int .i64 b, .int .i64 c, .slice g 20 k]]).set ip (PH p M)) → Row w1 w.heap.size 56 [.int .i64 1, .int .i64 a, .int .i64 b, .int .i64 c, .slice g 20 k]) := fun w1 hf => hf.row l.length (lset_at (lat_last _ _) (by have := lat_lt hip; omega))
  have HQ : Hid (((l ++ [RowA w.heap.size 56 [.int .i64 1, .int .i64 a, .int .i64 b, .int .i64 c, .slice g 20 k]]).set ip (PH p M))[iq]? = some (GH q M)) := lset_at (lat_left hiq) hne
  have c1 := HC1.out _ _ HF1.out (lat_left hip)
  have HL : Hid (ip < l.length ∧ iq < l.length) := ⟨lat_lt hip, lat_lt hiq⟩
  clear hip hiq hne hba h hr1 HC1
  clear hr0
  go_enter Tryz.func29, Tryz.ntmps29
  go_wp2_with fail
  refine c1.mono ?_
  rintro e w3 ⟨rfl, f3⟩
  have hr3 := HN.out w3 f3
  have e1 := hr3.cell 1 rfl
  have e4 := hr3.cell 4 rfl
  have c2 := HC2.out _ _ f3 HQ.out
  clear f3 hr3 HC2 HF1 HN
  go_wp2_with fail
  refine c2.mono ?_
  rintro e w4 ⟨rfl, f4⟩
  have HE : Hid (Fam w0 w4 ((l.set ip (PH p M)).set iq (GH q M))) := f4.pop2 HL.out.1 HL.out.2
  clear f4
  go_wp2_with fail
  exact hR.out _ _ ⟨rfl, M, HE.out⟩
theorem odo_2 (h : Fam w0 w l) (ip iq : Nat) (hip : l[ip]? = some (PH p M)) (hiq : l[iq]? = some (GH q M)) (hne : ip ≠ iq) (a b c : Int) (g : Option Addr) (n k : Nat) (bl : List Bool) (wa : wfI a) (wb : wfI b) (wc : wfI c) (hba : BCap w0 g n k bl) :
    Calls Tryz.prog 29 #[.pointer (some ⟨p, 0, none⟩), .pointer (some ⟨q, 0, none⟩), .agg #[.int .i64 2, .int .i64 a, .int .i64 b, .int .i64 c, .slice g n k]] w (ODid w0 l ip iq p q) := by
  refine calls_abs fun R hR => ?_
  have HF1 := Lib.hid (h.addRow 56 [.int .i64 2, .int .i64 a, .int .i64 b, .int .i64 c, .slice g n k])
  have hr1 := HF1.out.row _ (lat_last _ _)
  have e0 := hr1.cell 0 rfl
  have e1 := hr1.cell 1 rfl
  have e2 := hr1.cell 2 rfl
  have e3 := hr1.cell 3 rfl
  have HC1 : Hid (∀ wx lx, Fam w0 wx lx → lx[ip]? = some (PH p M) → Calls Tryz.prog 41 #[.pointer (some ⟨p, 0, none⟩), .int .i64 a, .int .i64 b, .int .i64 c] wx (fun e w1 => e = .returned (.tuple #[.int .i64 (M.newArray a b c).1, .int .i64 (M.newArray a b c).2.1]) ∧ Fam w0 w1 (lx.set ip (PH p (M.newArray a b c).2.2)))) := fun wx lx hf hi =>
    hf.pstep ip hi (fun hk => hk.newArray a b c) (fun L X hr hk => newArray_rep wx hr hk a b c)
  have HC2 : Hid (∀ wx lx, Fam w0 wx lx → lx[iq]? = some (GH q M) → Calls Tryz.prog 65 #[.pointer (some ⟨q, 0, none⟩), .int .i64 a, .int .i64 b, .int .i64 c] wx (fun e w1 => e = .returned (.tuple #[.int .i64 (M.newArray a b c).1, .int .i64 (M.newArray a b c).2.1]) ∧ Fam w0 w1 (lx.set iq (GH q (M.newArray a b c).2.2)))) := fun wx lx hf hi =>
    hf.gstep iq hi (fun hk => hk.newArray a b c) (fun L X hr hk => gnewArray_rep wx hr hk a b c)
  generalize M.newArray a b c = r at *
  obtain ⟨r1, r2, M'⟩ := r
  have HN : Hid (∀ w1, Fam w0 w1 ((l ++ [RowA w.heap.size 56 [.int .i64 2, .int .i64 a, .int .i64 b, .int .i64 c, .slice g n k]]).set ip (PH p M')) → Row w1 w.heap.size 56 [.int .i64 2, .int .i64 a, .int .i64 b, .int .i64 c, .slice g n k]) := fun w1 hf => hf.row l.length (lset_at (lat_last _ _) (by have := lat_lt hip; omega))
  have HQ : Hid (((l ++ [RowA w.heap.size 56 [.int .i64 2, .int .i64 a, .int .i64 b, .int .i64 c, .slice g n k]]).set ip (PH p M'))[iq]? = some (GH q M)) := lset_at (lat_left hiq) hne
  have c1 := HC1.out _ _ HF1.out (lat_left hip)
  have HL : Hid (ip < l.length ∧ iq < l.length) := ⟨lat_lt hip, lat_lt hiq⟩
  clear hip hiq hne hba h hr1 HC1
  go_enter Tryz.func29, Tryz.ntmps29
  go_wp2_with fail
  refine c1.mono ?_
  rintro e w3 ⟨rfl, f3⟩
  have hr3 := HN.out w3 f3
  have e1 := hr3.cell 1 rfl
  have e2 := hr3.cell 2 rfl
  have e3 := hr3.cell 3 rfl
  have c2 := HC2.out _ _ f3 HQ.out
  clear f3 hr3 HC2 HF1 HN
  go_wp2_with fail
  refine c2.mono ?_
  rintro e w4 ⟨rfl, f4⟩
  have HE : Hid (Fam w0 w4 ((l.set ip (PH p M')).set iq (GH q M'))) := f4.pop2 HL.out.1 HL.out.2
  clear f4
  go_wp2_with fail
  exact hR.out _ _ ⟨rfl, M', HE.out⟩
theorem odo_3 (h : Fam w0 w l) (ip iq : Nat) (hip : l[ip]? = some (PH p M)) (hiq : l[iq]? = some (GH q M)) (hne : ip ≠ iq) (a b c : Int) (g : Option Addr) (n k : Nat) (bl : List Bool) (wa : wfI a) (wb : wfI b) (wc : wfI c) (hba : BCap w0 g n k bl) :
    Calls Tryz.prog 29 #[.pointer (some ⟨p, 0, none⟩), .pointer (some ⟨q, 0, none⟩), .agg #[.int .i64 3, .int .i64 a, .int .i64 b, .int .i64 c, .slice g n k]] w (ODid w0 l ip iq p q) := by
  refine calls_abs fun R hR => ?_
  have HF1 := Lib.hid (h.addRow 56 [.int .i64 3, .int .i64 a, .int .i64 b, .int .i64 c, .slice g n k])
  have HF1D := Lib.hid HF1.out.drew
  have hr1 := HF1.out.row _ (lat_last _ _)
  have e0 := hr1.cell 0 rfl
  have e1 := hr1.cell 1 rfl
  have HC1 : Hid (∀ wx lx, Fam w0 wx lx → lx[ip]? = some (PH p M) → Calls Tryz.prog 22 #[.pointer (some ⟨p, 0, none⟩), .int .i64 a] wx (fun e w1 => e = .returned (.int .i64 (M.release a).1) ∧ Fam w0 w1 (lx.set ip (PH p (M.release a).2)))) := fun wx lx hf hi =>
    hf.pstep ip hi (fun hk => hk.release a) (fun L X hr hk => release_rep wx hr hk a wa)
  have HC2 : Hid (∀ wx lx, Fam w0 wx lx → lx[iq]? = some (GH q M) → Calls Tryz.prog 66 #[.pointer (some ⟨q, 0, none⟩), .int .i64 a] wx (fun e w1 => e = .returned (.int .i64 (M.release a).1) ∧ Fam w0 w1 (lx.set iq (GH q (M.release a).2)))) := fun wx lx hf hi =>
    hf.gstep iq hi (fun hk => hk.release a) (fun L X hr hk => grelease_rep wx hr hk a)
  generalize M.release a = r at *
  obtain ⟨r1, M'⟩ := r
  have HN : Hid (∀ w1, Fam w0 w1 ((l ++ [RowA w.heap.size 56 [.int .i64 3, .int .i64 a, .int .i64 b, .int .i64 c, .slice g n k]]).set ip (PH p M')) → Row w1 w.heap.size 56 [.int .i64 3, .int .i64 a, .int .i64 b, .int .i64 c, .slice g n k]) := fun w1 hf => hf.row l.length (lset_at (lat_last _ _) (by have := lat_lt hip; omega))
  have HNG : Hid (∀ w1, Fam w0 w1 ((l ++ [RowA w.heap.size 56 [.int .i64 3, .int .i64 a, .int .i64 b, .int .i64 c, .slice g n k]]).set iq (GH q M')) → Row w1 w.heap.size 56 [.int .i64 3, .int .i64 a, .int .i64 b, .int .i64 c, .slice g n k]) := fun w1 hf => hf.row l.length (lset_at (lat_last _ _) (by have := lat_lt hiq; omega))
  have HN4 : Hid (∀ w1, Fam w0 w1 (((l ++ [RowA w.heap.size 56 [.int .i64 3, .int .i64 a, .int .i64 b, .int .i64 c, .slice g n k]]).set ip (PH p M')).set iq (GH q M')) → Row w1 w.heap.size 56 [.int .i64 3, .int .i64 a, .int .i64 b, .int .i64 c, .slice g n k]) := fun w1 hf => hf.row l.length (lset_at (lset_at (lat_last _ _) (by have := lat_lt hip; omega)) (by have := lat_lt hiq; omega))
  have HNG4 : Hid (∀ w1, Fam w0 w1 (((l ++ [RowA w.heap.size 56 [.int .i64 3, .int .i64 a, .int .i64 b, .int .i64 c, .slice g n k]]).set iq (GH q M')).set ip (PH p M')) → Row w1 w.heap.size 56 [.int .i64 3, .int .i64 a, .int .i64 b, .int .i64 c, .slice g n k]) := fun w1 hf => hf.row l.length (lset_at (lset_at (lat_last _ _) (by have := lat_lt hiq; omega)) (by have := lat_lt hip; omega))
  have HQ : Hid (((l ++ [RowA w.heap.size 56 [.int .i64 3, .int .i64 a, .int .i64 b, .int .i64 c, .slice g n k]]).set ip (PH p M'))[iq]? = some (GH q M)) := lset_at (lat_left hiq) hne
  have HQP : Hid (((l ++ [RowA w.heap.size 56 [.int .i64 3, .int .i64 a, .int .i64 b, .int .i64 c, .slice g n k]]).set iq (GH q M'))[ip]? = some (PH p M)) := lset_at (lat_left hip) (Ne.symm hne)
  have HNE := Lib.hid hne
  have HIP : Hid ((l ++ [RowA w.heap.size 56 [.int .i64 3, .int .i64 a, .int .i64 b, .int .i64 c, .slice g n k]])[ip]? = some (PH p M)) := lat_left hip
  have HIQ : Hid ((l ++ [RowA w.heap.size 56 [.int .i64 3, .int .i64 a, .int .i64 b, .int .i64 c, .slice g n k]])[iq]? = some (GH q M)) := lat_left hiq
  have HL : Hid (ip < l.length ∧ iq < l.length) := ⟨lat_lt hip, lat_lt hiq⟩
  clear hip hiq hne hba h hr1 
  go_enter Tryz.func29, Tryz.ntmps29
  go_wp2_with fail
  replace e1 : (w.alloc (.cells #[.int .i64 3, .int .i64 a, .int .i64 b, .int .i64 c, .slice g n k] 56)).drew.cell? ⟨w.heap.size, 1, none⟩ = some (.int .i64 a) := e1
  go_region_held3 (fun w' => w'.cell? ⟨w.heap.size, 1, none⟩ = some (.int .i64 a))
    (first | (exact e1) | (exact (HN4.out w4 g4).cell 1 rfl) | (exact (HNG4.out w4 f4).cell 1 rfl) | (exact (HN.out w3 f3).cell 1 rfl) | (exact (HNG.out w3 g3).cell 1 rfl))
    (first
      | (go_at_call 22; refine (HC1.out _ _ HF1D.out HIP.out).mono ?_; rintro e w3 ⟨rfl, f3⟩)
      | (go_at_call 22; refine (HC1.out _ _ g3 HQP.out).mono ?_; rintro e w4 ⟨rfl, f4⟩; have hfin := f4.pop2 HL.out.2 HL.out.1; rw [List.set_comm _ _ (Ne.symm HNE.out)] at hfin)
      | (go_at_call 66; refine (HC2.out _ _ HF1D.out HIQ.out).mono ?_; rintro e w3 ⟨rfl, g3⟩)
      | (go_at_call 66; refine (HC2.out _ _ f3 HQ.out).mono ?_; rintro e w4 ⟨rfl, g4⟩; have hfin := g4.pop2 HL.out.1 HL.out.2))
  all_goals
    have HE := Lib.hid hfin
    clear hfin
    go_wp2_with fail
    exact hR.out _ _ ⟨rfl, _, HE.out⟩
theorem odo_4 (h : Fam w0 w l) (ip iq : Nat) (hip : l[ip]? = some (PH p M)) (hiq : l[iq]? = some (GH q M)) (hne : ip ≠ iq) (a b c : Int) (g : Option Addr) (n k : Nat) (bl : List Bool) (wa : wfI a) (wb : wfI b) (wc : wfI c) (hba : BCap w0 g n k bl) :
    Calls Tryz.prog 29 #[.pointer (some ⟨p, 0, none⟩), .pointer (some ⟨q, 0, none⟩), .agg #[.int .i64 4, .int .i64 a, .int .i64 b, .int .i64 c, .slice g n k]] w (ODid w0 l ip iq p q) := by
  refine calls_abs fun R hR => ?_
  have HF1 := Lib.hid (h.addRow 56 [.int .i64 4, .int .i64 a, .int .i64 b, .int .i64 c, .slice g n k])
  have HF1D := Lib.hid HF1.out.drew
  have hr1 := HF1.out.row _ (lat_last _ _)
  have e0 := hr1.cell 0 rfl
  have e1 := hr1.cell 1 rfl
  have e2 := hr1.cell 2 rfl
  have e3 := hr1.cell 3 rfl
  have HC1 : Hid (∀ wx lx, Fam w0 wx lx → lx[ip]? = some (PH p M) → Calls Tryz.prog 21 #[.pointer (some ⟨p, 0, none⟩), .int .i64 a, .int .i64 b, .int .i64 c] wx (fun e w1 => e = .returned (.int .i64 (M.set a b c).1) ∧ Fam w0 w1 (lx.set ip (PH p (M.set a b c).2)))) := fun wx lx hf hi =>
    hf.pstep ip hi (fun hk => hk.set a b c) (fun L X hr hk => set_rep wx hr hk a b c wa wc)
  have HC2 : Hid (∀ wx lx, Fam w0 wx lx → lx[iq]? = some (GH q M) → Calls Tryz.prog 67 #[.pointer (some ⟨q, 0, none⟩), .int .i64 a, .int .i64 b, .int .i64 c] wx (fun e w1 => e = .returned (.int .i64 (M.set a b c).1) ∧ Fam w0 w1 (lx.set iq (GH q (M.set a b c).2)))) := fun wx lx hf hi =>
    hf.gstep iq hi (fun hk => hk.set a b c) (fun L X hr hk => gset_rep wx hr hk a b c)
  generalize M.set a b c = r at *
  obtain ⟨r1, M'⟩ := r
  have HN : Hid (∀ w1, Fam w0 w1 ((l ++ [RowA w.heap.size 56 [.int .i64 4, .int .i64 a, .int .i64 b, .int .i64 c, .slice g n k]]).set ip (PH p M')) → Row w1 w.heap.size 56 [.int .i64 4, .int .i64 a, .int .i64 b, .int .i64 c, .slice g n k]) := fun w1 hf => hf.row l.length (lset_at (lat_last _ _) (by have := lat_lt hip; omega))
  have HNG : Hid (∀ w1, Fam w0 w1 ((l ++ [RowA w.heap.size 56 [.int .i64 4, .int .i64 a, .int .i64 b, .int .i64 c, .slice g n k]]).set iq (GH q M')) → Row w1 w.heap.size 56 [.int .i64 4, .int .i64 a, .int .i64 b, .int .i64 c, .slice g n k]) := fun w1 hf => hf.row l.length (lset_at (lat_last _ _) (by have := lat_lt hiq; omega))
  have HN4 : Hid (∀ w1, Fam w0 w1 (((l ++ [RowA w.heap.size 56 [.int .i64 4, .int .i64 a, .int .i64 b, .int .i64 c, .slice g n k]]).set ip (PH p M')).set iq (GH q M')) → Row w1 w.heap.size 56 [.int .i64 4, .int .i64 a, .int .i64 b, .int .i64 c, .slice g n k]) := fun w1 hf => hf.row l.length (lset_at (lset_at (lat_last _ _) (by have := lat_lt hip; omega)) (by have := lat_lt hiq; omega))
  have HNG4 : Hid (∀ w1, Fam w0 w1 (((l ++ [RowA w.heap.size 56 [.int .i64 4, .int .i64 a, .int .i64 b, .int .i64 c, .slice g n k]]).set iq (GH q M')).set ip (PH p M')) → Row w1 w.heap.size 56 [.int .i64 4, .int .i64 a, .int .i64 b, .int .i64 c, .slice g n k]) := fun w1 hf => hf.row l.length (lset_at (lset_at (lat_last _ _) (by have := lat_lt hiq; omega)) (by have := lat_lt hip; omega))
  have HQ : Hid (((l ++ [RowA w.heap.size 56 [.int .i64 4, .int .i64 a, .int .i64 b, .int .i64 c, .slice g n k]]).set ip (PH p M'))[iq]? = some (GH q M)) := lset_at (lat_left hiq) hne
  have HQP : Hid (((l ++ [RowA w.heap.size 56 [.int .i64 4, .int .i64 a, .int .i64 b, .int .i64 c, .slice g n k]]).set iq (GH q M'))[ip]? = some (PH p M)) := lset_at (lat_left hip) (Ne.symm hne)
  have HNE := Lib.hid hne
  have HIP : Hid ((l ++ [RowA w.heap.size 56 [.int .i64 4, .int .i64 a, .int .i64 b, .int .i64 c, .slice g n k]])[ip]? = some (PH p M)) := lat_left hip
  have HIQ : Hid ((l ++ [RowA w.heap.size 56 [.int .i64 4, .int .i64 a, .int .i64 b, .int .i64 c, .slice g n k]])[iq]? = some (GH q M)) := lat_left hiq
  have HL : Hid (ip < l.length ∧ iq < l.length) := ⟨lat_lt hip, lat_lt hiq⟩
  clear hip hiq hne hba h hr1 
  go_enter Tryz.func29, Tryz.ntmps29
  go_wp2_with fail
  replace e1 : (w.alloc (.cells #[.int .i64 4, .int .i64 a, .int .i64 b, .int .i64 c, .slice g n k] 56)).drew.cell? ⟨w.heap.size, 1, none⟩ = some (.int .i64 a) := e1
  replace e2 : (w.alloc (.cells #[.int .i64 4, .int .i64 a, .int .i64 b, .int .i64 c, .slice g n k] 56)).drew.cell? ⟨w.heap.size, 2, none⟩ = some (.int .i64 b) := e2
  replace e3 : (w.alloc (.cells #[.int .i64 4, .int .i64 a, .int .i64 b, .int .i64 c, .slice g n k] 56)).drew.cell? ⟨w.heap.size, 3, none⟩ = some (.int .i64 c) := e3
  go_region_held3 (fun w' => w'.cell? ⟨w.heap.size, 1, none⟩ = some (.int .i64 a) ∧ w'.cell? ⟨w.heap.size, 2, none⟩ = some (.int .i64 b) ∧ w'.cell? ⟨w.heap.size, 3, none⟩ = some (.int .i64 c))
    (first | (exact ⟨e1, e2, e3⟩) | (exact ⟨(HN4.out w4 g4).cell 1 rfl, (HN4.out w4 g4).cell 2 rfl, (HN4.out w4 g4).cell 3 rfl⟩) | (exact ⟨(HNG4.out w4 f4).cell 1 rfl, (HNG4.out w4 f4).cell 2 rfl, (HNG4.out w4 f4).cell 3 rfl⟩) | (exact ⟨(HN.out w3 f3).cell 1 rfl, (HN.out w3 f3).cell 2 rfl, (HN.out w3 f3).cell 3 rfl⟩) | (exact ⟨(HNG.out w3 g3).cell 1 rfl, (HNG.out w3 g3).cell 2 rfl, (HNG.out w3 g3).cell 3 rfl⟩))
    (first
      | (go_at_call 21; refine (HC1.out _ _ HF1D.out HIP.out).mono ?_; rintro e w3 ⟨rfl, f3⟩)
      | (go_at_call 21; refine (HC1.out _ _ g3 HQP.out).mono ?_; rintro e w4 ⟨rfl, f4⟩; have hfin := f4.pop2 HL.out.2 HL.out.1; rw [List.set_comm _ _ (Ne.symm HNE.out)] at hfin)
      | (go_at_call 67; refine (HC2.out _ _ HF1D.out HIQ.out).mono ?_; rintro e w3 ⟨rfl, g3⟩)
      | (go_at_call 67; refine (HC2.out _ _ f3 HQ.out).mono ?_; rintro e w4 ⟨rfl, g4⟩; have hfin := g4.pop2 HL.out.1 HL.out.2))
  all_goals
    have HE := Lib.hid hfin
    clear hfin
    go_wp2_with fail
    exact hR.out _ _ ⟨rfl, _, HE.out⟩
theorem odo_5 (h : Fam w0 w l) (ip iq : Nat) (hip : l[ip]? = some (PH p M)) (hiq : l[iq]? = some (GH q M)) (hne : ip ≠ iq) (a b c : Int) (g : Option Addr) (n k : Nat) (bl : List Bool) (wa : wfI a) (wb : wfI b) (wc : wfI c) (hba : BCap w0 g n k bl) :
    Calls Tryz.prog 29 #[.pointer (some ⟨p, 0, none⟩), .pointer (some ⟨q, 0, none⟩), .agg #[.int .i64 5, .int .i64 a, .int .i64 b, .int .i64 c, .slice g n k]] w (ODid w0 l ip iq p q) := by
  refine calls_abs fun R hR => ?_
  have HF1 := Lib.hid (h.addRow 56 [.int .i64 5, .int .i64 a, .int .i64 b, .int .i64 c, .slice g n k])
  have hr1 := HF1.out.row _ (lat_last _ _)
  have e0 := hr1.cell 0 rfl
  have e1 := hr1.cell 1 rfl
  have e2 := hr1.cell 2 rfl
  have HC1 : Hid (∀ wx lx, Fam w0 wx lx → lx[ip]? = some (PH p M) → Calls Tryz.prog 24 #[.pointer (some ⟨p, 0, none⟩), .int .i64 a, .int .i64 b] wx (fun e w1 => e = .returned (.tuple #[.int .i64 (M.get a b).1, .int .i64 (M.get a b).2]) ∧ Fam w0 w1 (lx.set ip (PH p M)))) := fun wx lx hf hi =>
    by
      obtain ⟨hk, L, X, hr⟩ := hf.ph ip hi
      rw [lset_same hi]
      exact (get_rep wx hr hk a b wa).mono fun e w1 ⟨he, m, hm⟩ => ⟨he, by rw [hm]; exact hf.drewN m⟩
  have HC2 : Hid (∀ wx lx, Fam w0 wx lx → lx[iq]? = some (GH q M) → Calls Tryz.prog 25 #[.pointer (some ⟨q, 0, none⟩), .int .i64 a, .int .i64 b] wx (fun e w1 => e = .returned (.tuple #[.int .i64 (M.get a b).1, .int .i64 (M.get a b).2]) ∧ Fam w0 w1 (lx.set iq (GH q M)))) := fun wx lx hf hi =>
    by
      obtain ⟨hk, L, X, hr⟩ := hf.gh iq hi
      rw [lset_same hi]
      exact (gget_rep wx hr hk a b).mono fun e w1 ⟨he, hm⟩ => ⟨he, by rw [← hm]; exact hf⟩
  generalize M.get a b = r at *
  obtain ⟨r1, r2⟩ := r
  have HN : Hid (∀ w1, Fam w0 w1 ((l ++ [RowA w.heap.size 56 [.int .i64 5, .int .i64 a, .int .i64 b, .int .i64 c, .slice g n k]]).set ip (PH p M)) → Row w1 w.heap.size 56 [.int .i64 5, .int .i64 a, .int .i64 b, .int .i64 c, .slice g n k]) := fun w1 hf => hf.row l.length (lset_at (lat_last _ _) (by have := lat_lt hip; omega))
  have HQ : Hid (((l ++ [RowA w.heap.size 56 [.int .i64 5, .int .i64 a, .int .i64 b, .int .i64 c, .slice g n k]]).set ip (PH p M))[iq]? = some (GH q M)) := lset_at (lat_left hiq) hne
  have c1 := HC1.out _ _ HF1.out (lat_left hip)
  have HL : Hid (ip < l.length ∧ iq < l.length) := ⟨lat_lt hip, lat_lt hiq⟩
  clear hip hiq hne hba h hr1 HC1
  go_enter Tryz.func29, Tryz.ntmps29
  go_wp2_with fail
  refine c1.mono ?_
  rintro e w3 ⟨rfl, f3⟩
  have hr3 := HN.out w3 f3
  have e1 := hr3.cell 1 rfl
  have e2 := hr3.cell 2 rfl
  have c2 := HC2.out _ _ f3 HQ.out
  clear f3 hr3 HC2 HF1 HN
  go_wp2_with fail
  refine c2.mono ?_
  rintro e w4 ⟨rfl, f4⟩
  have HE : Hid (Fam w0 w4 ((l.set ip (PH p M)).set iq (GH q M))) := f4.pop2 HL.out.1 HL.out.2
  clear f4
  go_wp2_with fail
  exact hR.out _ _ ⟨rfl, M, HE.out⟩
theorem odo_6 (h : Fam w0 w l) (ip iq : Nat) (hip : l[ip]? = some (PH p M)) (hiq : l[iq]? = some (GH q M)) (hne : ip ≠ iq) (a b c : Int) (g : Option Addr) (n k : Nat) (bl : List Bool) (wa : wfI a) (wb : wfI b) (wc : wfI c) (hba : BCap w0 g n k bl) :
    Calls Tryz.prog 29 #[.pointer (some ⟨p, 0, none⟩), .pointer (some ⟨q, 0, none⟩), .agg #[.int .i64 6, .int .i64 a, .int .i64 b, .int .i64 c, .slice g n k]] w (ODid w0 l ip iq p q) := by
  refine calls_abs fun R hR => ?_
  have HF1 := Lib.hid (h.addRow 56 [.int .i64 6, .int .i64 a, .int .i64 b, .int .i64 c, .slice g n k])
  have hr1 := HF1.out.row _ (lat_last _ _)
  have e0 := hr1.cell 0 rfl
  have HC1 : Hid (∀ wx lx, Fam w0 wx lx → lx[ip]? = some (PH p M) → Calls Tryz.prog 68 #[.pointer (some ⟨p, 0, none⟩)] wx (fun e w1 => e = .returned (.tuple #[.int .i64 M.move.1, .int .i64 M.move.2.1]) ∧ Fam w0 w1 (lx.set ip (PH p M.move.2.2)))) := fun wx lx hf hi =>
    hf.pstep ip hi (fun hk => hk.move) (fun L X hr hk => hmove_rep wx hr hk)
  have HC2 : Hid (∀ wx lx, Fam w0 wx lx → lx[iq]? = some (GH q M) → Calls Tryz.prog 69 #[.pointer (some ⟨q, 0, none⟩)] wx (fun e w1 => e = .returned (.tuple #[.int .i64 M.move.1, .int .i64 M.move.2.1]) ∧ Fam w0 w1 (lx.set iq (GH q M.move.2.2)))) := fun wx lx hf hi =>
    hf.gstep iq hi (fun hk => hk.move) (fun L X hr hk => gmove_rep wx hr hk)
  generalize M.move = r at *
  obtain ⟨r1, r2, M'⟩ := r
  have HN : Hid (∀ w1, Fam w0 w1 ((l ++ [RowA w.heap.size 56 [.int .i64 6, .int .i64 a, .int .i64 b, .int .i64 c, .slice g n k]]).set ip (PH p M')) → Row w1 w.heap.size 56 [.int .i64 6, .int .i64 a, .int .i64 b, .int .i64 c, .slice g n k]) := fun w1 hf => hf.row l.length (lset_at (lat_last _ _) (by have := lat_lt hip; omega))
  have HQ : Hid (((l ++ [RowA w.heap.size 56 [.int .i64 6, .int .i64 a, .int .i64 b, .int .i64 c, .slice g n k]]).set ip (PH p M'))[iq]? = some (GH q M)) := lset_at (lat_left hiq) hne
  have c1 := HC1.out _ _ HF1.out (lat_left hip)
  have HL : Hid (ip < l.length ∧ iq < l.length) := ⟨lat_lt hip, lat_lt hiq⟩
  clear hip hiq hne hba h hr1 HC1
  go_enter Tryz.func29, Tryz.ntmps29
  go_wp2_with fail
  refine c1.mono ?_
  rintro e w3 ⟨rfl, f3⟩
  have hr3 := HN.out w3 f3
  have c2 := HC2.out _ _ f3 HQ.out
  clear f3 hr3 HC2 HF1 HN
  go_wp2_with fail
  refine c2.mono ?_
  rintro e w4 ⟨rfl, f4⟩
  have HE : Hid (Fam w0 w4 ((l.set ip (PH p M')).set iq (GH q M'))) := f4.pop2 HL.out.1 HL.out.2
  clear f4
  go_wp2_with fail
  exact hR.out _ _ ⟨rfl, M', HE.out⟩
theorem odo_0 (h : Fam w0 w l) (ip iq : Nat) (hip : l[ip]? = some (PH p M)) (hiq : l[iq]? = some (GH q M)) (hne : ip ≠ iq) (d a b c : Int) (g : Option Addr) (n k : Nat) (hd : ¬ d = 1 ∧ ¬ d = 2 ∧ ¬ d = 3 ∧ ¬ d = 4 ∧ ¬ d = 5 ∧ ¬ d = 6) :
    Calls Tryz.prog 29 #[.pointer (some ⟨p, 0, none⟩), .pointer (some ⟨q, 0, none⟩), .agg #[.int .i64 d, .int .i64 a, .int .i64 b, .int .i64 c, .slice g n k]] w (ODid w0 l ip iq p q) := by
  refine calls_abs fun R hR => ?_
  have HE : Hid (Fam w0 (w.alloc (.cells #[.int .i64 d, .int .i64 a, .int .i64 b, .int .i64 c, .slice g n k] 56)) ((l.set ip (PH p M)).set iq (GH q M))) := by
    show Fam _ _ _
    rw [lset_same hip, lset_same hiq]
    exact h.alloc _
  have e0 := (Row.new w 56 [.int .i64 d, .int .i64 a, .int .i64 b, .int .i64 c, .slice g n k]).cell 0 rfl
  obtain ⟨d1, d2, d3, d4, d5, d6⟩ := hd
  clear h hip hiq hne
  go_enter Tryz.func29, Tryz.ntmps29
  go_wp2_with fail
  exact hR.out _ _ ⟨rfl, M, HE.out⟩
theorem odo_any (h : Fam w0 w l) (ip iq : Nat) (hip : l[ip]? = some (PH p M)) (hiq : l[iq]? = some (GH q M)) (hne : ip ≠ iq) (d a b c : Int) (g : Option Addr) (n k : Nat) (bl : List Bool) (wa : wfI a) (wb : wfI b) (wc : wfI c) (hba : BCap w0 g n k bl) :
    Calls Tryz.prog 29 #[.pointer (some ⟨p, 0, none⟩), .pointer (some ⟨q, 0, none⟩), .agg #[.int .i64 d, .int .i64 a, .int .i64 b, .int .i64 c, .slice g n k]] w (ODid w0 l ip iq p q) := by
  by_cases d1 : d = 1
  · subst d1
    by_cases hn : n ≤ 20
    · exact odo_1a h ip iq hip hiq hne a b c g n k bl wa wb wc hba hn
    · exact odo_1b h ip iq hip hiq hne a b c g n k bl wa wb wc hba (by omega)
  · by_cases d2 : d = 2
    · subst d2; exact odo_2 h ip iq hip hiq hne a b c g n k bl wa wb wc hba
    · by_cases d3 : d = 3
      · subst d3; exact odo_3 h ip iq hip hiq hne a b c g n k bl wa wb wc hba
      · by_cases d4 : d = 4
        · subst d4; exact odo_4 h ip iq hip hiq hne a b c g n k bl wa wb wc hba
        · by_cases d5 : d = 5
          · subst d5; exact odo_5 h ip iq hip hiq hne a b c g n k bl wa wb wc hba
          · by_cases d6 : d = 6
            · subst d6; exact odo_6 h ip iq hip hiq hne a b c g n k bl wa wb wc hba
            · exact odo_0 h ip iq hip hiq hne d a b c g n k ⟨d1, d2, d3, d4, d5, d6⟩
end
end Go.Proofs.YtcdeikbehpepjaaGreat
