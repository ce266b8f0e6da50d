/- Lemmas of this claim. -/
import Derived.Test.YtkacgbigeobncaaGreatTaScopeF
namespace Go.Proofs.YtkacgbigeobncaaGreat
open Go.RowKit Go.Maps
set_option maxHeartbeats 1600000
set_option maxRecDepth 100000
set_option linter.unusedVariables false
structure Sees (w : World) (cb p mb n : Nat) (f : Int → Option Nat) : Prop where
  box : w.cell? ⟨cb, 0, none⟩ = some (.pointer (some ⟨p, 0, none⟩))
  fld : w.cell? ⟨p, 6, none⟩ = some (.map (some mb))
  map : MapAt w mb n f
theorem Sees.only {w w' : World} {S : Nat → Prop} {cb p mb n : Nat} {f : Int → Option Nat} (h : Sees w cb p mb n f) (ho : OnlyP S w w') (h1 : ¬ S cb) (h2 : ¬ S p) (h3 : ¬ S mb) : Sees w' cb p mb n f :=
  ⟨ho.cell h.box h1, ho.cell h.fld h2, h.map.only ho h3⟩
theorem del2_any (w : World) (cb p mb n : Nat) (f : Int → Option Nat) (h : Sees w cb p mb n f) (x : Int) (hx : wfI x) :
    Calls Tryz.prog 32 #[.int .i64 x, .pointer (some ⟨cb, 0, none⟩)] w (Exact w (.bool (f x).isNone)) := by
  refine calls_abs fun R hR => ?_
  have h1 := h.box
  have h2 := h.fld
  have h3 := h.map.look hx
  clear h
  cases hf : f x with
  | none =>
    rw [hf] at h3
    replace h3 : (Instr.lookup 41 (.map (some mb)) (.int .i64 x) false).run Tryz.prog w = .ok (.pointer none) w := h3
    rw [hf] at hR
    clear hf
    go_enter Tryz.func32, Tryz.ntmps32
    go_wp2_with fail
    exact hR.out _ _ ⟨rfl, rfl⟩
  | some b =>
    rw [hf] at h3
    replace h3 : (Instr.lookup 41 (.map (some mb)) (.int .i64 x) false).run Tryz.prog w = .ok (.pointer (some ⟨b, 0, none⟩)) w := h3
    rw [hf] at hR
    clear hf
    go_enter Tryz.func32, Tryz.ntmps32
    go_wp2_with fail
    exact hR.out _ _ ⟨rfl, rfl⟩
theorem Ints.row {w : World} {base g n cap : Nat} {l : List Int} (h : Ints w base (.slice (some ⟨g, 0, none⟩) n cap) l) : n = l.length ∧ ∃ cs, Row w g 3 cs ∧ cs.length = cap ∧ cs.take l.length = l.map (.int .i64) ∧ l.length ≤ cap ∧ cap ≤ maxLen := by
  rcases h.2 with ⟨h1, _⟩ | ⟨g', cap', cur, hv, hg, hh, hc, hm, hs, ht⟩
  · simp at h1
  · simp only [Value.slice.injEq, Option.some.injEq, Addr.mk.injEq] at hv
    obtain ⟨⟨rfl, _⟩, hn, rfl⟩ := hv
    exact ⟨hn, cur.toList, by unfold Row; rw [hh], by simp [hs], by rw [← ht, Nat.mul_one], hc, hm⟩
theorem Ints.ofRow {w : World} {base g cap : Nat} {l : List Int} {cs : List Value} (hb : base ≤ g) (hr : Row w g 3 cs) (hl : cs.length = cap) (ht : cs.take l.length = l.map (.int .i64)) (hc : l.length ≤ cap) (hm : cap ≤ maxLen) : Ints w base (.slice (some ⟨g, 0, none⟩) l.length cap) l := by
  refine ⟨by simp, .inr ⟨g, cap, cs.toArray, rfl, hb, hr, hc, hm, by simp [hl], by simp; exact ht⟩⟩
theorem take_map_iff {cs : List Value} {l : List Int} (hl : l.length ≤ cs.length) (h : ∀ m, m < l.length → cs[m]? = some (.int .i64 (gI l m))) : cs.take l.length = l.map (.int .i64) := by
  apply List.ext_getElem?
  intro i
  rw [List.getElem?_take]
  by_cases hi : i < l.length
  · rw [if_pos hi, h i hi]
    simp [gI, hi]
  · rw [if_neg hi]
    simp [hi]
theorem take_at {cs : List Value} {l : List Int} (ht : cs.take l.length = l.map (.int .i64)) {m : Nat} (hm : m < l.length) : cs[m]? = some (.int .i64 (gI l m)) := by
  have : (cs.take l.length)[m]? = cs[m]? := by rw [List.getElem?_take, if_pos hm]
  rw [← this, ht]
  simp [gI, hm]
theorem Row.setCells' {w : World} {b T : Nat} {cs : List Value} (h : Row w b T cs) : ∀ (vs : List Value) (o : Nat), ∃ cs', Row (w.setCells b o vs) b T cs' ∧ cs'.length = cs.length ∧ ∀ m, m < o → cs'[m]? = cs[m]? := by
  intro vs
  induction vs generalizing w cs with
  | nil => intro o; exact ⟨cs, h, rfl, fun _ _ => rfl⟩
  | cons v r ih =>
    intro o
    obtain ⟨cs', h1, h2, h3⟩ := ih (h.set o v) (o + 1)
    refine ⟨cs', h1, by rw [h2, List.length_set], fun m hm => ?_⟩
    rw [h3 m (by omega), List.getElem?_set, if_neg (by omega)]
theorem idxFunc2_any (w : World) (cb p mb n g cap : Nat) (f : Int → Option Nat) (h : Sees w cb p mb n f) (l : List Int) (hw : ∀ x ∈ l, wfI x) (hl : l.length ≤ 1000000) (hc : ∀ i, i < l.length → w.cell? ⟨g, i, none⟩ = some (.int .i64 (gI l i))) :
    Calls Tryz.prog 27 #[.slice (some ⟨g, 0, none⟩) l.length cap, .func (.func 32) #[] #[.pointer (some ⟨cb, 0, none⟩)]] w fun e w' => w = w' ∧
      ((e = .returned (.int .i64 (-1)) ∧ ∀ i, i < l.length → (f (gI l i)).isNone = false) ∨ ∃ k : Nat, k < l.length ∧ e = .returned (.int .i64 k) ∧ (f (gI l k)).isNone = true ∧ ∀ i, i < k → (f (gI l i)).isNone = false) := by
  refine calls_abs fun R hR => ?_
  have HC := Lib.hid hc
  have HW : Hid (∀ i, i < l.length → wfI (gI l i)) := fun i hi => hw _ (by unfold gI; rw [List.getElem?_eq_getElem hi]; exact List.getElem_mem hi)
  have hd := fun x hx => del2_any w cb p mb n f h x hx
  have HD := Lib.hid hd
  obtain ⟨len, hlen⟩ : ∃ n, n = l.length := ⟨_, rfl⟩
  rw [← hlen] at HC HW hR hl ⊢
  clear hc hw hd hlen
  go_enter Tryz.func27, Tryz.ntmps27
  go_wp2_with fail
  go_loop [5, 8] (fun _ i => ∃ k : Nat, k ≤ len ∧ i = .int .i64 k ∧ Hid (∀ j, j < k → (f (gI l j)).isNone = false)) (fun _ i => len - (intOf i).toNat)
  case atStart => exact ⟨0, by omega, rfl, fun j hj => by omega⟩
  case round =>
    obtain ⟨k, hk, rfl, hf⟩ := hrel
    by_cases hlt : k < len
    · have hcell := HC.out k hlt
      have hdk := HD.out (gI l k) (HW.out k hlt)
      cases hq : (f (gI l k)).isNone
      · rw [hq] at hdk
        have HQ := Lib.hid hq
        clear hq
        generalize gI l k = x at hcell hdk
        go_wp2_with fail
        refine hdk.mono ?_
        rintro e _ ⟨rfl, rfl⟩
        go_wp2_with fail
        go_round
        case rel => exact ⟨k + 1, by omega, by go_num, fun j hj => by
          by_cases e : j = k
          · rw [e]; exact HQ.out
          · exact hf.out j (by omega)⟩
        case measure => simp [intOf]; omega
      · rw [hq] at hdk
        have HQ := Lib.hid hq
        clear hq
        generalize gI l k = x at hcell hdk
        go_wp2_with fail
        refine hdk.mono ?_
        rintro e _ ⟨rfl, rfl⟩
        go_wp2_with fail
        exact hR.out _ _ ⟨rfl, .inr ⟨k, hlt, rfl, HQ.out, hf.out⟩⟩
    · obtain rfl : k = len := by omega
      go_wp2_with fail
      exact hR.out _ _ ⟨rfl, .inl ⟨rfl, hf.out⟩⟩
theorem idxFunc2_nil (w : World) (c : Value) : Calls Tryz.prog 27 #[.slice none 0 0, c] w (Exact w (.int .i64 (-1))) := by
  refine calls_abs fun R hR => ?_
  go_enter Tryz.func27, Tryz.ntmps27
  go_wp2_with fail
  go_loop [5, 8] (fun _ i => i = .int .i64 0) (fun _ i => 0)
  case atStart => rfl
  case round =>
    obtain rfl := hrel
    go_wp2_with fail
    exact hR.out _ _ ⟨rfl, rfl⟩
def keepF (f : Int → Option Nat) (x : Int) : Bool := (f x).isSome
theorem keepF_no {f : Int → Option Nat} {x : Int} (h : (f x).isNone = true) : keepF f x = false := by unfold keepF; cases hf : f x; rfl; rw [hf] at h; cases h
theorem keepF_yes {f : Int → Option Nat} {x : Int} (h : (f x).isNone = false) : keepF f x = true := by unfold keepF; cases hf : f x; rw [hf] at h; cases h; rfl
theorem take_filter_succ {l : List Int} {q : Int → Bool} {j : Nat} (hj : j < l.length) : (l.take (j + 1)).filter q = (l.take j).filter q ++ if q (gI l j) then [gI l j] else [] := by
  rw [List.take_succ_eq_append_getElem hj, List.filter_append]
  have : gI l j = l[j] := by unfold gI; rw [List.getElem?_eq_getElem hj]; rfl
  rw [this]
  congr 1
  by_cases h : q l[j] = true <;> simp [h]
theorem take_filter_all {l : List Int} {q : Int → Bool} {k : Nat} (h : ∀ i, i < k → q (gI l i) = true) (hk : k ≤ l.length) : (l.take k).filter q = l.take k := by
  rw [List.filter_eq_self]
  intro x hx
  obtain ⟨i, hi, rfl⟩ := List.getElem_of_mem hx
  rw [List.length_take] at hi
  have := h i (by omega)
  rw [List.getElem_take]
  unfold gI at this
  rw [List.getElem?_eq_getElem (by omega)] at this
  exact this
theorem zeroInt (w : World) : (zeroValue 3).run Tryz.prog w = .ok (.int .i64 0) w := by kernel_rfl
theorem sliceDelete2_any (w : World) (cb p mb n base : Nat) (f : Int → Option Nat) (h : Sees w cb p mb n f) (v : Value) (l : List Int) (hI : Ints w base v l) (hw : ∀ x ∈ l, wfI x) (hl : l.length ≤ 1000000)
    (hne : ∀ g, v.ownBlock = some g → g ≠ cb ∧ g ≠ p ∧ g ≠ mb) :
    Calls Tryz.prog 31 #[v, .func (.func 32) #[] #[.pointer (some ⟨cb, 0, none⟩)]] w fun e w' =>
      ∃ v', e = .returned v' ∧ Ints w' base v' (l.filter (keepF f)) ∧ v'.ownBlock = v.ownBlock ∧ Only v.ownBlock.toList w w' := by
  refine calls_abs fun R hR => ?_
  have HI := Lib.hid hI
  rcases hI.form with ⟨rfl, rfl⟩ | ⟨g, cap, rfl, hbg, hgl, hlc, hc⟩
  · go_enter Tryz.func31, Tryz.ntmps31
    go_wp2_with fail
    refine (idxFunc2_nil _ _).mono ?_
    rintro e _ ⟨rfl, rfl⟩
    go_wp2_with fail
    exact hR.out _ _ ⟨_, rfl, HI.out, rfl, Only.refl _ _⟩
  · obtain ⟨_, cs0, hrow, hcl, htk, hlc, hcm⟩ := hI.row
    have hix := idxFunc2_any w cb p mb n g cap f h l hw hl hc
    obtain ⟨hg1, hg2, hg3⟩ := hne g rfl
    have HD : Hid (∀ wr, Only [g] w wr → ∀ i, i < l.length → Calls Tryz.prog 32 #[.int .i64 (gI l i), .pointer (some ⟨cb, 0, none⟩)] wr (Exact wr (.bool (f (gI l i)).isNone))) := fun wr ho i hi =>
      del2_any wr cb p mb n f (h.only (S := (· = g)) (ho.toP (fun x hx => .inl (by simpa using hx))) (Ne.symm hg1) (Ne.symm hg2) (Ne.symm hg3)) _ (hw _ (by unfold gI; rw [List.getElem?_eq_getElem hi]; exact List.getElem_mem hi))
    have HROW := Lib.hid hrow
    have HCL := Lib.hid hcl
    have HTK := Lib.hid htk
    clear hI hc hw hne hrow htk h hgl hg1 hg2 hg3
    have hcm' : cap ≤ 9223372036854775807 := hcm
    obtain ⟨len, hlen⟩ : ∃ n, n = l.length := ⟨_, rfl⟩
    have HLEN := Lib.hid hlen
    rw [← hlen] at hix hl hlc HTK HD HI hR ⊢
    clear hlen hcl
    go_enter Tryz.func31, Tryz.ntmps31
    go_wp2_with fail
    refine hix.mono ?_
    clear hix
    rintro e _ ⟨rfl, ⟨rfl, hall⟩ | ⟨k, hk, rfl, hq, hall⟩⟩
    · have HA : Hid (l.filter (keepF f) = l) := by
        show _ = _
        have := take_filter_all (q := keepF f) (k := l.length) (fun i hi => keepF_yes (hall i (by have := HLEN.out; omega))) (Nat.le_refl _)
        rwa [List.take_length] at this
      clear hall
      go_wp2_with fail
      exact hR.out _ _ ⟨_, rfl, by rw [HA.out]; exact HI.out, rfl, Only.refl _ _⟩
    · have HK : Hid ((l.take k).filter (keepF f) = l.take k) := take_filter_all (fun i hi => keepF_yes (hall i hi)) (by have := HLEN.out; omega)
      have HKQ : Hid (keepF f (gI l k) = false) := keepF_no hq
      clear hall hq
      have hk1 : ((k : Int) == -1) = false := by rw [beq_eq_false_iff_ne]; omega
      go_wp2_with fail
      clear hk1
      go_loopw [5, 6, 7] (fun iv jv _ wr => ∃ (i j : Nat) (cs : List Value), iv = .int .i64 i ∧ jv = .int .i64 j ∧ j ≤ len ∧ i < j ∧ Hid (i = ((l.take j).filter (keepF f)).length) ∧ Row wr g 3 cs ∧ Hid (cs.length = cap) ∧
          Hid (∀ m, m < i → cs[m]? = some (.int .i64 (gI ((l.take j).filter (keepF f)) m))) ∧ Hid (∀ m, j ≤ m → m < len → cs[m]? = some (.int .i64 (gI l m))) ∧ Only [g] w wr) (fun _ jv _ _ => len - (intOf jv).toNat)
      case atStart =>
        have hs : (l.take (k + 1)).filter (keepF f) = l.take k := by rw [take_filter_succ (by have := HLEN.out; omega), HKQ.out, HK.out]; simp
        have hln := HLEN.out
        refine ⟨k, k + 1, cs0, rfl, by go_num, by omega, by omega, ?_, HROW.out, HCL.out, fun m hm => ?_, fun m hm hm2 => take_at (l := l) (by rw [← hln]; exact HTK.out) (by omega), Only.refl _ _⟩
        · show k = _; rw [hs, List.length_take]; omega
        · rw [hs, take_at (l := l) (by rw [← hln]; exact HTK.out) (by omega)]
          unfold gI
          rw [List.getElem?_take, if_pos hm]
      case round =>
        obtain ⟨i, j, cs, rfl, rfl, hj, hij, hi, hr, hcsl, hlo, hhi, ho⟩ := hrel
        have HR' := Lib.hid hr
        have HO := Lib.hid ho
        by_cases hlt : j < len
        · have hcell := hr.cell j (hhi.out j (Nat.le_refl _) hlt)
          have hil : i < cs.length := by rw [hcsl.out]; omega
          have hcelli : ∃ x, wr.cell? ⟨g, i, none⟩ = some x := ⟨_, hr.cell i (List.getElem?_eq_getElem hil)⟩
          obtain ⟨x0, hx0⟩ := hcelli
          have hfr := hr.free i
          have hdk := HD.out wr ho j hlt
          clear hr ho
          cases hq : (f (gI l j)).isNone
          · rw [hq] at hdk
            have HQ : Hid (keepF f (gI l j) = true) := keepF_yes hq
            clear hq
            obtain ⟨x, hx⟩ : ∃ x, x = gI l j := ⟨_, rfl⟩
            rw [← hx] at hcell hdk HQ
            have HX := Lib.hid hx
            clear hx
            go_wp2_with fail
            refine hdk.mono ?_
            rintro e _ ⟨rfl, rfl⟩
            go_wp2_with fail
            have hs : Hid ((l.take (j + 1)).filter (keepF f) = (l.take j).filter (keepF f) ++ [x]) := by
              show _ = _
              rw [take_filter_succ (by have := HLEN.out; omega), ← HX.out, HQ.out]; simp
            refine ⟨⟨i + 1, j + 1, _, by go_num, by go_num, by omega, by omega, ?_, HR'.out.set i _, ?_, ?_, ?_, HO.out.set (by simp) _⟩, by simp [intOf]; omega⟩
            · show i + 1 = _; rw [hs.out, List.length_append, ← hi.out]; rfl
            · show List.length _ = _; rw [List.length_set]; exact hcsl.out
            · intro m hm
              rw [hs.out, List.getElem?_set]
              have hin := hi.out
              by_cases e : i = m
              · subst e
                rw [if_pos rfl, if_pos hil]
                unfold gI
                rw [List.getElem?_append_right (by omega)]
                simp [← hin]
              · rw [if_neg e, hlo.out m (by omega)]
                unfold gI
                rw [List.getElem?_append_left (by omega)]
            · intro m hm hm2
              rw [List.getElem?_set, if_neg (by omega)]
              exact hhi.out m (by omega) hm2
          · rw [hq] at hdk
            have HQ : Hid (keepF f (gI l j) = false) := keepF_no hq
            clear hq
            obtain ⟨x, hx⟩ : ∃ x, x = gI l j := ⟨_, rfl⟩
            rw [← hx] at hcell hdk HQ
            have HX := Lib.hid hx
            clear hx
            go_wp2_with fail
            refine hdk.mono ?_
            rintro e _ ⟨rfl, rfl⟩
            go_wp2_with fail
            have hs : Hid ((l.take (j + 1)).filter (keepF f) = (l.take j).filter (keepF f)) := by
              show _ = _
              rw [take_filter_succ (by have := HLEN.out; omega), ← HX.out, HQ.out]; simp
            refine ⟨⟨i, j + 1, cs, rfl, by go_num, by omega, by omega, ?_, HR'.out, hcsl, ?_, fun m hm hm2 => hhi.out m (by omega) hm2, HO.out⟩, by simp [intOf]; omega⟩
            · show i = _; rw [hs.out]; exact hi.out
            · rw [hs.out]; exact hlo.out
        · obtain rfl : j = len := by omega
          clear hr ho
          have hji : 0 < j - i := by omega
          have hii : (0 : Int) ≤ i := by omega
          have HCC : Hid (∀ m, m < j - i → (wr.cell? ⟨g, i + m, none⟩).isSome = true) := fun m hm => by
            rw [HR'.out.cell (i + m) (List.getElem?_eq_getElem (show i + m < cs.length by rw [hcsl.out]; omega))]; rfl
          have HFF : Hid (∀ m, m < j - i → wr.frozen? ⟨g, i + m, none⟩ = false) := fun m hm => HR'.out.free _
          go_wp2_with (with_reducible refine wpList_clear rfl (.tmp 38) 22 3 rfl (.int .i64 0) Tryz.underlying22 zeroInt rfl rfl g i (j - i) (cap - i) rfl hji HCC.out HFF.out ?_)
          obtain ⟨cs', q1, q2, q3⟩ := HR'.out.setCells' (List.replicate (j - i) (.int .i64 0)) i
          have Q1 := Lib.hid q1
          have Q2 := Lib.hid q2
          have Q3 := Lib.hid q3
          have QO : Hid (Only [g] w (wr.setCells g i (List.replicate (j - i) (.int .i64 0)))) := HO.out.setCells (.inl (by simp)) _ _
          clear q1 q2 q3
          generalize wr.setCells g i (List.replicate (j - i) (.int .i64 0)) = w2 at *
          go_wp2_with fail
          have hall : (l.take j).filter (keepF f) = l.filter (keepF f) := by
            have := HLEN.out
            rw [List.take_of_length_le (by omega)]
          have hin := hi.out
          rw [hall] at hin
          have hlo' := hlo.out
          rw [hall] at hlo'
          refine hR.out _ _ ⟨_, rfl, ?_, rfl, by simpa [Value.ownBlock] using QO.out⟩
          rw [hin]
          exact Ints.ofRow hbg Q1.out (by rw [Q2.out]; exact hcsl.out) (take_map_iff (by rw [Q2.out, hcsl.out]; omega) (fun m hm => by rw [Q3.out m (by omega)]; exact hlo' m (by omega))) (by omega) hcm
end Go.Proofs.YtkacgbigeobncaaGreat
