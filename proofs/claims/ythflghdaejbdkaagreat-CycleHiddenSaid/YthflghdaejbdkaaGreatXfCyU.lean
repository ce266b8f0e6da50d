/- Lemmas of this claim. -/
import Derived.Test.YthflghdaejbdkaaGreatXfTbPF
import Derived.Test.YthflghdaejbdkaaGreatCloneLay
import Derived.Test.YthflghdaejbdkaaGreatXfCyT
import Derived.Test.YthflghdaejbdkaaGreatXfCyR
namespace Go.Proofs.YthflghdaejbdkaaGreat
open Go.RowKit Go.Maps Go.Shelf
set_option maxHeartbeats 12800000
set_option maxRecDepth 100000
set_option linter.unusedVariables false
theorem cloneB_any (w : World) (mb n : Nat) (f : Nat → Bool) (h : FndAt w mb n f) : Calls Tryz.prog 188 #[.map (some mb)] w fun e w' => e = .returned (.map (some w.heap.size)) ∧ FndAt w' w.heap.size n f ∧ Only [] w w' := by
  obtain ⟨D, hD, h1⟩ := h
  have c := AnyW.maps_Clone_owns Tryz.cloneB 3 (plainElem (H := Unit) Tryz.prog 4) mb n D w hD
  change Calls Tryz.prog 188 _ _ _ at c
  exact c.mono fun e w' ⟨he, ho, _, hb⟩ => ⟨he, ⟨D, ho, h1⟩, ⟨hb.os, hb.tape, hb.output, hb.size, fun k hk _ => hb.block k hk⟩⟩
theorem cloneB_opt (w : World) (mo : Option Nat) (P : Nat → (Nat → Bool) → Prop) (h : ∀ mb, mo = some mb → ∃ n f, FndAt w mb n f ∧ P n f) : Calls Tryz.prog 188 #[.map mo] w fun e w' => ∃ mo', e = .returned (.map mo') ∧ (mo' = none ↔ mo = none) ∧ (∀ mb, mo' = some mb → w.heap.size ≤ mb ∧ ∃ n f, FndAt w' mb n f ∧ P n f) ∧ Only [] w w' := by
  cases mo with
  | none =>
    have c := AnyW.maps_Clone_nil Tryz.cloneB w
    change Calls Tryz.prog 188 _ _ _ at c
    refine c.mono ?_
    rintro e _ ⟨rfl, rfl⟩
    exact ⟨none, rfl, by simp, fun mb e => by (cases e), Only.refl _ _⟩
  | some mb =>
    obtain ⟨n, f, h, hp⟩ := h mb rfl
    refine (cloneB_any w mb n f h).mono ?_
    rintro e w1 ⟨rfl, hf, ho⟩
    refine ⟨_, rfl, by simp, fun mb2 e => ?_, ho⟩
    cases e
    exact ⟨Nat.le_refl _, n, f, hf, hp⟩
theorem clone_ents (w : World) (v : Value) (l : List En) (h : Ents w 123 0 v l) (hl : l.length ≤ 20) :
    Calls Tryz.prog 187 #[v] w fun e w' => ∃ v', e = .returned v' ∧ Ents w' 123 w.heap.size v' l ∧ Only [] w w' := by
  refine calls_abs fun R hR => ?_
  by_cases h0 : l = []
  · subst h0
    rcases h.2 with ⟨rfl, _⟩ | ⟨g, cap, cur, rfl, _, hh, _, _, _, _⟩
    · have hn := fun (wx : World) => Lib.run_eql_slice_nil (P := Tryz.prog) wx 117 123 none 0 0 0 0 Tryz.underlying117
      clear h
      go_enter Tryz.func187, Tryz.ntmps187
      go_wp2_with fail
      exact hR.out _ _ ⟨_, rfl, Ents.nil _ _ _, Only.refl _ _⟩
    · have hq := fun (wx : World) => Lib.run_eql_slice_nil (P := Tryz.prog) wx 117 123 (some ⟨g, 0, none⟩) 0 cap 0 0 Tryz.underlying117
      obtain ⟨i0, hi, hz0, hz1, hz2⟩ := info_parts infoEn
      have HZ0 := Lib.hid hz0
      have HZ1 := Lib.hid hz1
      have HZ2 := Lib.hid hz2
      have HI := Lib.hid hi
      clear hz0 hz1 hz2 hi h hh
      go_enter Tryz.func187, Tryz.ntmps187
      go_wp2_with (at_builtin; refine wpList_append_own2 rfl _ _ 117 rfl w.heap.size 123 i0 _ 3 24 Tryz.underlying117 HI.out HZ0.out HZ1.out HZ2.out rfl (by decide) _ 0 [] rfl (World.ownsRow_made w #[] 0 (Nat.le_refl _) (by simp [maxLen]) rfl) ⟨g, 0, none⟩ 0 cap [] rfl ?_ ?_ ?_ ?_ ?_ ?_ ?_)
      · rfl
      · intro j u hu
        simp at hu
      · intro u hu
        simp at hu
      · simp [maxLen]
      · omega
      · simp
      · intro v w1 hv ho hn1 hblk
        have HO : Hid (Only [] w w1) := ((Only.refl [] w).alloc _).grown ho (fun k hk => by
            right
            simp [Value.ownBlock] at hk
            omega)
        have HV : Hid (Ents w1 123 w.heap.size v []) := hv
        clear ho hv hn1 hblk
        go_wp2_with fail
        exact hR.out _ _ ⟨_, rfl, HV.out, HO.out⟩
  · obtain ⟨g, c, rfl, _, hg, hlc⟩ := h.form h0
    have HC : Hid (∀ j u, (enCells l)[j]? = some u → w.cell? ⟨g, j, none⟩ = some u) := fun j u hu => by
      have hj := (List.getElem?_eq_some_iff.1 hu).1
      rw [World.ownsRow.cellAt h _ (by rw [enCells_len] at hj; exact hj)]; exact hu
    have HE : Hid (∀ u ∈ enCells l, u.oneCell' = true) := fun u hu => by
      unfold enCells at hu
      rw [List.mem_flatMap] at hu
      obtain ⟨e, _, hu⟩ := hu
      simp only [enC, List.mem_cons, List.not_mem_nil, or_false] at hu
      rcases hu with rfl | rfl | rfl <;> rfl
    obtain ⟨n, hn⟩ : ∃ n, n = l.length := ⟨_, rfl⟩
    rw [← hn] at hl hlc ⊢
    have hq := fun (wx : World) => Lib.run_eql_slice_nil (P := Tryz.prog) wx 117 123 (some ⟨g, 0, none⟩) n c 0 0 Tryz.underlying117
    have HN := Lib.hid hn
    obtain ⟨i0, hi, hz0, hz1, hz2⟩ := info_parts infoEn
    have HZ0 := Lib.hid hz0
    have HZ1 := Lib.hid hz1
    have HZ2 := Lib.hid hz2
    have HI := Lib.hid hi
    clear hz0 hz1 hz2 hi h hn h0 hg
    go_enter Tryz.func187, Tryz.ntmps187
    go_wp2_with (at_builtin; refine wpList_append_own2 rfl _ _ 117 rfl w.heap.size 123 i0 _ 3 24 Tryz.underlying117 HI.out HZ0.out HZ1.out HZ2.out rfl (by decide) _ 0 [] rfl (World.ownsRow_made w #[] 0 (Nat.le_refl _) (by simp [maxLen]) rfl) ⟨g, 0, none⟩ n c (enCells l) rfl ?_ ?_ ?_ ?_ ?_ ?_ ?_)
    · rw [enCells_len, HN.out]
    · intro j u hu
      rw [addr_add, Nat.zero_add]
      exact ((Only.refl [] w).alloc _).cell (HC.out j u hu) (by simp)
    · exact HE.out
    · simp [maxLen]; omega
    · omega
    · simp
    · intro v w1 hv ho hn1 hblk
      have HO : Hid (Only [] w w1) := ((Only.refl [] w).alloc _).grown ho (fun k hk => by
          right
          simp [Value.ownBlock] at hk
          omega)
      have HV : Hid (Ents w1 123 w.heap.size v l) := by
        show World.ownsRow _ _ _ _ _ _ _
        rw [← HN.out]
        have h := hv
        try rw [Nat.zero_add] at h
        try rw [List.nil_append] at h
        exact h
      clear ho hv hn1 hblk
      go_wp2_with fail
      exact hR.out _ _ ⟨_, rfl, HV.out, HO.out⟩
theorem tcopy_rep (w : World) {b kk : Nat} {t : Tb} {ev qv : Value} {mo : Option Nat} (ht : TbAt w b ev qv mo t kk) (hl : t.ents.length ≤ 20) (hq : t.q.length ≤ 1000000) : Calls Tryz.prog 109 #[.pointer (some ⟨b, 0, none⟩)] w (fun e w' => ∃ b2, e = .returned (.pointer (some ⟨b2, 0, none⟩)) ∧ Born w w' (TbA b2 t kk)) := by
  refine calls_abs fun R hR => ?_
  have HT := Lib.hid ht
  obtain ⟨U, hr⟩ := ht.row
  have hblt := hr.lt
  have c0 := hr.cell 0 rfl
  have c1 := hr.cell 1 rfl
  have c2 := hr.cell 2 rfl
  have c3 := hr.cell 3 rfl
  have c4 := hr.cell 4 rfl
  have c5 := hr.cell 5 rfl
  have hn := tnone_rep w c0
  obtain ⟨ea, ec, hev⟩ := ht.ents.len
  obtain ⟨qa, qc, hqv⟩ := ht.q.len
  have HEV := Lib.hid hev
  have HQV := Lib.hid hqv
  have HEN : Hid (∀ wx, Only [] w wx → Calls Tryz.prog 187 #[ev] wx (fun e w' => ∃ v', e = .returned v' ∧ Ents w' 123 wx.heap.size v' t.ents ∧ Only [] wx w')) := fun wx ho => clone_ents wx ev t.ents (ht.ents.only ho (by simp)) hl
  have HIN : Hid (∀ wx, Only [] w wx → Calls Tryz.prog 80 #[qv] wx (fun e w' => ∃ v', e = .returned v' ∧ Ints w' wx.heap.size v' t.q ∧ Only [] wx w')) := fun wx ho => clone_ownI wx qv t.q (ht.q.only ho (by simp)) hq
  have HMP : Hid (∀ wx, Only [] w wx → Calls Tryz.prog 188 #[.map mo] wx (fun e w' => ∃ mo', e = .returned (.map mo') ∧ (mo' = none ↔ mo = none) ∧ (∀ mb, mo' = some mb → wx.heap.size ≤ mb ∧ ∃ n f, FndAt w' mb n f ∧ n ≤ 20 ∧ (t.ph = 2 → kk ≤ n ∧ ∀ i, i < kk → f i = t.fd i)) ∧ Only [] wx w')) := fun wx ho => cloneB_opt wx mo _ (fun mb e => by
    obtain ⟨n, f, h1, h2⟩ := ht.fnd mb e
    exact ⟨n, f, h1.only (ho.toP0 (S := fun _ => False)) (fun x => x), h2⟩)
  have HTW := Lib.hid ht.two
  rw [hev] at c1 HEN
  rw [hqv] at c2 HIN
  generalize t.ents.length = en at *
  generalize t.q.length = qn at *
  generalize HPH : t.ph = ph at *
  generalize HNX : t.nx = nx at *
  clear ht hr hl hq hev hqv
  go_enter Tryz.func109, Tryz.ntmps109
  go_wp2_with fail
  refine hn.mono ?_
  rintro e _ ⟨rfl, rfl⟩
  clear hn
  go_upto_region 4 with fail
  have HR6 : Hid (Row (w.alloc (.cells #[.bool true, .slice ea en ec, .slice qa qn qc, .int .i64 (ph : Int), .int .i64 (nx : Int), .map mo] 119)) w.heap.size 119 [.bool true, .slice ea en ec, .slice qa qn qc, .int .i64 (ph : Int), .int .i64 (nx : Int), .map mo]) := Row.new w _ [_, _, _, _, _, _]
  have QO6 : Hid (Only [] w (w.alloc (.cells #[.bool true, .slice ea en ec, .slice qa qn qc, .int .i64 (ph : Int), .int .i64 (nx : Int), .map mo] 119))) := (Only.refl [] w).alloc _
  have hby : w.heap.size ≠ b := by omega
  have e1 : (w.alloc (.cells #[.bool true, .slice ea en ec, .slice qa qn qc, .int .i64 (ph : Int), .int .i64 (nx : Int), .map mo] 119)).drew.cell? ⟨b, 1, none⟩ = _ := QO6.out.cellN c1
  have e2 : (w.alloc (.cells #[.bool true, .slice ea en ec, .slice qa qn qc, .int .i64 (ph : Int), .int .i64 (nx : Int), .map mo] 119)).drew.cell? ⟨b, 2, none⟩ = _ := QO6.out.cellN c2
  have e5 : (w.alloc (.cells #[.bool true, .slice ea en ec, .slice qa qn qc, .int .i64 (ph : Int), .int .i64 (nx : Int), .map mo] 119)).drew.cell? ⟨b, 5, none⟩ = _ := QO6.out.cellN c5
  have hs6 : (w.alloc (.cells #[.bool true, .slice ea en ec, .slice qa qn qc, .int .i64 (ph : Int), .int .i64 (nx : Int), .map mo] 119)).heap.size = w.heap.size + 1 := by simp
  generalize (w.alloc (.cells #[.bool true, .slice ea en ec, .slice qa qn qc, .int .i64 (ph : Int), .int .i64 (nx : Int), .map mo] 119)) = w6 at *
  obtain ⟨y, hy⟩ : ∃ z, z = w.heap.size := ⟨_, rfl⟩
  rw [← hy] at HR6 hby hs6 hblt ⊢
  have HY := Lib.hid hy
  have HS6 := Lib.hid hs6
  have HBY := Lib.hid hby
  have HYC : Hid (∀ wx, Only [] w6 wx → wx.cell? ⟨y, 1, none⟩ = some (.slice ea en ec) ∧ wx.cell? ⟨y, 2, none⟩ = some (.slice qa qn qc) ∧ wx.cell? ⟨y, 5, none⟩ = some (.map mo) ∧ wx.frozen? ⟨y, 1, none⟩ = false ∧ wx.frozen? ⟨y, 2, none⟩ = false ∧ wx.frozen? ⟨y, 5, none⟩ = false) := fun wx hox => by
    have := hox.row HR6.out (by simp)
    exact ⟨this.cell 1 rfl, this.cell 2 rfl, this.cell 5 rfl, this.free 1, this.free 2, this.free 5⟩
  have QD6 : Hid (Only [] w6 w6.drew) := (Only.refl [] w6).drew
  clear c0 c1 c2 c3 c4 c5 hy hs6 hblt
  have hby' : b ≠ y := Ne.symm hby
  go_region_held3 (fun w' => w'.cell? ⟨b, 1, none⟩ = some (.slice ea en ec) ∧ w'.cell? ⟨b, 2, none⟩ = some (.slice qa qn qc) ∧ w'.cell? ⟨b, 5, none⟩ = some (.map mo))
    (first
      | (exact ⟨e1, e2, e5⟩)
      | (exact ⟨ho7.cellN e1, ho7.cellN e2, ho7.cellN e5⟩)
      | (exact ⟨ho8.cellN (ho7.cellN e1), ho8.cellN (ho7.cellN e2), ho8.cellN (ho7.cellN e5)⟩)
      | (exact ⟨k1, k2, k5⟩)
      | (exact ⟨(World.cell?_setCell_far _ _ _ _ hby).trans k1, (World.cell?_setCell_far _ _ _ _ hby).trans k2, (World.cell?_setCell_far _ _ _ _ hby).trans k5⟩)
      | (exact ⟨(World.cell?_setCell_far _ _ _ _ hby).trans ((World.cell?_setCell_far _ _ _ _ hby).trans k1), (World.cell?_setCell_far _ _ _ _ hby).trans ((World.cell?_setCell_far _ _ _ _ hby).trans k2), (World.cell?_setCell_far _ _ _ _ hby).trans ((World.cell?_setCell_far _ _ _ _ hby).trans k5)⟩)
      | (exact ⟨(World.cell?_setCell_far _ _ _ _ hby).trans ((World.cell?_setCell_far _ _ _ _ hby).trans ((World.cell?_setCell_far _ _ _ _ hby).trans k1)), (World.cell?_setCell_far _ _ _ _ hby).trans ((World.cell?_setCell_far _ _ _ _ hby).trans ((World.cell?_setCell_far _ _ _ _ hby).trans k2)), (World.cell?_setCell_far _ _ _ _ hby).trans ((World.cell?_setCell_far _ _ _ _ hby).trans ((World.cell?_setCell_far _ _ _ _ hby).trans k5))⟩))
    (first
      | (go_at_call 187; refine (HEN.out _ (QO6.out.trans QD6.out (by simp))).mono ?_; rintro e w7 ⟨v7, rfl, hi7, ho7⟩; obtain ⟨va7, vc7, hv7⟩ := hi7.len; obtain ⟨n7, hn7⟩ : ∃ z, z = t.ents.length := ⟨_, rfl⟩; rw [← hn7] at hv7; subst hv7; have HI7 := Lib.hid hi7; clear hi7 hn7)
      | (go_at_call 80; refine (HIN.out _ ((QO6.out.trans QD6.out (by simp)).trans ho7 (by simp))).mono ?_; rintro e w8 ⟨v8, rfl, hi8, ho8⟩; obtain ⟨va8, vc8, hv8⟩ := hi8.len; obtain ⟨n8, hn8⟩ : ∃ z, z = t.q.length := ⟨_, rfl⟩; rw [← hn8] at hv8; subst hv8; have HI8 := Lib.hid hi8; clear hi8 hn8)
      | (go_at_call 188; refine (HMP.out _ (((QO6.out.trans QD6.out (by simp)).trans ho7 (by simp)).trans ho8 (by simp))).mono ?_; rintro e w9 ⟨mo9, rfl, hn9, hi9, ho9⟩; have HI9 := Lib.hid hi9; have HN9 := Lib.hid hn9; have k1 := ho9.cellN (ho8.cellN (ho7.cellN e1)); have k2 := ho9.cellN (ho8.cellN (ho7.cellN e2)); have k5 := ho9.cellN (ho8.cellN (ho7.cellN e5)); obtain ⟨y1, y2, y5, y6, y7, y8⟩ := HYC.out w9 (((QD6.out.trans ho7 (by simp)).trans ho8 (by simp)).trans ho9 (by simp)); clear hi9 hn9))
  have O69 : Only [] w6 w9 := ((QD6.out.trans ho7 (by simp)).trans ho8 (by simp)).trans ho9 (by simp)
  have hs6 := HS6.out
  have hyw := HY.out
  have hs7 : w6.heap.size ≤ w7.heap.size := ho7.size
  have hs8 := ho8.size
  have hs9 := ho9.size
  have own7 := HI7.out.own
  have own8 := HI8.out.own
  have row9 := O69.row HR6.out (by simp)
  have row10 : Row (((w9.setCell ⟨y, 1, none⟩ (.slice va7 n7 vc7)).setCell ⟨y, 2, none⟩ (.slice va8 n8 vc8)).setCell ⟨y, 5, none⟩ (.map mo9)) y 119 [.bool true, .slice va7 n7 vc7, .slice va8 n8 vc8, .int .i64 (ph : Int), .int .i64 (nx : Int), .map mo9] := ((row9.set 1 _).set 2 _).set 5 _
  have O910 : Only [y] w9 (((w9.setCell ⟨y, 1, none⟩ (.slice va7 n7 vc7)).setCell ⟨y, 2, none⟩ (.slice va8 n8 vc8)).setCell ⟨y, 5, none⟩ (.map mo9)) := (((Only.refl [y] w9).set (.inl (by simp)) _).set (.inl (by simp)) _).set (.inl (by simp)) _
  have hsd : w6.drew.heap.size = w6.heap.size := rfl
  have i7 := (((HI7.out.only ho8 (by simp)).only ho9 (by simp)).only O910 (fun g hg => by have := (own7 g hg).1; simp; omega)).low (b := 0) (Nat.zero_le _)
  have i8 := ((HI8.out.only ho9 (by simp)).only O910 (fun g hg => by have := (own8 g hg).1; simp; omega)).base (Nat.zero_le _)
  have O10 : Only [] w (((w9.setCell ⟨y, 1, none⟩ (.slice va7 n7 vc7)).setCell ⟨y, 2, none⟩ (.slice va8 n8 vc8)).setCell ⟨y, 5, none⟩ (.map mo9)) := (QO6.out.trans O69 (by simp)).trans O910 (fun x hx => .inr (by simp at hx; omega))
  have hmo : ∀ mb, mo9 = some mb → w8.heap.size ≤ mb ∧ mb < w9.heap.size := fun mb e => by
    obtain ⟨h1, n, f, h2, _⟩ := HI9.out mb e
    exact ⟨h1, h2.lt⟩
  have hT : TbAt (((w9.setCell ⟨y, 1, none⟩ (.slice va7 n7 vc7)).setCell ⟨y, 2, none⟩ (.slice va8 n8 vc8)).setCell ⟨y, 5, none⟩ (.map mo9)) y (.slice va7 n7 vc7) (.slice va8 n8 vc8) mo9 t kk := by
    refine ⟨⟨_, by rw [HPH, HNX]; exact row10⟩, i7, i8, fun mb e => ?_, fun h1 h2 h3 => HTW.out (by rw [← HPH]; exact h1) h2 (HN9.out.1 h3), fun g hg => ?_, fun g hg => ?_, fun e => ?_⟩
    · obtain ⟨h1, n, f, h2, h3⟩ := HI9.out mb e
      refine ⟨n, f, h2.only (O910.toP (S := fun x => x = y) (fun x hx => .inl (by simpa using hx))) (fun x => by omega), h3.1, fun h => h3.2 (by rw [← HPH]; exact h)⟩
    · have h1 := own7 g hg
      refine ⟨by omega, fun e => ?_, fun e => ?_⟩
      · have := hmo g e; omega
      · have := own8 g e; omega
    · have h1 := own8 g hg
      refine ⟨by omega, fun e => ?_⟩
      have := hmo g e; omega
    · have := hmo y e; omega
  have hB : Born w (((w9.setCell ⟨y, 1, none⟩ (.slice va7 n7 vc7)).setCell ⟨y, 2, none⟩ (.slice va8 n8 vc8)).setCell ⟨y, 5, none⟩ (.map mo9)) (TbA y t kk) := by
    refine ⟨O10, fun k => k = y ∨ (Value.slice va7 n7 vc7).ownBlock = some k ∨ (Value.slice va8 n8 vc8).ownBlock = some k ∨ mo9 = some k, ⟨_, _, _, hT, fun k => Iff.rfl⟩, fun k hk => ?_⟩
    rcases hk with hk | hk | hk | hk
    · omega
    · have := own7 k hk; omega
    · have := own8 k hk; omega
    · have := hmo k hk; omega
  have HE := Lib.hid hB
  clear O69 hs6 hyw hs7 hs8 hs9 own7 own8 row9 row10 O910 hsd i7 i8 O10 hmo hT hB
  go_wp2_with fail
  exact hR.out _ _ ⟨y, rfl, HE.out⟩
end Go.Proofs.YthflghdaejbdkaaGreat
namespace Go.Proofs.YthflghdaejbdkaaGreat
open Go.RowKit Go.Maps
set_option maxHeartbeats 6400000
set_option maxRecDepth 100000
set_option linter.unusedVariables false
section
variable {w0 w : World} {l : List Asn} {b : Nat} {c : Co} {x : CX} {i : Nat}
theorem mheap0_rep (w : World) {p hb : Nat} (h : w.cell? ⟨p, 0, none⟩ = some (.pointer (some ⟨hb, 0, none⟩))) : Calls Tryz.prog 74 #[.pointer (some ⟨p, 0, none⟩)] w (Exact w (.pointer (some ⟨hb, 0, none⟩))) := by
  refine calls_abs fun R hR => ?_
  have hn := mnone_rep w h
  go_enter Tryz.func74, Tryz.ntmps74
  go_wp2_with fail
  refine hn.mono ?_
  rintro e _ ⟨rfl, rfl⟩
  go_wp2_with fail
  exact hR.out _ _ ⟨rfl, rfl⟩
theorem Fam.pack5 {R A B C D : Asn} {L : List Asn} (h : Fam w0 w (R :: (L ++ [A] ++ [B] ++ [C] ++ [D]))) : Fam w0 w ([A, B, C, D, R] ++ L) := by
  have e0 : ∀ k, k < L.length → (R :: (L ++ [A] ++ [B] ++ [C] ++ [D]))[k + 1]? = L[k]? := fun k hk => by
    rw [List.getElem?_cons_succ, List.getElem?_append_left (by simp; omega), List.getElem?_append_left (by simp; omega), List.getElem?_append_left (by simp; omega), List.getElem?_append_left hk]
  have e1 : (R :: (L ++ [A] ++ [B] ++ [C] ++ [D]))[L.length + 1]? = some A := by
    rw [List.getElem?_cons_succ, List.getElem?_append_left (by simp), List.getElem?_append_left (by simp), List.getElem?_append_left (by simp)]
    simp
  have e2 : (R :: (L ++ [A] ++ [B] ++ [C] ++ [D]))[L.length + 2]? = some B := by
    rw [List.getElem?_cons_succ, List.getElem?_append_left (by simp), List.getElem?_append_left (by simp), List.getElem?_append_right (by simp)]
    simp
  have e3 : (R :: (L ++ [A] ++ [B] ++ [C] ++ [D]))[L.length + 3]? = some C := by
    rw [List.getElem?_cons_succ, List.getElem?_append_left (by simp), List.getElem?_append_right (by simp)]
    simp
  have e4 : (R :: (L ++ [A] ++ [B] ++ [C] ++ [D]))[L.length + 4]? = some D := by
    rw [List.getElem?_cons_succ, List.getElem?_append_right (by simp)]
    simp
  refine h.selC (fun k => if k < 4 then L.length + 1 + k else if k = 4 then 0 else k - 4) (fun k Z hk => ?_) (fun j k hj hk hne => ?_)
  · match k with
    | 0 => exact e1.trans hk
    | 1 => exact e2.trans hk
    | 2 => exact e3.trans hk
    | 3 => exact e4.trans hk
    | 4 => exact hk
    | k + 5 =>
      have hk2 : L[k]? = some Z := hk
      have hl := (List.getElem?_eq_some_iff.1 hk2).1
      simp only [show ¬ (k + 5 < 4) by omega, show ¬ (k + 5 = 4) by omega, if_false]
      rw [show k + 5 - 4 = k + 1 by omega, e0 k hl]
      exact hk2
  · have hlen : ([A, B, C, D, R] ++ L).length = 5 + L.length := by rw [List.length_append]; rfl
    rw [hlen] at hj hk
    split <;> split <;> (try split) <;> (try split) <;> omega
theorem ccopy_any (w : World) (hf : Fam w0 w (C5 b c x ++ l)) (hx : x.ok c) (h : c.Okc) : Calls Tryz.prog 39 #[.pointer (some ⟨b, 0, none⟩)] w (fun e w' => ∃ b2, e = .returned (.pointer (some ⟨b2, 0, none⟩)) ∧ ∃ x2 : CX, x2.ok c ∧ Fam w0 w' (C5 b2 c x2 ++ (C5 b c x ++ l))) := by
  refine calls_abs fun R hR => ?_
  obtain ⟨x0, x1, x2, x3, x4, x5, x6, x7, x8, x9, _⟩ := CRow.cells hf
  have hs := C5.sw hf
  obtain ⟨sa, sc, hv⟩ := hs.len
  have hsl := h.sw_len
  obtain ⟨n, hn⟩ : ∃ n, n = c.sw.length := ⟨_, rfl⟩
  rw [← hn] at hv hsl
  rw [hv] at x8
  have hrow : CRow b c x = [.int .i64 (c.pages : Int), .int .i64 c.rate, .pointer (some ⟨x.hb, 0, none⟩), .pointer (some ⟨x.tb, 0, none⟩), .pointer (some ⟨x.p, 0, none⟩), .int .i64 (c.ph : Int), .int .i64 c.cr, .bool x.ov, .slice sa n sc, .int .i64 (x.mv : Int)] := by unfold CRow; rw [hv]
  have HLL : Hid (c.m.list.length ≤ 192) := by
    by_cases hp : c.ph = 1 ∨ c.ph = 2
    · exact (h.mo hp).len
    · rw [h.nl (fun e => hp (.inl e)) (fun e => hp (.inr e))]; exact Nat.zero_le _
  have HB := Lib.hid h.tg.b
  have HX := Lib.hid hx
  have HV := Lib.hid hv
  have HN := Lib.hid hn
  have F1 : Hid (Fam w0 (w.alloc (.cells #[.int .i64 (c.pages : Int), .int .i64 c.rate, .pointer (some ⟨x.hb, 0, none⟩), .pointer (some ⟨x.tb, 0, none⟩), .pointer (some ⟨x.p, 0, none⟩), .int .i64 (c.ph : Int), .int .i64 c.cr, .bool x.ov, .slice sa n sc, .int .i64 (x.mv : Int)] 142)) (RowA w.heap.size 142 [.int .i64 (c.pages : Int), .int .i64 c.rate, .pointer (some ⟨x.hb, 0, none⟩), .pointer (some ⟨x.tb, 0, none⟩), .pointer (some ⟨x.p, 0, none⟩), .int .i64 (c.ph : Int), .int .i64 c.cr, .bool x.ov, .slice sa n sc, .int .i64 (x.mv : Int)] :: (C5 b c x ++ l))) := by
    have h1 := hf.addRow 142 [.int .i64 (c.pages : Int), .int .i64 c.rate, .pointer (some ⟨x.hb, 0, none⟩), .pointer (some ⟨x.tb, 0, none⟩), .pointer (some ⟨x.p, 0, none⟩), .int .i64 (c.ph : Int), .int .i64 c.cr, .bool x.ov, .slice sa n sc, .int .i64 (x.mv : Int)]
    refine h1.selC (fun k => if k = 0 then (C5 b c x ++ l).length else k - 1) (fun k Z hk => ?_) (fun j k hj hk hne => ?_)
    · match k with
      | 0 =>
        show ((C5 b c x ++ l) ++ [_])[(C5 b c x ++ l).length]? = some Z
        rw [lat_last]; exact hk
      | k + 1 =>
        have hk2 : (C5 b c x ++ l)[k]? = some Z := hk
        simp only [show ¬ (k + 1 = 0) by omega, if_false, Nat.add_sub_cancel]
        exact lat_left hk2
    · rw [List.length_cons] at hj hk
      split <;> split <;> omega
  have cn := cnone_rep w x2
  have x4' : (w.alloc (.cells #[.int .i64 (c.pages : Int), .int .i64 c.rate, .pointer (some ⟨x.hb, 0, none⟩), .pointer (some ⟨x.tb, 0, none⟩), .pointer (some ⟨x.p, 0, none⟩), .int .i64 (c.ph : Int), .int .i64 c.cr, .bool x.ov, .slice sa n sc, .int .i64 (x.mv : Int)] 142)).cell? ⟨b, 4, none⟩ = some (.pointer (some ⟨x.p, 0, none⟩)) := ((C5.row hf).alloc _).cell 4 rfl
  clear hf hx h hv hn hs hrow
  go_enter Tryz.func39, Tryz.ntmps39
  go_wp2_with fail
  refine cn.mono ?_
  rintro e _ ⟨rfl, rfl⟩
  clear cn
  go_upto_region 4 with fail
  obtain ⟨y, hy⟩ : ∃ y, y = w.heap.size := ⟨_, rfl⟩
  rw [← hy] at F1 ⊢
  generalize w.alloc (.cells #[.int .i64 (c.pages : Int), .int .i64 c.rate, .pointer (some ⟨x.hb, 0, none⟩), .pointer (some ⟨x.tb, 0, none⟩), .pointer (some ⟨x.p, 0, none⟩), .int .i64 (c.ph : Int), .int .i64 c.cr, .bool x.ov, .slice sa n sc, .int .i64 (x.mv : Int)] 142) = w1 at *
  clear x0 x1 x2 x3 x4 x5 x6 x7 x8 x9 hy
  have cm := mcopyL_rep w1 (l := RowA y 142 [.int .i64 (c.pages : Int), .int .i64 c.rate, .pointer (some ⟨x.hb, 0, none⟩), .pointer (some ⟨x.tb, 0, none⟩), .pointer (some ⟨x.p, 0, none⟩), .int .i64 (c.ph : Int), .int .i64 c.cr, .bool x.ov, .slice sa n sc, .int .i64 (x.mv : Int)] :: (C5 b c x ++ l)) (i := 1) (j := 2) (hb := x.hb) (p := x.p) (m := c.m) ⟨by simp [C5], by simp [C5], by decide⟩ F1.out HLL.out
  go_wp2_with fail
  refine cm.mono ?_
  rintro e w2 ⟨q2, p2, rfl, hf2⟩
  have F2 : Hid (Fam w0 w2 (RowA y 142 [.int .i64 (c.pages : Int), .int .i64 c.rate, .pointer (some ⟨x.hb, 0, none⟩), .pointer (some ⟨x.tb, 0, none⟩), .pointer (some ⟨x.p, 0, none⟩), .int .i64 (c.ph : Int), .int .i64 c.cr, .bool x.ov, .slice sa n sc, .int .i64 (x.mv : Int)] :: ((C5 b c x ++ l) ++ [PH q2 c.m.M] ++ [MkA p2 q2 c.m.col c.m.list]))) := hf2
  have r2 := F2.out.row 0 rfl
  have y4c := r2.cell 4 rfl
  have y4f := r2.free 4
  have F3 : Hid (Fam w0 (w2.setCell ⟨y, 4, none⟩ (.pointer (some ⟨p2, 0, none⟩))) (RowA y 142 [.int .i64 (c.pages : Int), .int .i64 c.rate, .pointer (some ⟨x.hb, 0, none⟩), .pointer (some ⟨x.tb, 0, none⟩), .pointer (some ⟨p2, 0, none⟩), .int .i64 (c.ph : Int), .int .i64 c.cr, .bool x.ov, .slice sa n sc, .int .i64 (x.mv : Int)] :: ((C5 b c x ++ l) ++ [PH q2 c.m.M] ++ [MkA p2 q2 c.m.col c.m.list]))) := F2.out.setRowC 0 rfl 4 _
  clear cm hf2 x4' r2 F1
  go_upto_region 5 with fail
  generalize w2.setCell ⟨y, 4, none⟩ (.pointer (some ⟨p2, 0, none⟩)) = w3 at *
  clear y4c y4f F2
  have r3 := F3.out.row 0 rfl
  have y4c := r3.cell 4 rfl
  have y2c := r3.cell 2 rfl
  have y2f := r3.free 2
  have hq0 : w3.cell? ⟨p2, 0, none⟩ = some (.pointer (some ⟨q2, 0, none⟩)) := by
    obtain ⟨S, ⟨mb, v, h1, _⟩, _⟩ := F3.out.get (((C5 b c x ++ l) ++ [PH q2 c.m.M]).length + 1) (A := MkA p2 q2 c.m.col c.m.list) (by rw [List.getElem?_cons_succ, lat_last])
    obtain ⟨T, h2⟩ := h1.row
    exact h2.cell 0 rfl
  have ch := mheap0_rep w3 hq0
  have F4 : Hid (Fam w0 (w3.setCell ⟨y, 2, none⟩ (.pointer (some ⟨q2, 0, none⟩))) (RowA y 142 [.int .i64 (c.pages : Int), .int .i64 c.rate, .pointer (some ⟨q2, 0, none⟩), .pointer (some ⟨x.tb, 0, none⟩), .pointer (some ⟨p2, 0, none⟩), .int .i64 (c.ph : Int), .int .i64 c.cr, .bool x.ov, .slice sa n sc, .int .i64 (x.mv : Int)] :: ((C5 b c x ++ l) ++ [PH q2 c.m.M] ++ [MkA p2 q2 c.m.col c.m.list]))) := F3.out.setRowC 0 rfl 2 _
  clear r3 hq0
  go_wp2_with fail
  refine ch.mono ?_
  rintro e _ ⟨rfl, rfl⟩
  clear ch
  go_upto_region 6 with fail
  generalize w3.setCell ⟨y, 2, none⟩ (.pointer (some ⟨q2, 0, none⟩)) = w4 at *
  clear y4c y2c y2f F3
  obtain ⟨S, ⟨ev, qv, mo, ht, _⟩, _⟩ := F4.out.get 3 rfl
  have ct := tcopy_rep w4 ht HB.out.le (by have := HB.out.q20; omega)
  have z3 := (F4.out.row 5 rfl).cell 3 rfl
  clear ht
  go_wp2_with fail
  refine ct.mono ?_
  rintro e w5 ⟨t2, rfl, hB⟩
  have F5 : Hid (Fam w0 w5 (RowA y 142 [.int .i64 (c.pages : Int), .int .i64 c.rate, .pointer (some ⟨q2, 0, none⟩), .pointer (some ⟨x.tb, 0, none⟩), .pointer (some ⟨p2, 0, none⟩), .int .i64 (c.ph : Int), .int .i64 c.cr, .bool x.ov, .slice sa n sc, .int .i64 (x.mv : Int)] :: ((C5 b c x ++ l) ++ [PH q2 c.m.M] ++ [MkA p2 q2 c.m.col c.m.list] ++ [TbA t2 c.t c.t.ents.length]))) := F4.out.add hB
  have r5 := F5.out.row 0 rfl
  have y3c := r5.cell 3 rfl
  have y3f := r5.free 3
  have F6 : Hid (Fam w0 (w5.setCell ⟨y, 3, none⟩ (.pointer (some ⟨t2, 0, none⟩))) (RowA y 142 [.int .i64 (c.pages : Int), .int .i64 c.rate, .pointer (some ⟨q2, 0, none⟩), .pointer (some ⟨t2, 0, none⟩), .pointer (some ⟨p2, 0, none⟩), .int .i64 (c.ph : Int), .int .i64 c.cr, .bool x.ov, .slice sa n sc, .int .i64 (x.mv : Int)] :: ((C5 b c x ++ l) ++ [PH q2 c.m.M] ++ [MkA p2 q2 c.m.col c.m.list] ++ [TbA t2 c.t c.t.ents.length]))) := F5.out.setRowC 0 rfl 3 _
  clear ct hB r5 z3 F4
  go_upto_region 7 with fail
  generalize w5.setCell ⟨y, 3, none⟩ (.pointer (some ⟨t2, 0, none⟩)) = w6 at *
  clear y3c y3f F5
  have z8 := (F6.out.row 5 rfl).cell 8 rfl
  replace z8 : w6.cell? ⟨b, 8, none⟩ = some (.slice sa n sc) := by rw [← HV.out]; exact z8
  have hi6 := F6.out.ints 4 rfl
  rw [HV.out] at hi6
  have cc := clone_ownI w6 _ c.sw hi6 (by rw [← HN.out]; omega)
  clear hi6
  go_wp2_with fail
  refine cc.mono ?_
  rintro e w7 ⟨v7, rfl, hi7, ho7⟩
  obtain ⟨va, vc, hv7⟩ := hi7.len
  rw [← HN.out] at hv7
  subst hv7
  have F7 : Hid (Fam w0 w7 (RowA y 142 [.int .i64 (c.pages : Int), .int .i64 c.rate, .pointer (some ⟨q2, 0, none⟩), .pointer (some ⟨t2, 0, none⟩), .pointer (some ⟨p2, 0, none⟩), .int .i64 (c.ph : Int), .int .i64 c.cr, .bool x.ov, .slice sa n sc, .int .i64 (x.mv : Int)] :: ((C5 b c x ++ l) ++ [PH q2 c.m.M] ++ [MkA p2 q2 c.m.col c.m.list] ++ [TbA t2 c.t c.t.ents.length] ++ [IntsA (.slice va n vc) c.sw]))) := F6.out.addInts ho7 hi7
  have r7 := F7.out.row 0 rfl
  have y8c := r7.cell 8 rfl
  have y8f := r7.free 8
  have F8 : Hid (Fam w0 (w7.setCell ⟨y, 8, none⟩ (.slice va n vc)) (C5 y c ⟨q2, p2, t2, .slice va n vc, x.ov, x.mv⟩ ++ (C5 b c x ++ l))) := by
    have f8 : Fam w0 (w7.setCell ⟨y, 8, none⟩ (.slice va n vc)) (RowA y 142 (CRow y c ⟨q2, p2, t2, .slice va n vc, x.ov, x.mv⟩) :: ((C5 b c x ++ l) ++ [PH q2 c.m.M] ++ [MkA p2 q2 c.m.col c.m.list] ++ [TbA t2 c.t c.t.ents.length] ++ [IntsA (.slice va n vc) c.sw])) := F7.out.setRowC 0 rfl 8 _
    exact f8.pack5
  clear cc hi7 ho7 r7 z8 F6
  go_wp2_with fail
  exact hR.out _ _ ⟨y, rfl, ⟨q2, p2, t2, .slice va n vc, x.ov, x.mv⟩, ⟨HX.out.ov, HX.out.mv, HX.out.mv2⟩, F8.out⟩
end
end Go.Proofs.YthflghdaejbdkaaGreat
