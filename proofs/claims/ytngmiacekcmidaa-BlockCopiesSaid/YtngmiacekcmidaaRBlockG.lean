/- Contracts of the reference's pools over the model Pl: Move. -/
import Derived.Test.YtngmiacekcmidaaRBlockF
namespace Go.Proofs.Ytngmiacekcmidaa
open Go.RowKit
set_option maxHeartbeats 6400000
set_option maxRecDepth 100000
set_option linter.unusedVariables false

theorem pairC_of {P : Pl} {c : Int} : P.pairC c = match P.frm c P.n, P.too c (P.frm c P.n) P.n with | some f, some t => some (f, t) | _, _ => none := rfl
theorem rpair_none {P : Pl} {c : Int} (h : P.pairC c = none) : (P.too c (P.frm c P.n) P.n).isSome = false := by
  rw [pairC_of] at h
  cases hf : P.frm c P.n with
  | none =>
    cases ht : P.too c none P.n with
    | none => rfl
    | some t =>
      exfalso
      have h1 := Pl.too_some ht
      rw [Pl.frm_none hf t h1.1] at h1
      exact absurd h1.2.2 (by simp)
  | some f =>
    rw [hf] at h
    cases ht : P.too c (some f) P.n with
    | none => rfl
    | some t => rw [ht] at h; cases h
theorem rpair_some {P : Pl} {c : Int} {i j : Nat} (h : P.pairC c = some (i, j)) : P.frm c P.n = some i ∧ P.too c (P.frm c P.n) P.n = some j := by
  rw [pairC_of] at h
  cases hf : P.frm c P.n with
  | none => rw [hf] at h; simp at h
  | some f =>
    rw [hf] at h
    cases ht : P.too c (some f) P.n with
    | none => rw [ht] at h; simp at h
    | some t => rw [ht] at h; simp at h; rw [h.1, h.2] at *; exact ⟨rfl, rfl⟩
/-- The class of the first pair. -/
theorem Pl.pair_class (P : Pl) : (P.pair = none ∧ P.pairC 0 = none ∧ P.pairC 1 = none ∧ P.pairC 2 = none) ∨ ∃ c i j, c ≤ 2 ∧ (∀ d : Nat, d < c → P.pairC d = none) ∧ P.pairC (c : Nat) = some (i, j) ∧ P.pair = some (i, j) := by
  cases h0 : P.pairC 0 with
  | some x =>
    obtain ⟨i, j⟩ := x
    exact .inr ⟨0, i, j, by omega, fun d hd => by omega, h0, by unfold Pl.pair; rw [h0]; rfl⟩
  | none =>
    cases h1 : P.pairC 1 with
    | some x =>
      obtain ⟨i, j⟩ := x
      exact .inr ⟨1, i, j, by omega, fun d hd => by obtain rfl : d = 0 := by omega
                                                    exact h0, h1, by unfold Pl.pair; rw [h0, h1]; rfl⟩
    | none =>
      cases h2 : P.pairC 2 with
      | some x =>
        obtain ⟨i, j⟩ := x
        refine .inr ⟨2, i, j, by omega, fun d hd => ?_, h2, by unfold Pl.pair; rw [h0, h1, h2]; rfl⟩
        have h01 : d = 0 ∨ d = 1 := by omega
        rcases h01 with rfl | rfl
        · exact h0
        · exact h1
      | none => exact .inl ⟨by unfold Pl.pair; rw [h0, h1, h2]; rfl, rfl, rfl, rfl⟩

theorem rmove_none (w : World) (q k c l : Nat) (P : Pl) (h : RRep w q k c l P) (hok : P.ok) (hp : P.pair = none) :
    Calls Try.prog 41 #[.pointer (some ⟨q, 0, none⟩)] w (Exact w (.tuple #[.int .i64 0, .int .i64 0, .int .i64 3])) := by
  refine calls_abs fun R hR => ?_
  have hn : Hid (∀ d : Nat, d ≤ 2 → P.pairC d = none) := fun d hd => Pl.pair_none hp (by unfold IsC; omega)
  have hpr : Hid (∀ (d : Nat), d ≤ 2 → Calls Try.prog 68 #[.pointer (some ⟨q, 0, none⟩), .int .i64 (d : Int)] w (Exact w (rpairV (P.frm d P.n) (P.too d (P.frm d P.n) P.n)))) := fun d hd => rpair_of w q k c l P h hok d (by unfold IsC; omega)
  clear hp
  go_enter Try.func41, Try.ntmps41
  go_wp2_with fail
  go_loop [5] (fun v => ∃ d : Nat, d ≤ 3 ∧ v = .int .i64 d) (fun v => 3 - (intOf v).toNat)
  case atStart => exact ⟨0, by omega, rfl⟩
  case round =>
    obtain ⟨d, hd, rfl⟩ := hrel
    by_cases hlt : d ≤ 2
    · have hc := hpr.out d hlt
      unfold rpairV at hc
      rw [rpair_none (hn.out d hlt)] at hc
      generalize oInt (P.frm d P.n) = v1 at hc
      generalize oInt (P.too d (P.frm d P.n) P.n) = v2 at hc
      go_wp2_with fail
      refine hc.mono ?_
      rintro e _ ⟨rfl, rfl⟩
      go_wp2_with fail
      go_round
      case rel => exact ⟨d + 1, by omega, by go_num⟩
      case measure => simp [intOf]; omega
    · obtain rfl : d = 3 := by omega
      go_wp2_with fail
      go_ret3
      exact hR.out _ _ ⟨rfl, rfl⟩

theorem live_before {p : Pg} (hC : IsC p.cls) {x : Nat} (hx : x < p.top p.cls * bsz p.cls) (h16 : x < 16) : p.live x = false := by
  cases hl : p.live x with
  | false => rfl
  | true =>
    obtain ⟨h1, h2⟩ := (Pg.live_iff hC x).1 hl
    have h3 := (fst_spec p.used (bpt p.cls)).1 (x / bsz p.cls) (by
      show x / bsz p.cls < p.top p.cls
      have hf := hC.facts
      rcases hf with ⟨e, _⟩ | ⟨e, _⟩ | ⟨e, _⟩ <;> (rw [e] at hx ⊢; omega))
    rw [h2] at h3
    cases h3
theorem take_more {p : Pg} {cl : Int} {lg ml z y : Nat} (hz : bsz cl = z) (hml : lg * z = ml) (hy : y < z) (f : Nat → Int) :
    ({ p.take cl lg (fun x => if x < y then f x else 0) with cell := up (p.take cl lg (fun x => if x < y then f x else 0)).cell (ml + y) (f y) } : Pg) = p.take cl lg (fun x => if x < y + 1 then f x else 0) := by
  unfold Pg.take
  simp only [hz, hml]
  congr 1
  funext j
  unfold up
  by_cases e1 : j = ml + y
  · subst e1
    rw [if_pos rfl, if_pos (by omega), if_pos (by omega)]
    congr 1
    omega
  · rw [if_neg e1]
    show (if ml ≤ j ∧ j < ml + z then (if j - ml < y then f (j - ml) else 0) else p.cell j) = _
    by_cases e2 : ml ≤ j ∧ j < ml + z
    · rw [if_pos e2, if_pos e2]
      by_cases e3 : j - ml < y
      · rw [if_pos e3, if_pos (by omega)]
      · rw [if_neg e3, if_neg (by omega)]
    · rw [if_neg e2, if_neg e2]
theorem take_all {p : Pg} {cl : Int} {lg z : Nat} (hz : bsz cl = z) (f : Nat → Int) : p.take cl lg (fun x => if x < z then f x else 0) = p.take cl lg f := by
  unfold Pg.take
  simp only [hz]
  congr 1
  funext j
  by_cases e2 : lg * z ≤ j ∧ j < lg * z + z
  · rw [if_pos e2, if_pos e2, if_pos (by omega)]
  · rw [if_neg e2, if_neg e2]

theorem rmove_some (w : World) (q k c l : Nat) (P : Pl) (h : RRep w q k c l P) (hok : P.ok) (i j : Nat) (hp : P.pair = some (i, j)) :
    Calls Try.prog 41 #[.pointer (some ⟨q, 0, none⟩)] w fun e w' =>
      e = .returned (.tuple #[.int .i64 ((16 * i + (P.pg i).top (P.pg i).cls * bsz (P.pg i).cls : Nat) : Int), .int .i64 ((16 * j + (P.pg j).gap (P.pg j).cls * bsz (P.pg i).cls : Nat) : Int), .int .i64 0]) ∧ RRep w' q k c l (P.moved i j) ∧ Only [k, c, l] w w' := by
  refine calls_abs fun R hR => ?_
  have hP := Pl.pair_some hp
  obtain ⟨cc, hcc, hno, hpc⟩ : ∃ cc : Nat, cc ≤ 2 ∧ (∀ d : Nat, d < cc → P.pairC d = none) ∧ P.pairC cc = some (i, j) := by
    rcases P.pair_class with ⟨h0, _⟩ | ⟨cc, i', j', h1, h2, h3, h4⟩
    · rw [h0] at hp; cases hp
    · rw [hp] at h4; cases h4; exact ⟨cc, h1, h2, h3⟩
  have hcls : (P.pg i).cls = (cc : Int) := (Pl.pairC_some (by unfold IsC; omega) hpc).2
  have hC : IsC (cc : Int) := by unfold IsC; omega
  have hCi : IsC (P.pg i).cls := by rw [hcls]; exact hC
  have hsame : (P.pg j).cls = (cc : Int) := hP.same.trans hcls
  have hne1 : (P.pg i).cls ≠ -1 := by rw [hcls]; omega
  have htop := (hok i hP.hi).top hne1
  have hpj : (P.pg j).partly (cc : Int) = true := by rw [← hcls]; exact hP.pj
  have hgap := (hok j hP.hj).gap hC hpj
  have hmv : Hid (P.moved i j = (P.set j ((P.pg j).take (P.pg i).cls ((P.pg j).gap (P.pg j).cls) fun x => (P.pg i).cell ((P.pg i).top (P.pg i).cls * bsz (P.pg i).cls + x))).set i ((P.pg i).release ((P.pg i).top (P.pg i).cls))) := rfl
  rw [hcls, hsame] at hmv
  rw [hcls, hsame] at hR
  rw [hcls] at htop
  have hi := hP.hi
  have hj := hP.hj
  have hij := hP.ne
  have h24 := h.n24
  have hbk := hC.blk htop.1
  have hbl := hC.blk hgap.1
  have hsz := hC.sz
  have hlb : Hid (∀ x, x < (P.pg i).top (cc : Int) * bsz (cc : Int) → (P.pg i).live x = false) := fun x hx => live_before hCi (by rw [hcls]; exact hx) (by omega)
  have hla : Hid ((P.pg i).live ((P.pg i).top (cc : Int) * bsz (cc : Int)) = true) := by
    have := Pg.live_at hCi ((P.pg i).top (cc : Int))
    rw [hcls] at this
    show _ = _
    rw [this]; exact htop.2
  have hpr : Hid (∀ (d : Nat), d ≤ 2 → Calls Try.prog 68 #[.pointer (some ⟨q, 0, none⟩), .int .i64 (d : Int)] w (Exact w (rpairV (P.frm d P.n) (P.too d (P.frm d P.n) P.n)))) := fun d hd => rpair_of w q k c l P h hok d (by unfold IsC; omega)
  have hprs : Hid (Calls Try.prog 68 #[.pointer (some ⟨q, 0, none⟩), .int .i64 (cc : Int)] w (Exact w (.tuple #[.int .i64 (i : Int), .int .i64 (j : Int), .bool true]))) := by
    have h1 := hpr.out cc hcc
    obtain ⟨e1, e2⟩ := rpair_some hpc
    rw [e2, e1] at h1
    exact h1
  have hgp := rgap_of w q k c l P h j hj (by rw [hsame]; exact hC)
  obtain ⟨hgv, _⟩ := gapV_yes (hok j hj) hC hpj
  have hcut := fun wx => cut_of wx (cc : Int) hC
  have htk : Hid (∀ a : Int, a = ((j * 16 + (P.pg j).gap (cc : Int) * bsz (cc : Int) : Nat) : Int) → Calls Try.prog 56 #[.pointer (some ⟨q, 0, none⟩), .int .i64 a, .int .i64 (bsz (cc : Int) : Nat)] w fun e w' => e = .returned (.tuple #[]) ∧ RRep w' q k c l (P.set j ((P.pg j).take (cc : Int) ((P.pg j).gap (cc : Int)) fun _ => 0)) ∧ Only [c, l] w w') :=
    fun a ha => take_of w q k c l P h j hj (cc : Int) hC hsame ((P.pg j).gap (cc : Int)) _ _ hgap.1 rfl rfl a ha
  -- the pool behind the copying
  have hok2 : Hid (∀ f, (P.set j ((P.pg j).take (cc : Int) ((P.pg j).gap (cc : Int)) f)).ok) := fun f => hok.set ((hok j hj).take hC (.inr hsame) hgap.1 f)
  obtain ⟨tk, htk0⟩ : ∃ x, x = (P.pg i).top (cc : Int) := ⟨_, rfl⟩
  obtain ⟨lg, hlg0⟩ : ∃ x, x = (P.pg j).gap (cc : Int) := ⟨_, rfl⟩
  obtain ⟨z, hz⟩ : ∃ x, x = bsz (cc : Int) := ⟨_, rfl⟩
  simp only [← htk0, ← hlg0, ← hz] at hmv hR htop hgap hbk hbl hsz hlb hla hgv hcut htk hok2
  obtain ⟨mk, hmk⟩ : ∃ x, x = tk * z := ⟨_, rfl⟩
  obtain ⟨ml, hml⟩ : ∃ x, x = lg * z := ⟨_, rfl⟩
  simp only [← hmk, ← hml] at hmv hR hbk hbl hlb hla hgv htk
  have hmk16 : mk + z ≤ 16 := hbk.1
  have hml16 : ml + z ≤ 16 := hbl.1
  have hz8 : z ≤ 8 := by omega
  have hz2 : 0 < z := by omega
  obtain ⟨B, hB⟩ : ∃ B, B = j * 16 + ml := ⟨_, rfl⟩
  have hgB : gapV P j = (B : Int) := by rw [hgv, hB]; omega
  rw [hgB] at hgp
  have htkB : Hid (Calls Try.prog 56 #[.pointer (some ⟨q, 0, none⟩), .int .i64 (B : Int), .int .i64 (z : Int)] w fun e w' => e = .returned (.tuple #[]) ∧ RRep w' q k c l (P.set j ((P.pg j).take (cc : Int) lg fun _ => 0)) ∧ Only [c, l] w w') := htk.out _ (by rw [hB])
  have H := Lib.hid h
  have HOK := Lib.hid hok
  have HNO := Lib.hid hno
  have HIJ := Lib.hid hij
  have HZ := Lib.hid hz
  have HML := Lib.hid hml
  have HBB := Lib.hid hB
  have HCLS := Lib.hid hcls
  have HCI := Lib.hid hCi
  have HTK := Lib.hid hmk
  have HTOP := Lib.hid htop
  have HNE1 := Lib.hid hne1
  have hBn : B < P.n * 16 := by omega
  have hB9 : B + z ≤ P.n * 16 := by omega
  have hB99 : Hid (((16 * j + ml : Nat) : Int) = (B : Int)) := by show _ = _; omega
  rw [hB99.out] at hR
  obtain ⟨c1, c2, c3, z0, z1, z2, f0, f1, f2, _⟩ := h.facts
  have hlive : Hid (∀ x, x < 16 → w.cell? ⟨l, i * 16 + x, none⟩ = some (.bool ((P.pg i).live x))) := h.live i hi
  clear h hok hno hij hz hml hB hcls hCi hmk htk0 hlg0 hp hP hpc hgv hbk hbl hsz htop hgap hne1 hpj htk hgB hsame
  go_enter Try.func41, Try.ntmps41
  go_wp2_with fail
  go_loop [5] (fun v => ∃ d : Nat, d ≤ cc ∧ v = .int .i64 d) (fun v => cc - (intOf v).toNat)
  case atStart => exact ⟨0, by omega, rfl⟩
  case round =>
    obtain ⟨d, hd, rfl⟩ := hrel
    by_cases hlt : d < cc
    · have hd2 : d ≤ 2 := by omega
      have hc := hpr.out d hd2
      unfold rpairV at hc
      rw [rpair_none (HNO.out d hlt)] at hc
      generalize oInt (P.frm d P.n) = v1 at hc
      generalize oInt (P.too d (P.frm d P.n) P.n) = v2 at hc
      go_wp2_with fail
      refine hc.mono ?_
      rintro e _ ⟨rfl, rfl⟩
      go_wp2_with fail
      go_round
      case rel => exact ⟨d + 1, by omega, by go_num⟩
      case measure => simp [intOf]; omega
    · obtain rfl : d = cc := by omega
      go_wp2_with fail
      refine hprs.out.mono ?_
      rintro e _ ⟨rfl, rfl⟩
      go_wp2_with fail
      go_loop [9] (fun v => ∃ x s : Nat, x ≤ mk ∧ s = i * 16 + x ∧ v = .int .i64 s) (fun v => i * 16 + mk - (intOf v).toNat)
      case atStart => exact ⟨0, i * 16, by omega, rfl, by go_num⟩
      case round =>
        clear hlt
        obtain ⟨x, s, hx, hs, rfl⟩ := hrel
        have hlv := hlive.out x (by omega)
        rw [← hs] at hlv
        have hsn : s < P.n * 16 := by omega
        by_cases hlt : x < mk
        · rw [hlb.out x hlt] at hlv
          have hs1 : Hid (s + 1 = i * 16 + (x + 1)) := by show _ = _; omega
          have HS := Lib.hid hs
          have hs2 : s < i * 16 + mk := by omega
          clear hs
          go_wp2_with fail
          go_round
          case rel => exact ⟨x + 1, s + 1, by omega, hs1.out, by go_num⟩
          case measure => simp [intOf]; omega
        · obtain rfl : mk = x := by omega
          rw [hla.out] at hlv
          have HS := Lib.hid hs
          have hA9 : s + z ≤ P.n * 16 := by omega
          clear hs hlt
          go_wp2_with fail
          refine hgp.mono ?_
          rintro e _ ⟨rfl, rfl⟩
          go_wp2_with fail
          refine (hcut _).mono ?_
          rintro e _ ⟨rfl, rfl⟩
          go_wp2_with fail
          refine htkB.out.mono ?_
          rintro e w2 ⟨rfl, h2, o2⟩
          have H2 := Lib.hid h2
          clear z0 z1 z2 f0 f1 f2 hlv h2
          go_wp2_with fail
          go_loopw [11] (fun v wr => ∃ y : Nat, y ≤ z ∧ v = .int .i64 y ∧ RRep wr q k c l (P.set j ((P.pg j).take (d : Int) lg fun x => if x < y then (P.pg i).cell (mk + x) else 0)) ∧ Only [c, l] w wr) (fun v _ => z - (intOf v).toNat)
          case atStart => exact ⟨0, by omega, rfl, by simpa using H2.out, o2⟩
          case round =>
            clear H2 o2
            obtain ⟨y, hy, rfl, h3, o3⟩ := hrel
            obtain ⟨d1, d2, d3, z0, z1, z2, f0, f1, f2, _⟩ := h3.facts
            simp only [Pl.set_n] at z0 z1 z2
            by_cases hlt : y < z
            · have hsrc := h3.cells i hi (mk + y) (by omega)
              rw [Pl.set_other _ _ HIJ.out] at hsrc
              have hdst := h3.cells j hj (ml + y) (by omega)
              have h4 := h3.setCell (i := j) (j := ml + y) hj (by omega) ((P.pg i).cell (mk + y))
              rw [Pl.set_same, Pl.set_set, take_more HZ.out.symm HML.out.symm hlt (fun x => (P.pg i).cell (mk + x))] at h4
              rw [← Nat.add_assoc, ← HBB.out] at h4
              rw [← Nat.add_assoc, ← HBB.out] at hdst
              rw [← Nat.add_assoc, ← HS.out] at hsrc
              have H4 := Lib.hid h4
              have H3 := Lib.hid h3
              have hwa : IntKind.i64.wrap ((B : Int) + (y : Int)) = (B : Int) + (y : Int) := IntWalk.i64_in _ (by omega)
              have hwb : IntKind.i64.wrap ((s : Int) + (y : Int)) = (s : Int) + (y : Int) := IntWalk.i64_in _ (by omega)
              have hia : ((B : Int) + (y : Int)).toNat = B + y := by omega
              have hib : ((s : Int) + (y : Int)).toNat = s + y := by omega
              have hba : B + y < P.n * 16 := by omega
              have hbb : s + y < P.n * 16 := by omega
              have hca : (B : Int) + (y : Int) < (P.n : Int) * 16 := by omega
              have hcb : (s : Int) + (y : Int) < (P.n : Int) * 16 := by omega
              have hcc0 : 0 ≤ (B : Int) + (y : Int) := by omega
              have hcd0 : 0 ≤ (s : Int) + (y : Int) := by omega
              clear h3 h4
              go_wp2_with fail
              refine (hcut _).mono ?_
              rintro e _ ⟨rfl, rfl⟩
              go_wp2_with fail
              go_still_tail 17, (by kernel_rfl)
              change wpList _ _ _ _ _ wr.drew
              have g1 : wr.drew.frozen? ⟨c, B + y, none⟩ = false := f1 _
              have g2 : ∃ v, wr.drew.cell? ⟨c, B + y, none⟩ = some v := ⟨_, hdst⟩
              obtain ⟨vd, g2⟩ := g2
              refine wpList_plain rfl fun K hK => ?_
              unfold Oper.wp
              go_simp
              refine hK _ _ ?_
              clear hK K
              refine wpList_nil ?_
              clear g1 g2 hsrc hdst
              go_wp2_with fail
              exact ⟨⟨y + 1, by omega, by go_num, H4.out.drewTo (Drew.of _ 1), (o3.set (by simp) _).drewN 1⟩, by simp [intOf]; omega⟩
            · obtain rfl : z = y := by omega
              have hfin : Hid ((P.pg j).take (d : Int) lg (fun x => if x < z then (P.pg i).cell (mk + x) else 0) = (P.pg j).take (d : Int) lg fun x => (P.pg i).cell (mk + x)) := take_all HZ.out.symm _
              rw [hfin.out] at h3
              have hA16 : s = i * 16 + mk := HS.out
              have hpgi : (P.set j ((P.pg j).take (d : Int) lg fun x => (P.pg i).cell (mk + x))).pg i = P.pg i := Pl.set_other _ _ HIJ.out
              have hadr : Adr (P.set j ((P.pg j).take (d : Int) lg fun x => (P.pg i).cell (mk + x))) s i mk := ⟨by omega, by omega, hi, by omega, by omega⟩
              have hfr : (P.set j ((P.pg j).take (d : Int) lg fun x => (P.pg i).cell (mk + x))).free (s : Int) = (0, P.moved i j) := by
                obtain ⟨b1, b2⟩ := (live_begin (hok2.out _) hadr).1 (by rw [hpgi]; exact hla.out)
                unfold Pl.free
                rw [if_pos b1, if_pos b2]
                have e1 : ((s : Int).toNat / 16) = i := by omega
                have e2 : ((s : Int).toNat % 16) = mk := by omega
                rw [e1, e2, hpgi, hmv.out]
                have e3 : mk / bsz (P.pg i).cls = tk := by rw [HCLS.out, ← HZ.out, HTK.out]; exact Nat.mul_div_cancel _ hz2
                rw [e3]
              have hfree := rfree_rep wr q k c l _ h3 (hok2.out _) (s : Int)
              rw [hfr] at hfree
              have hval : Hid (((16 * i + mk : Nat) : Int) = (s : Int)) := by show _ = _; omega
              rw [hval.out] at hR
              clear h3 hA16 hadr hfr hpgi hlt
              go_wp2_with fail
              refine (hcut _).mono ?_
              rintro e _ ⟨rfl, rfl⟩
              go_wp2_with fail
              refine hfree.mono ?_
              rintro e w4 ⟨rfl, h4, o4⟩
              go_wp2_with fail
              go_ret3
              exact hR.out _ _ ⟨rfl, h4, (o3.mono (by simp)).trans o4 (by simp)⟩
theorem rmove_rep (w : World) (q k c l : Nat) (P : Pl) (h : RRep w q k c l P) (hok : P.ok) :
    Calls Try.prog 41 #[.pointer (some ⟨q, 0, none⟩)] w fun e w' =>
      e = .returned (.tuple #[.int .i64 P.move.1, .int .i64 P.move.2.1, .int .i64 P.move.2.2.1]) ∧ RRep w' q k c l P.move.2.2.2 ∧ Only [k, c, l] w w' := by
  cases hp : P.pair with
  | none =>
    rw [Pl.move_none hp]
    exact (rmove_none w q k c l P h hok hp).mono fun e w' ⟨a, b⟩ => ⟨a, b ▸ h, b ▸ Only.refl _ _⟩
  | some x =>
    obtain ⟨i, j⟩ := x
    rw [Pl.move_some hp]
    exact rmove_some w q k c l P h hok i j hp
end Go.Proofs.Ytngmiacekcmidaa
