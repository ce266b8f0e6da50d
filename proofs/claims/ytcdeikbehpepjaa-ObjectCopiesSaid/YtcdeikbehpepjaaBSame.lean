/- Contracts of block.same, block.Same: equal pools. -/
import Derived.Test.YtcdeikbehpepjaaBlockJ
import Derived.Laws.StructEq
namespace Go.Proofs.Ytcdeikbehpepjaa
open Go.RowKit
set_option maxHeartbeats 3200000
set_option maxRecDepth 100000
set_option linter.unusedVariables false

/-- All of the first n. -/
def allN (f : Nat → Bool) : Nat → Bool
  | 0 => true
  | n + 1 => allN f n && f n
theorem allN_iff {f : Nat → Bool} {n : Nat} : allN f n = true ↔ ∀ k, k < n → f k = true := by
  induction n with
  | zero => simp [allN]
  | succ n ih =>
    unfold allN
    rw [Bool.and_eq_true, ih]
    constructor
    · rintro ⟨h1, h2⟩ k hk
      by_cases e : k = n
      · rw [e]; exact h2
      · exact h1 k (by omega)
    · exact fun h => ⟨fun k hk => h k (by omega), h n (by omega)⟩
theorem allN_no {f : Nat → Bool} {n k : Nat} (hk : k < n) (h : f k = false) : allN f n = false := by
  cases hn : allN f n with
  | false => rfl
  | true => have := allN_iff.1 hn k hk; rw [h] at this; cases this
theorem allN_congr {f g : Nat → Bool} {n : Nat} (h : ∀ k, k < n → f k = g k) : allN f n = allN g n := by
  induction n with
  | zero => rfl
  | succ n ih => unfold allN; rw [ih (fun k hk => h k (by omega)), h n (by omega)]

theorem equal_ints (w : World) (b o n cap b2 o2 cap2 : Nat) (u v : Nat → Int) (hn : n ≤ 1000000) (hc : ∀ k, k < n → w.cell? ⟨b, o + k, none⟩ = some (.int .i64 (u k))) (hd : ∀ k, k < n → w.cell? ⟨b2, o2 + k, none⟩ = some (.int .i64 (v k))) :
    Calls Try.prog 65 #[.slice (some ⟨b, o, none⟩) n cap, .slice (some ⟨b2, o2, none⟩) n cap2] w fun e w' => e = .returned (.bool (allN (fun k => u k == v k) n)) ∧ Drew w w' := by
  refine calls_abs fun R hR => ?_
  have H := Lib.hid hc
  have D := Lib.hid hd
  clear hc hd
  go_enter Try.func65, Try.ntmps65
  go_wp2_with fail
  go_loopw [5, 13] (fun _ i wr => ∃ k : Nat, k ≤ n ∧ i = .int .i64 k ∧ Hid (∀ j, j < k → (u j == v j) = true) ∧ Drew w wr) (fun _ i _ => n - (intOf i).toNat)
  case atStart => exact ⟨0, by omega, rfl, fun j hj => by omega, Drew.refl _⟩
  case round =>
    obtain ⟨k, hk, rfl, hf, hdr⟩ := hrel
    have HDR := Lib.hid hdr
    by_cases hlt : k < n
    · have c1 := hdr.cell (H.out k hlt)
      have c2 := hdr.cell (D.out k hlt)
      clear hdr
      by_cases hu : u k = v k
      · generalize hx : v k = x at *
        rw [hu] at c1
        go_wp2_with fail
        go_quiet (fail)
        go_wp2_with fail
        exact ⟨⟨k + 1, by omega, by go_num, fun j hj => by
          by_cases e : j = k
          · rw [e, hu, hx]; simp
          · exact hf.out j (by omega), HDR.out.more _⟩, by simp [intOf]; omega⟩
      · have hne : (u k == v k) = false := by simpa using hu
        have hR2 : Hid (allN (fun k => u k == v k) n = false) := allN_no hlt hne
        rw [hR2.out] at hR
        clear hR2
        generalize u k = x at *
        generalize v k = y at *
        go_wp2_with fail
        go_quiet (fail)
        go_wp2_with fail
        exact hR.out _ _ ⟨rfl, HDR.out.more _⟩
    · obtain rfl : k = n := by omega
      have hR2 : Hid (allN (fun k => u k == v k) k = true) := allN_iff.2 hf.out
      rw [hR2.out] at hR
      clear hR2 hdr
      go_wp2_with fail
      exact hR.out _ _ ⟨rfl, HDR.out⟩

/-- Arrays of eight bools are compared. -/
theorem run_equalIn_bools8 {P : Program} (w : World) (d : Nat) (t e : TypeId) (i : TypeInfo) (ht : P.underlying t = some (.array 8 e)) (he : P.underlying e = some .bool) (hi : P.info? e = some i) (hs : i.size = 1) (u v : Nat → Bool) :
    (Op.equalIn (d + 1 + 1) t (.agg ((List.range 8).map fun k => Value.bool (u k)).toArray) (.agg ((List.range 8).map fun k => Value.bool (v k)).toArray)).run P w = .ok (allN (fun k => u k == v k) 8) w := by
  have hagg : (isAgg e).run P w = .ok false w := by
    unfold isAgg
    rw [Sem.run_bind, run_underlying he w]
    simp
  have hb : ∀ a b : Bool, (Op.equalIn (d + 1) e (.bool a) (.bool b)).run P w = .ok (a == b) w := fun a b => run_equalIn_bool w d e a b he
  have hsz : (sizeOf e).run P w = .ok 1 w := by simp [sizeOf, typeInfo, hi, hs]
  have hp : ∀ (f : Nat → Bool) (k : Nat), k < 8 → (part e ((List.range 8).map fun k => Value.bool (f k)).toArray (k * 1)).run P w = .ok (.bool (f k)) w := fun f k hk => by
    simp [part, Sem.run_bind, hagg, hk]
  have hU := hp u
  have hV := hp v
  clear hp
  generalize hD : d + 1 = D at *
  simp only [Op.equalIn, Sem.run_bind, run_underlying ht, Result.andThen_ok, hsz, Std.Legacy.Range.forIn_eq_forIn_range']
  generalize ((List.range 8).map fun k => Value.bool (u k)).toArray = U at *
  generalize ((List.range 8).map fun k => Value.bool (v k)).toArray = V at *
  have key : ∀ (ls : List Nat), (∀ k ∈ ls, k < 8) → Sem.run P (forIn (m := Sem) ls ((none, ()) : Option Bool × Unit) fun i __s => do
            let __do_lift ← part e U (i * 1)
            let __do_lift_1 ← part e V (i * 1)
            let __do_lift ← Op.equalIn D e __do_lift __do_lift_1
            if (!__do_lift) = true then pure (ForInStep.done (some false, ())) else pure (ForInStep.yield (none, ()))) w = .ok (if ls.all (fun k => u k == v k) then (none, ()) else (some false, ())) w := by
    intro ls
    induction ls with
    | nil => intro _; simp
    | cons k r ih =>
      intro hk
      rw [List.forIn_cons]
      simp only [Sem.run_bind, hU k (hk k (by simp)), hV k (hk k (by simp)), Result.andThen_ok, hb]
      cases hkk : (u k == v k) with
      | false => simp [hkk]
      | true =>
        simp only [Bool.not_true, Bool.false_eq_true, if_false, Sem.run_pure, Result.andThen_ok, List.all_cons, hkk, Bool.true_and]
        exact ih (fun x hx => hk x (by simp [hx]))
  rw [key _ (fun k hk => by rw [List.mem_range'] at hk; obtain ⟨i, h1, h2⟩ := hk; have h3 : i < 8 := h1; omega)]
  have e8 : allN (fun k => u k == v k) 8 = (List.range' 0 [:8].size).all (fun k => u k == v k) := by
    show allN (fun k => u k == v k) 8 = (List.range' 0 8).all (fun k => u k == v k)
    simp [allN, List.range', Bool.and_assoc]
  rw [e8]
  cases (List.range' 0 [:8].size).all (fun k => u k == v k) <;> simp
theorem used_neq (p q : Pg) (wx : World) : (binOp .neq 108 (.agg (usedRow p).toArray) (.agg (usedRow q).toArray)).run Try.prog wx = .ok (.bool (!allN (fun k => p.used k == q.used k) 8)) wx := by
  obtain ⟨i, hi, hs⟩ := Option.map_eq_some_iff.1 (by kernel_rfl : (Try.prog.info? 4).map (·.size) = some 1)
  rw [run_neq_struct, show (10000 : Nat) = 9998 + 1 + 1 from rfl, usedRow, usedRow, run_equalIn_bools8 wx 9998 _ 4 i Try.underlying108 Try.underlying4 hi hs p.used q.used]
  rfl
/-- Two pages that are equal in what is used. -/
def Pg.blkSame (x y : Pg) (k : Nat) : Bool := !x.used k || allN (fun j => x.cell (k * bsz x.cls + j) == y.cell (k * bsz x.cls + j)) (bsz x.cls)
def Pg.same (x y : Pg) : Bool := (x.cls == y.cls) && (decide (x.cls < 0) || (allN (fun k => x.used k == y.used k) 8 && allN (x.blkSame y) (bpt x.cls)))
theorem load_used (w : World) (b o : Nat) (p : Pg) (h : PgAt w b o p) (n : Nat) : (loadVar 108 ⟨b, o + 1, none⟩).run Try.prog (w.drewN n) = .ok (.agg (usedRow p).toArray) (w.drewN n) :=
  run_loadVar_agg (w.drewN n) b (o + 1) 108 (usedRow p) _ Try.underlying108 rfl (by kernel_rfl) (fun j v hv => by
    obtain ⟨h1, rfl⟩ := used_at hv
    exact h.used h1)

theorem same_of (w : World) (b o : Nat) (x : Pg) (h : PgAt w b o x) (b2 o2 : Nat) (y : Pg) (h2 : PgAt w b2 o2 y) (hx : x.ok) (hy : y.ok) :
    Calls Try.prog 78 #[.pointer (some ⟨b, o, none⟩), .pointer (some ⟨b2, o2, none⟩)] w fun e w' => e = .returned (.bool (x.same y)) ∧ Drew w w' := by
  refine calls_abs fun R hR => ?_
  have H := Lib.hid h
  have H2 := Lib.hid h2
  have c1 := h.cls
  have c2 := h2.cls
  have hl1 := load_used w b o x h
  have hl2 := load_used w b2 o2 y h2
  have hne0 := used_neq x y
  have hsm : Hid (x.same y = ((x.cls == y.cls) && (decide (x.cls < 0) || (allN (fun k => x.used k == y.used k) 8 && allN (x.blkSame y) (bpt x.cls))))) := rfl
  clear h h2
  by_cases hcls : x.cls = y.cls
  · rcases hx.cls with h1 | hC
    · rw [← hcls] at c2
      have HCL := Lib.hid hcls
      clear hcls hx hy hl1 hl2 hne0
      rw [h1] at c1 c2
      go_enter Try.func78, Try.ntmps78
      go_wp2_with fail
      go_quiet (fail)
      go_wp2_with fail
      go_loopw [5, 6] (fun v _ wr => v = .int .i64 0 ∧ Drew w wr) (fun _ _ _ => 0)
      case atStart => exact ⟨rfl, Drew.of _ _⟩
      case round =>
        obtain ⟨rfl, hdr⟩ := hrel
        have HDR := Lib.hid hdr
        have c1 := hdr.cell c1
        clear hdr
        go_wp2_with fail
        refine hR.out _ _ ⟨?_, HDR.out⟩
        rw [hsm.out, ← HCL.out, h1]
        simp
    · have hge : 0 ≤ x.cls := by rcases hC with e | e | e <;> omega
      have hge2 : Hid (¬ x.cls < 0) := by show ¬ _; omega
      rw [← hcls] at c2
      have HC := Lib.hid hC
      have HCL := Lib.hid hcls
      generalize hu : allN (fun k => x.used k == y.used k) 8 = ub at *
      clear hcls hx hy hC
      cases ub with
      | false =>
        go_enter Try.func78, Try.ntmps78
        go_wp2_with fail
        refine wp_region_quiet_lit (by kernel_rfl) (by kernel_rfl) ?_
        repeat (first | (quiet_step (fail)) | (refine wpQuiet_load_agg 108 _ rfl (by rfl) b (o + 1) rfl hl1 ?_) | (refine wpQuiet_load_agg 108 _ rfl (by rfl) b2 (o2 + 1) rfl hl2 ?_))
        refine wpQuiet_nil ?_
        intro _ hw'
        obtain ⟨nq, hw''⟩ := hw'
        subst hw''
        go_wp2_with fail
        refine hR.out _ _ ⟨?_, Drew.of _ _⟩
        rw [hsm.out, ← HCL.out]
        simp [hge2.out]
      | true =>
        go_enter Try.func78, Try.ntmps78
        go_wp2_with fail
        refine wp_region_quiet_lit (by kernel_rfl) (by kernel_rfl) ?_
        repeat (first | (quiet_step (fail)) | (refine wpQuiet_load_agg 108 _ rfl (by rfl) b (o + 1) rfl hl1 ?_) | (refine wpQuiet_load_agg 108 _ rfl (by rfl) b2 (o2 + 1) rfl hl2 ?_))
        refine wpQuiet_nil ?_
        intro _ hw'
        obtain ⟨nq, hw''⟩ := hw'
        subst hw''
        go_wp2_with fail
        clear hl1 hl2 hne0
        have HU := Lib.hid hu
        clear hu
        have hsz := HC.out.sz
        obtain ⟨z, hz⟩ : ∃ z, z = bsz x.cls := ⟨_, rfl⟩
        obtain ⟨m, hm⟩ : ∃ m, m = bpt x.cls := ⟨_, rfl⟩
        have HZ := Lib.hid hz
        have HM := Lib.hid hm
        have hsz2 : Hid (∀ wx, Calls Try.prog 91 #[.int .i64 x.cls] wx (Exact wx (.int .i64 (z : Int)))) := fun wx => by rw [hz]; exact size_of wx _ HC.out
        have hpt2 : Hid (∀ wx, Calls Try.prog 105 #[.int .i64 x.cls] wx (Exact wx (.int .i64 (m : Int)))) := fun wx => by rw [hm]; exact parts_of wx _ HC.out
        rw [← hz, ← hm] at hsz
        clear hz hm
        go_loopw [5, 6] (fun v _ wr => ∃ k : Nat, k ≤ m ∧ v = .int .i64 k ∧ Hid (∀ j, j < k → x.blkSame y j = true) ∧ Drew w wr) (fun v _ _ => m - (intOf v).toNat)
        case atStart => exact ⟨0, by omega, rfl, fun j hj => by omega, Drew.of _ _⟩
        case round =>
          obtain ⟨k, hk, rfl, hf, hdr⟩ := hrel
          have HDR := Lib.hid hdr
          have c1 := hdr.cell c1
          clear hdr
          by_cases hlt : k < m
          · have hbk := HC.out.blk (k := k) (by rw [← HM.out]; exact hlt)
            rw [← HZ.out] at hbk
            obtain ⟨mk, hmk⟩ : ∃ mk, mk = k * z := ⟨_, rfl⟩
            rw [← hmk] at hbk
            have hi1 : (k : Int) * (z : Int) = (mk : Int) := by rw [hmk]; simp
            have hi2 : ((k : Int) + 1) * (z : Int) = (mk : Int) + (z : Int) := by rw [Int.add_mul, Int.one_mul, hi1]
            have hmk16 : mk + z ≤ 16 := hbk.1
            have hz8 : z ≤ 8 := by omega
            have hz2 : 0 < z := by omega
            have hk8 : k < 8 := by omega
            have hk8i : (k : Int) < 8 := by omega
            have h16k : ¬ 16 = mk := by omega
            have hb1 : (mk : Int) + (z : Int) ≤ 16 := by omega
            have hb2 : (0 : Int) ≤ mk := by omega
            have hb3 : (mk : Int) ≤ (mk : Int) + (z : Int) := by omega
            have hb4 : (0 : Int) ≤ (mk : Int) + (z : Int) := by omega
            have hw1 : IntKind.i64.wrap (mk : Int) = mk := IntWalk.i64_in _ (by omega)
            have hw2 : IntKind.i64.wrap ((mk : Int) + (z : Int)) = (mk : Int) + (z : Int) := IntWalk.i64_in _ (by omega)
            have hw3 : IntKind.i64.wrap ((k : Int) + 1) = (k : Int) + 1 := IntWalk.i64_in _ (by omega)
            have HX := Lib.hid (H.out.only (HDR.out.only []) (by simp))
            have HY := Lib.hid (H2.out.only (HDR.out.only []) (by simp))
            have hu := HX.out.used hk8
            have hbs : Hid (x.blkSame y k = (!x.used k || allN (fun j => x.cell (k * bsz x.cls + j) == y.cell (k * bsz x.cls + j)) (bsz x.cls))) := rfl
            have hbs2 : Hid (x.blkSame y k = (!x.used k || allN (fun j => x.cell (mk + j) == y.cell (mk + j)) z)) := by show _ = _; rw [hbs.out, ← HZ.out, ← hmk]
            have ezk : ((mk : Int) + (z : Int)).toNat - mk = z := by omega
            have heq : ∀ n, Calls Try.prog 65 #[.slice (some ⟨b, o + 9 + mk, none⟩) z (16 - mk), .slice (some ⟨b2, o2 + 9 + mk, none⟩) z (16 - mk)] (wr.drewN n) fun e w'' => e = .returned (.bool (allN (fun j => x.cell (mk + j) == y.cell (mk + j)) z)) ∧ ∃ m, w'' = wr.drewN m := fun n => Calls.quiet_of (equal_ints (wr.drewN n) b (o + 9 + mk) z (16 - mk) b2 (o2 + 9 + mk) (16 - mk) (fun j => x.cell (mk + j)) (fun j => y.cell (mk + j)) (by omega)
              (fun j hj => by have := (HX.out.drewN n).cell (k := mk + j) (by omega); rw [← Nat.add_assoc] at this; exact this)
              (fun j hj => by have := (HY.out.drewN n).cell (k := mk + j) (by omega); rw [← Nat.add_assoc] at this; exact this))
            generalize allN (fun j => x.cell (mk + j) == y.cell (mk + j)) z = eb at *
            clear hmk hbk hsz
            go_wp2_with fail
            refine (hpt2.out _).mono ?_
            rintro e _ ⟨rfl, rfl⟩
            go_wp2_with fail
            refine (hsz2.out _).mono ?_
            rintro e _ ⟨rfl, rfl⟩
            have HS2 := Lib.hid hsz2.out
            cases hxu : x.used k with
            | false =>
              rw [hxu] at hu
              go_wp2_with fail
              go_quiet (fail)
              go_wp2_with fail
              exact ⟨⟨k + 1, by omega, by go_num, fun j hj => by
                by_cases e : j = k
                · rw [e, hbs2.out, hxu]; rfl
                · exact hf.out j (by omega), HDR.out.more _⟩, by simp [intOf]; omega⟩
            | true =>
              rw [hxu] at hu
              cases eb with
              | true =>
                go_wp2_with fail
                go_quiet ((go_at_call 65; with_reducible exact heq _))
                go_wp2_with fail
                exact ⟨⟨k + 1, by omega, by go_num, fun j hj => by
                  by_cases e : j = k
                  · rw [e, hbs2.out]; simp
                  · exact hf.out j (by omega), HDR.out.more _⟩, by simp [intOf]; omega⟩
              | false =>
                go_wp2_with fail
                go_quiet ((go_at_call 65; with_reducible exact heq _))
                go_wp2_with fail
                refine hR.out _ _ ⟨?_, HDR.out.more _⟩
                have e1 : allN (x.blkSame y) (bpt x.cls) = false := allN_no (k := k) (by rw [← HM.out]; exact hlt) (by rw [hbs2.out, hxu]; rfl)
                rw [hsm.out, e1]
                simp [hge2.out]
          · obtain rfl : k = m := by omega
            go_wp2_with fail
            refine (hpt2.out _).mono ?_
            rintro e _ ⟨rfl, rfl⟩
            go_wp2_with fail
            refine hR.out _ _ ⟨?_, HDR.out⟩
            have e1 : allN (x.blkSame y) (bpt x.cls) = true := by rw [← HM.out]; exact allN_iff.2 hf.out
            rw [hsm.out, e1, ← HCL.out]
            simp
  · have hne : (x.cls == y.cls) = false := by simpa using hcls
    generalize x.cls = xc at *
    generalize y.cls = yc at *
    clear hl1 hl2 hne0 hx hy
    have hne2 : (xc != yc) = true := by simpa using hcls
    go_enter Try.func78, Try.ntmps78
    go_wp2_with fail
    go_quiet (fail)
    go_wp2_with fail
    exact hR.out _ _ ⟨by rw [hsm.out, hne]; rfl, Drew.of _ _⟩
end Go.Proofs.Ytcdeikbehpepjaa
