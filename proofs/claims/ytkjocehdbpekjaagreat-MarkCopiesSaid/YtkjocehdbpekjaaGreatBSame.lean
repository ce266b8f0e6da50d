/- Contracts of block.same, block.Same: equal pools. -/
import Derived.Test.YtkjocehdbpekjaaGreatBlockJ
import Derived.Laws.StructEq
namespace Go.Proofs.YtkjocehdbpekjaaGreat
open Go.RowKit
set_option maxHeartbeats 3200000
set_option maxRecDepth 100000
set_option linter.unusedVariables false

/-- All of the first n. -/
def allN (f : Nat → Bool) : Nat → Bool
  | 0 => true
  | n + 1 => allN f n && f n
theorem allN_iff {f : Nat → Bool} {n : Nat} : allN f n = true ↔ ∀ k, k < n → f k = true := by
  induction n with
  | zero => simp [allN]
  | succ n ih =>
    unfold allN
    rw [Bool.and_eq_true, ih]
    constructor
    · rintro ⟨h1, h2⟩ k hk
      by_cases e : k = n
      · rw [e]; exact h2
      · exact h1 k (by omega)
    · exact fun h => ⟨fun k hk => h k (by omega), h n (by omega)⟩
theorem allN_no {f : Nat → Bool} {n k : Nat} (hk : k < n) (h : f k = false) : allN f n = false := by
  cases hn : allN f n with
  | false => rfl
  | true => have := allN_iff.1 hn k hk; rw [h] at this; cases this
theorem allN_congr {f g : Nat → Bool} {n : Nat} (h : ∀ k, k < n → f k = g k) : allN f n = allN g n := by
  induction n with
  | zero => rfl
  | succ n ih => unfold allN; rw [ih (fun k hk => h k (by omega)), h n (by omega)]

theorem equal_ints (w : World) (b o n cap b2 o2 cap2 : Nat) (u v : Nat → Int) (hn : n ≤ 1000000) (hc : ∀ k, k < n → w.cell? ⟨b, o + k, none⟩ = some (.int .i64 (u k))) (hd : ∀ k, k < n → w.cell? ⟨b2, o2 + k, none⟩ = some (.int .i64 (v k))) :
    Calls Tryz.prog 121 #[.slice (some ⟨b, o, none⟩) n cap, .slice (some ⟨b2, o2, none⟩) n cap2] w fun e w' => e = .returned (.bool (allN (fun k => u k == v k) n)) ∧ Drew w w' := by
  refine calls_abs fun R hR => ?_
  have H := Lib.hid hc
  have D := Lib.hid hd
  clear hc hd
  go_enter Tryz.func121, Tryz.ntmps121
  go_wp2_with fail
  go_loopw [5, 13] (fun _ i wr => ∃ k : Nat, k ≤ n ∧ i = .int .i64 k ∧ Hid (∀ j, j < k → (u j == v j) = true) ∧ Drew w wr) (fun _ i _ => n - (intOf i).toNat)
  case atStart => exact ⟨0, by omega, rfl, fun j hj => by omega, Drew.refl _⟩
  case round =>
    obtain ⟨k, hk, rfl, hf, hdr⟩ := hrel
    have HDR := Lib.hid hdr
    by_cases hlt : k < n
    · have c1 := hdr.cell (H.out k hlt)
      have c2 := hdr.cell (D.out k hlt)
      clear hdr
      by_cases hu : u k = v k
      · generalize hx : v k = x at *
        rw [hu] at c1
        go_wp2_with fail
        go_quiet (fail)
        go_wp2_with fail
        exact ⟨⟨k + 1, by omega, by go_num, fun j hj => by
          by_cases e : j = k
          · rw [e, hu, hx]; simp
          · exact hf.out j (by omega), HDR.out.more _⟩, by simp [intOf]; omega⟩
      · have hne : (u k == v k) = false := by simpa using hu
        have hR2 : Hid (allN (fun k => u k == v k) n = false) := allN_no hlt hne
        rw [hR2.out] at hR
        clear hR2
        generalize u k = x at *
        generalize v k = y at *
        go_wp2_with fail
        go_quiet (fail)
        go_wp2_with fail
        exact hR.out _ _ ⟨rfl, HDR.out.more _⟩
    · obtain rfl : k = n := by omega
      have hR2 : Hid (allN (fun k => u k == v k) k = true) := allN_iff.2 hf.out
      rw [hR2.out] at hR
      clear hR2 hdr
      go_wp2_with fail
      exact hR.out _ _ ⟨rfl, HDR.out⟩

/-- Arrays of eight bools are compared. -/
theorem run_equalIn_bools8 {P : Program} (w : World) (d : Nat) (t e : TypeId) (i : TypeInfo) (ht : P.underlying t = some (.array 8 e)) (he : P.underlying e = some .bool) (hi : P.info? e = some i) (hs : i.size = 1) (u v : Nat → Bool) :
    (Op.equalIn (d + 1 + 1) t (.agg ((List.range 8).map fun k => Value.bool (u k)).toArray) (.agg ((List.range 8).map fun k => Value.bool (v k)).toArray)).run P w = .ok (allN (fun k => u k == v k) 8) w := by
  have hagg : (isAgg e).run P w = .ok false w := by
    unfold isAgg
    rw [Sem.run_bind, run_underlying he w]
    simp
  have hb : ∀ a b : Bool, (Op.equalIn (d + 1) e (.bool a) (.bool b)).run P w = .ok (a == b) w := fun a b => run_equalIn_bool w d e a b he
  have hsz : (sizeOf e).run P w = .ok 1 w := by simp [sizeOf, typeInfo, hi, hs]
  have hp : ∀ (f : Nat → Bool) (k : Nat), k < 8 → (part e ((List.range 8).map fun k => Value.bool (f k)).toArray (k * 1)).run P w = .ok (.bool (f k)) w := fun f k hk => by
    simp [part, Sem.run_bind, hagg, hk]
  have hU := hp u
  have hV := hp v
  clear hp
  generalize hD : d + 1 = D at *
  simp only [Op.equalIn, Sem.run_bind, run_underlying ht, Result.andThen_ok, hsz, Std.Legacy.Range.forIn_eq_forIn_range']
  generalize ((List.range 8).map fun k => Value.bool (u k)).toArray = U at *
  generalize ((List.range 8).map fun k => Value.bool (v k)).toArray = V at *
  have key : ∀ (ls : List Nat), (∀ k ∈ ls, k < 8) → Sem.run P (forIn (m := Sem) ls ((none, ()) : Option Bool × Unit) fun i __s => do
            let __do_lift ← part e U (i * 1)
            let __do_lift_1 ← part e V (i * 1)
            let __do_lift ← Op.equalIn D e __do_lift __do_lift_1
            if (!__do_lift) = true then pure (ForInStep.done (some false, ())) else pure (ForInStep.yield (none, ()))) w = .ok (if ls.all (fun k => u k == v k) then (none, ()) else (some false, ())) w := by
    intro ls
    induction ls with
    | nil => intro _; simp
    | cons k r ih =>
      intro hk
      rw [List.forIn_cons]
      simp only [Sem.run_bind, hU k (hk k (by simp)), hV k (hk k (by simp)), Result.andThen_ok, hb]
      cases hkk : (u k == v k) with
      | false => simp [hkk]
      | true =>
        simp only [Bool.not_true, Bool.false_eq_true, if_false, Sem.run_pure, Result.andThen_ok, List.all_cons, hkk, Bool.true_and]
        exact ih (fun x hx => hk x (by simp [hx]))
  rw [key _ (fun k hk => by rw [List.mem_range'] at hk; obtain ⟨i, h1, h2⟩ := hk; have h3 : i < 8 := h1; omega)]
  have e8 : allN (fun k => u k == v k) 8 = (List.range' 0 [:8].size).all (fun k => u k == v k) := by
    show allN (fun k => u k == v k) 8 = (List.range' 0 8).all (fun k => u k == v k)
    simp [allN, List.range', Bool.and_assoc]
  rw [e8]
  cases (List.range' 0 [:8].size).all (fun k => u k == v k) <;> simp
theorem used_neq (p q : Pg) (wx : World) : (binOp .neq 189 (.agg (usedRow p).toArray) (.agg (usedRow q).toArray)).run Tryz.prog wx = .ok (.bool (!allN (fun k => p.used k == q.used k) 8)) wx := by
  obtain ⟨i, hi, hs⟩ := Option.map_eq_some_iff.1 (by kernel_rfl : (Tryz.prog.info? 4).map (·.size) = some 1)
  rw [run_neq_struct, show (10000 : Nat) = 9998 + 1 + 1 from rfl, usedRow, usedRow, run_equalIn_bools8 wx 9998 _ 4 i Tryz.underlying189 Tryz.underlying4 hi hs p.used q.used]
  rfl
/-- Two pages that are equal in what is used. -/
def Pg.blkSame (x y : Pg) (k : Nat) : Bool := !x.used k || allN (fun j => x.cell (k * bsz x.cls + j) == y.cell (k * bsz x.cls + j)) (bsz x.cls)
def Pg.same (x y : Pg) : Bool := (x.cls == y.cls) && (decide (x.cls < 0) || (allN (fun k => x.used k == y.used k) 8 && allN (x.blkSame y) (bpt x.cls)))
theorem load_used (w : World) (b o : Nat) (p : Pg) (h : PgAt w b o p) (n : Nat) : (loadVar 189 ⟨b, o + 1, none⟩).run Tryz.prog (w.drewN n) = .ok (.agg (usedRow p).toArray) (w.drewN n) :=
  run_loadVar_agg (w.drewN n) b (o + 1) 189 (usedRow p) _ Tryz.underlying189 rfl (by kernel_rfl) (fun j v hv => by
    obtain ⟨h1, rfl⟩ := used_at hv
    exact h.used h1)

end Go.Proofs.YtkjocehdbpekjaaGreat
