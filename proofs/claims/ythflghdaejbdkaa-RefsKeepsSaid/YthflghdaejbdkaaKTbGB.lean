/- Lemmas of this claim. -/
import Derived.Test.YthflghdaejbdkaaKTbPC
import Derived.Test.YthflghdaejbdkaaKTbGood
import Derived.Test.YthflghdaejbdkaaKRObjP
import Derived.Deep.RegionLaw
namespace Go.Proofs.Ythflghdaejbdkaa
open Go.RowKit Go.Maps
set_option maxHeartbeats 3200000
set_option maxRecDepth 100000
set_option linter.unusedVariables false
section
variable {l : List Asn} {i j k q r b : Nat} {m : Mk} {t : Tb} {w0 w w' : World}
theorem TrAt.rest {ev qv wv : Value} {nx : Nat} {wl : List Bool} (h : TrAt w b ev qv wv nx wl t) (ho : Only [b] w w') : Ents w' 47 0 ev t.ents ∧ Ints w' 0 qv t.q ∧ Bls w' 0 wv wl :=
  ⟨h.ents.only ho (fun g hg x => (h.n1 g hg).1 (by simpa using x)), h.q.only ho (fun g hg x => (h.n2 g hg).1 (by simpa using x)), h.wh.only ho (fun g hg x => h.n3 (by simp at x; rw [← x]; exact hg))⟩
theorem NowIs.self (t : Tb) : NowIs t t.nx := ⟨fun _ => rfl, fun _ => rfl, fun _ => rfl⟩
end
end Go.Proofs.Ythflghdaejbdkaa
namespace Go.Proofs.Ythflghdaejbdkaa
open Go.RowKit Go.Maps
set_option maxHeartbeats 6400000
set_option maxRecDepth 100000
set_option linter.unusedVariables false
theorem rtnew_any (w : World) : Calls Try.prog 17 #[] w (fun e w' => e = .returned (.pointer (some ⟨w.heap.size, 0, none⟩)) ∧ w' = w.alloc (.cells #[.slice none 0 0, .slice none 0 0, .int .i64 0, .int .i64 0, .slice none 0 0] 92)) := by
  refine calls_abs fun R hR => ?_
  go_enter Try.func17, Try.ntmps17
  go_wp2_with fail
  exact hR.out _ _ ⟨rfl, rfl⟩
theorem tr_born (w : World) : Born w (w.alloc (.cells #[.slice none 0 0, .slice none 0 0, .int .i64 0, .int .i64 0, .slice none 0 0] 92)) (TrA w.heap.size Tb.new) :=
  ⟨(Only.refl [] w).alloc _, fun k => k = w.heap.size ∨ (Value.slice none 0 0).ownBlock = some k ∨ (Value.slice none 0 0).ownBlock = some k ∨ (Value.slice none 0 0).ownBlock = some k, ⟨.slice none 0 0, .slice none 0 0, .slice none 0 0, 0, [], ⟨⟨_, Row.new w _ _⟩, Ents.nil _ _ _, Ints.nil _ _, Bls.nil _ _, NowIs.self _, ⟨Nat.zero_le _, fun h => by simp [Tb.new] at h⟩, fun g hg => by (cases hg), fun g hg => by (cases hg), fun e => by (cases e)⟩, fun k => Iff.rfl⟩, fun k hk => by
    rcases hk with hk | hk | hk | hk
    · omega
    · cases hk
    · cases hk
    · cases hk⟩
theorem infoRe : (Try.prog.info? 47).map (fun i => (i.zero, i.size, i.bytes)) = some (some (.agg #[.int .i64 0, .int .i64 0, .int .i64 0]), 3, 24) := by kernel_rfl
theorem append_re1 {w : World} {ops : Array Oper} {rest : List Oper} {o : Oper} {a : Act} {Q : Exit → Act → World → Prop} (hgd : o.guard = none) (s x : Operand)
    (ho : o.op = .call { callee := .builtin .append, args := #[s, x], argTypes := #[41, 41] })
    (v : Value) (l : List En) (hs : a.eval s = v) (hown : Ents w 47 0 v l)
    (bk U : Nat) (y : En) (hx : a.eval x = .slice (some ⟨bk, 0, none⟩) 1 1) (hnews : Row w bk U (enC y)) (hbytes : l.length ≤ 1000000)
    (h : ∀ v' w', Ents w' 47 0 v' (l ++ [y]) → Only v.ownBlock.toList w w' → (v'.ownBlock = v.ownBlock ∨ v'.ownBlock = some w.heap.size) → wpList Try.prog ops Q rest (a.put o.dst v') w') : wpList Try.prog ops Q (o :: rest) a w := by
  obtain ⟨i0, hi, hz0, hz1, hz2⟩ := info_parts infoRe
  refine wpList_append_own2 hgd s x 41 ho 0 47 i0 _ 3 24 Try.underlying41 hi hz0 hz1 hz2 rfl (by decide) v l.length _ hs hown ⟨bk, 0, none⟩ 1 1 (enC y) hx (by simp [enC])
    (fun j u hu => ?_) (fun u hu => ?_) (by simp only [maxLen]; omega) (by omega) (Nat.zero_le _) (fun v' w' h1 h2 h3 h5 => h v' w' ?_ ?_ h5)
  · rw [addr_add]; exact hnews.cell _ (by rw [Nat.zero_add]; exact hu)
  · simp only [enC, List.mem_cons, List.not_mem_nil, or_false] at hu
    rcases hu with rfl | rfl | rfl <;> rfl
  · unfold Ents
    rw [List.length_append, enCells_app]
    have : enCells [y] = enC y := by simp [enCells]
    rw [this]
    exact h1
  · exact (Only.refl _ _).grown h2 (fun k hk => .inl (by rw [hk]; simp))
section
variable {l : List Asn} {i j k q r b : Nat} {m : Mk} {t : Tb} {w0 w w' : World} {ev qv wv : Value} {nx : Nat} {wl : List Bool}
end
end Go.Proofs.Ythflghdaejbdkaa
