/- Lemmas of this claim. -/
import Derived.Test.YtkacgbigeobncaaGreatRows
import Derived.Test.YtkacgbigeobncaaGreatTaLib
import Derived.Test.YtkacgbigeobncaaGreatTaSModel
import Derived.Laws.AppendOwnNone
import Derived.Maps.RangeWalk
import Derived.Maps.Ext
import Derived.RangeFuncNested
import Derived.RangeFuncBound
import Derived.RangeFuncCalls
import Derived.RangeFuncLeaves
import Derived.RangeFuncBox
import Derived.Shelf.Abstract
import Derived.WalkKit
import Derived.OwnWalkIn
import Derived.TacticsInMore
import Derived.LoopNIn
import Derived.LoopIn
namespace Go.Proofs.YtkacgbigeobncaaGreat
open Go.RowKit
def Ints (w : World) (base : Nat) (v : Value) (l : List Int) : Prop := w.ownsRow base 3 1 v l.length (l.map (Value.int .i64))
theorem infoInt : (Tryz.prog.info? 3).map (fun i => (i.zero, i.size, i.bytes)) = some (some (.int .i64 0), 1, 8) := by kernel_rfl
theorem Ints.nil (w : World) (base : Nat) : Ints w base (.slice none 0 0) [] := World.ownsRow_nil _ _ _ _
theorem Ints.drewN {w : World} {base : Nat} {v : Value} {l : List Int} (h : Ints w base v l) (n : Nat) : Ints (w.drewN n) base v l := h
theorem Ints.drew {w : World} {base : Nat} {v : Value} {l : List Int} (h : Ints w base v l) : Ints w.drew base v l := h
theorem Ints.alloc {w : World} {base : Nat} {v : Value} {l : List Int} (h : Ints w base v l) (o : Obj) : Ints (w.alloc o) base v l := World.ownsRow.alloc h o
theorem Ints.base {w : World} {base b : Nat} {v : Value} {l : List Int} (h : Ints w base v l) (hb : b ≤ base) : Ints w b v l := by
  refine ⟨h.1, ?_⟩
  rcases h.2 with h2 | ⟨g, cap, cur, hv, hg, r⟩
  · exact .inl h2
  · exact .inr ⟨g, cap, cur, hv, Nat.le_trans hb hg, r⟩
theorem Ints.form {w : World} {base : Nat} {v : Value} {l : List Int} (h : Ints w base v l) :
    (v = .slice none 0 0 ∧ l = []) ∨ ∃ g cap, v = .slice (some ⟨g, 0, none⟩) l.length cap ∧ base ≤ g ∧ g < w.heap.size ∧ l.length ≤ cap ∧ (∀ i, i < l.length → w.cell? ⟨g, i, none⟩ = some (.int .i64 (gI l i))) := by
  rcases h.2 with ⟨h1, h2⟩ | ⟨g, cap, cur, hv, hg, hh, hc, hm, hs, ht⟩
  · exact .inl ⟨h1, List.eq_nil_of_length_eq_zero h2⟩
  · refine .inr ⟨g, cap, hv, hg, (Array.getElem?_eq_some_iff.1 hh).1, hc, fun i hi => ?_⟩
    have h3 := World.ownsRow.cells h (g := g) (by rw [hv]; rfl) i (.int .i64 (gI l i)) (by simp [hi, gI])
    rwa [show (⟨g, 0, none⟩ : Addr).add i = ⟨g, i, none⟩ by unfold Addr.add; split <;> simp_all] at h3
theorem Ints.len {w : World} {base : Nat} {v : Value} {l : List Int} (h : Ints w base v l) : ∃ a cap, v = .slice a l.length cap := by
  rcases h.form with ⟨h1, h2⟩ | ⟨g, cap, h1, _⟩
  · exact ⟨none, 0, by rw [h1, h2]; rfl⟩
  · exact ⟨_, cap, h1⟩
theorem Ints.kept {w w' : World} {base : Nat} {v : Value} {l : List Int} {F : List Nat} (h : Ints w base v l) (hg : Only F w w') (hF : ∀ x ∈ F, x < base) : Ints w' base v l := by
  refine ⟨h.1, ?_⟩
  rcases h.2 with h2 | ⟨g, cap, cur, hv, hb, hh, r⟩
  · exact .inl h2
  · exact .inr ⟨g, cap, cur, hv, hb, by rw [hg.block g (Array.getElem?_eq_some_iff.1 hh).1 (fun hm => by have := hF g hm; omega)]; exact hh, r⟩
theorem Ints.only {w w' : World} {base : Nat} {v : Value} {l : List Int} {F : List Nat} (h : Ints w base v l) (hg : Only F w w') (hF : ∀ k, v.ownBlock = some k → k ∉ F) : Ints w' base v l := by
  refine ⟨h.1, ?_⟩
  rcases h.2 with h2 | ⟨g, cap, cur, hv, hb, hh, r⟩
  · exact .inl h2
  · exact .inr ⟨g, cap, cur, hv, hb, by rw [hg.block g (Array.getElem?_eq_some_iff.1 hh).1 (hF g (by rw [hv]; rfl))]; exact hh, r⟩
theorem Ints.own {w : World} {base : Nat} {v : Value} {l : List Int} (h : Ints w base v l) : ∀ k, v.ownBlock = some k → base ≤ k ∧ k < w.heap.size := World.ownsRow.lt h
theorem Ints.take {w : World} {base g m cap n : Nat} {l : List Int} (h : Ints w base (.slice (some ⟨g, 0, none⟩) m cap) l) (hn : n ≤ l.length) : Ints w base (.slice (some ⟨g, 0, none⟩) n cap) (l.take n) := by
  rcases h.2 with ⟨h1, _⟩ | ⟨g', cap', cur, hv, hg, hh, hc, hm, hs, ht⟩
  · simp at h1
  · simp only [Value.slice.injEq, Option.some.injEq, Addr.mk.injEq] at hv
    obtain ⟨⟨rfl, _⟩, _, rfl⟩ := hv
    have e : (l.take n).length = n := by rw [List.length_take]; omega
    refine ⟨by simp, .inr ⟨g, cap, cur, by rw [e], hg, hh, by omega, hm, hs, ?_⟩⟩
    rw [e, List.map_take, ← ht, List.take_take]
    congr 1
    omega
theorem append_ints {w : World} {ops : Array Oper} {rest : List Oper} {o : Oper} {a : Act} {Q : Exit → Act → World → Prop} (hgd : o.guard = none) (s x : Operand)
    (ho : o.op = .call { callee := .builtin .append, args := #[s, x], argTypes := #[22, 22] })
    (base : Nat) (v : Value) (l : List Int) (hs : a.eval s = v) (hown : Ints w base v l)
    (ad : Addr) (m c : Nat) (news : List Int) (hx : a.eval x = .slice (some ad) m c) (hl : news.length = m) (hnews : ∀ j u, news[j]? = some u → w.cell? (ad.add j) = some (.int .i64 u))
    (hbytes : (l.length + m) * 8 ≤ 140737488355328) (hbase : base ≤ w.heap.size)
    (h : ∀ v' w', Ints w' base v' (l ++ news) → Only v.ownBlock.toList w w' → (v' = .slice none 0 0 ↔ v = .slice none 0 0 ∧ m = 0) → (v'.ownBlock = v.ownBlock ∨ v'.ownBlock = some w.heap.size) → wpList Tryz.prog ops Q rest (a.put o.dst v') w') : wpList Tryz.prog ops Q (o :: rest) a w := by
  obtain ⟨i0, hi, hz0, hz1, hz2⟩ := info_parts infoInt
  refine wpList_append_own2 hgd s x 22 ho base 3 i0 (.int .i64 0) 1 8 Tryz.underlying22 hi hz0 hz1 hz2 rfl (by decide) v l.length _ hs hown ad m c (news.map (Value.int .i64)) hx (by simp [hl])
    (fun j u hu => ?_) (fun u hu => ?_) (by simp only [maxLen]; omega) hbytes hbase (fun v' w' h1 h2 h3 h5 => h v' w' ?_ ?_ h3 h5)
  · simp only [List.getElem?_map, Option.map_eq_some_iff] at hu
    obtain ⟨y, hy, rfl⟩ := hu
    exact hnews j y hy
  · simp only [List.mem_map] at hu
    obtain ⟨y, _, rfl⟩ := hu
    rfl
  · unfold Ints
    rw [List.length_append, hl, List.map_append]
    exact h1
  · exact (Only.refl _ _).grown h2 (fun k hk => .inl (by rw [hk]; simp))
theorem append_int1 {w : World} {ops : Array Oper} {rest : List Oper} {o : Oper} {a : Act} {Q : Exit → Act → World → Prop} (hgd : o.guard = none) (s x : Operand)
    (ho : o.op = .call { callee := .builtin .append, args := #[s, x], argTypes := #[22, 22] })
    (base : Nat) (v : Value) (l : List Int) (hs : a.eval s = v) (hown : Ints w base v l)
    (b : Nat) (y : Int) (hx : a.eval x = .slice (some ⟨b, 0, none⟩) 1 1) (hnews : w.cell? ⟨b, 0, none⟩ = some (.int .i64 y))
    (hbytes : l.length + 1 ≤ 17592186044416) (hbase : base ≤ w.heap.size)
    (h : ∀ v' w', Ints w' base v' (l ++ [y]) → Only v.ownBlock.toList w w' → (v'.ownBlock = v.ownBlock ∨ v'.ownBlock = some w.heap.size) → wpList Tryz.prog ops Q rest (a.put o.dst v') w') : wpList Tryz.prog ops Q (o :: rest) a w := by
  refine append_ints hgd s x ho base v l hs hown ⟨b, 0, none⟩ 1 1 [y] hx rfl (fun j u hu => ?_) (by omega) hbase (fun v' w' h1 h2 _ h5 => h v' w' h1 h2 h5)
  cases j with
  | zero => simp at hu; subst hu; exact hnews
  | succ j => simp at hu
theorem made_ints (n : Nat) : (madeCells (Value.int .i64 0).cells (n * 1)).toList = List.replicate n (Value.int .i64 0) := by
  apply List.ext_getElem
  · simp [madeCells]
  · intro i h1 h2
    simp [madeCells, Value.cells, Nat.mod_one]
theorem Ints.made (w : World) : Ints (w.alloc (.cells #[] 3)) w.heap.size (.slice (some ⟨w.heap.size, 0, none⟩) 0 0) [] :=
  World.ownsRow_made w #[] 0 (Nat.le_refl _) (by simp [maxLen]) rfl
set_option maxHeartbeats 400000 in
theorem clone_ints (w : World) (b n c : Nat) (l : List Int) (hl : l.length = n) (hn : n ≤ 17592186044416) (hc : ∀ i, i < n → w.cell? ⟨b, i, none⟩ = some (.int .i64 (gI l i))) :
    Calls Tryz.prog 22 #[.slice (some ⟨b, 0, none⟩) n c] w fun e w' => ∃ v, e = .returned v ∧ Ints w' w.heap.size v l ∧ Only [] w w' ∧ v ≠ .slice none 0 0 := by
  have hq := fun (wx : World) => Lib.run_eql_slice_nil (P := Tryz.prog) wx 22 3 (some ⟨b, 0, none⟩) n c 0 0 Tryz.underlying22
  have HL := Lib.hid hl
  have HC := Lib.hid hc
  clear hl hc
  refine calls_abs fun R hR => ?_
  go_enter Tryz.func22, Tryz.ntmps22
  go_wp2_with (at_builtin; refine append_ints rfl _ _ rfl w.heap.size _ _ rfl (Ints.made w) ⟨b, 0, none⟩ n c l rfl ?_ ?_ ?_ ?_ ?_)
  · exact HL.out
  · intro j u hu
    have hj : j < n := by have := (List.getElem?_eq_some_iff.1 hu).1; have := HL.out; omega
    have h1 := HC.out j hj
    rw [show (⟨b, 0, none⟩ : Addr).add j = ⟨b, j, none⟩ by unfold Addr.add; split <;> simp_all]
    rw [World.cell?_alloc_past _ _ _ (World.block_lt_of_cell? w _ h1), h1, gI, hu]
    rfl
  · simp; omega
  · simp
  · intro v w1 hv ho hn hblk
    have HN : Hid (v ≠ .slice none 0 0) := by intro e; simp [e] at hn
    clear hn
    go_wp2_with fail
    exact hR.out _ _ ⟨v, rfl, hv, ((Only.refl _ _).alloc _).trans ho (fun x hx => .inr (by simp [Value.ownBlock] at hx; omega)), HN.out⟩
end Go.Proofs.YtkacgbigeobncaaGreat
namespace Go.Proofs.YtkacgbigeobncaaGreat
open Go.RowKit
set_option linter.unusedVariables false
def Read (w : World) (v : Value) (l : List Int) : Prop :=
  (∃ b o c, v = .slice (some ⟨b, o, none⟩) l.length c ∧ ∀ i, i < l.length → w.cell? ⟨b, o + i, none⟩ = some (.int .i64 (gI l i))) ∨ (∃ oa c, v = .slice oa 0 c ∧ l = [])
theorem Ints.read {w : World} {base : Nat} {v : Value} {l : List Int} (h : Ints w base v l) : Read w v l := by
  rcases h.form with ⟨h1, h2⟩ | ⟨g, cap, h1, _, _, _, h2⟩
  · exact .inr ⟨none, 0, h1, h2⟩
  · exact .inl ⟨g, 0, cap, h1, fun i hi => by rw [Nat.zero_add]; exact h2 i hi⟩
theorem Read.len {w : World} {v : Value} {l : List Int} (h : Read w v l) : ∃ a c, v = .slice a l.length c := by
  rcases h with ⟨b, o, c, h1, _⟩ | ⟨oa, c, h1, h2⟩
  · exact ⟨_, _, h1⟩
  · exact ⟨oa, c, by rw [h1, h2]; rfl⟩
theorem Read.only {w w' : World} {v : Value} {l : List Int} {F : List Nat} (h : Read w v l) (ho : Only F w w') (hF : ∀ k, v.ownBlock = some k → k ∉ F) : Read w' v l := by
  rcases h with ⟨b, o, c, h1, h2⟩ | h1
  · exact .inl ⟨b, o, c, h1, fun i hi => ho.cell (h2 i hi) (hF b (by rw [h1]; rfl))⟩
  · exact .inr h1
theorem Read.lt {w : World} {v : Value} {l : List Int} (h : Read w v l) (h0 : 0 < l.length) {k : Nat} (hk : v.ownBlock = some k) : k < w.heap.size := by
  rcases h with ⟨b, o, c, h1, h2⟩ | ⟨oa, c, h1, h2⟩
  · rw [h1] at hk; cases hk; exact World.block_lt_of_cell? w _ (h2 0 h0)
  · rw [h2] at h0; simp at h0
end Go.Proofs.YtkacgbigeobncaaGreat
namespace Go.Proofs.YtkacgbigeobncaaGreat
open Go.RowKit
set_option maxHeartbeats 1600000
set_option maxRecDepth 100000
set_option linter.unusedVariables false
open Go.Maps Go.WideShapes in
section
end
end Go.Proofs.YtkacgbigeobncaaGreat
namespace Go.Proofs.YtkacgbigeobncaaGreat
open Go.RowKit Go.Shelf
set_option linter.unusedVariables false

attribute [local go_sem] Oper.semAt_some
def upto {α : Type} (f : Nat → α) (k : Nat) : List α := (List.range k).map f
theorem upto_succ {α : Type} (f : Nat → α) (k : Nat) : upto f (k + 1) = upto f k ++ [f k] := by simp [upto, List.range_succ]
theorem upto_length {α : Type} (f : Nat → α) (k : Nat) : (upto f k).length = k := by simp [upto]
def backAt (zs : List Int) (j : Nat) : Int × Int := (((zs.length - 1 - j : Nat) : Int), gI zs (zs.length - 1 - j))
set_option maxRecDepth 100000 in
set_option maxHeartbeats 2000000 in
theorem back1_in (F : Fence) (n : Nat) (h8 : F.fn 48) (hro : F.round = none) (hn : 1 ≤ n) (l Bs n₀ b cap : Nat) (zs : List Int) (hreach : zs.length ≤ 1000000) (hb : b < n₀) (J Jx : List (Int × Int) → World → Prop)
    (hY : ∀ pre x W, J pre W → pre.length < zs.length → YieldAt F (n - 1) Tryz.prog l #[.int .i64 x.1, .int .i64 x.2] W fun e W' =>
      (e = .returned (.bool true) ∧ J (pre ++ [x]) W' ∧ Below n₀ W W') ∨ (e = .returned (.bool false) ∧ Jx (pre ++ [x]) W'))
    (W : World) (hBs : W.cell? ⟨Bs, 0, none⟩ = some (.slice (some ⟨b, 0, none⟩) zs.length cap)) (hB2 : Bs < n₀) (hc : ∀ j, j < zs.length → W.cell? ⟨b, j, none⟩ = some (.int .i64 (gI zs j))) (h0 : J [] W) :
    CallsIn F n Tryz.prog 48 #[.func (.yield l) #[] #[], .pointer (some ⟨Bs, 0, none⟩)] W fun e W' => (∃ v, e = .returned v) ∧
      ((∃ ys, ys = upto (backAt zs) zs.length ∧ J ys W') ∨ (∃ pre, (∃ k, k ≤ zs.length ∧ pre = upto (backAt zs) k) ∧ Jx pre W')) := by
  refine callsIn_of_wp Tryz.func48 rfl h8 ?_ hro
  simp only [Tryz.ntmps48, List.size_toArray, List.length_cons, List.length_nil, Nat.reduceAdd, Nat.reduceSub, Array.replicate_succ, Array.replicate_zero, List.push_toArray, List.append_toArray, List.nil_append, List.cons_append]
  gi_wp2
  gi_loopw [3] (fun i wr => ∃ k : Nat, k ≤ zs.length ∧ i = .int .i64 ((zs.length : Int) - 1 - k) ∧ J (upto (backAt zs) k) wr ∧ Below n₀ W wr)
    (fun i _ => (intOf i + 1).toNat)
  case atStart => exact ⟨0, Nat.zero_le _, by simp, h0, Below.refl _ _⟩
  case round =>
    obtain ⟨k, hk, rfl, hJs, hnx⟩ := hrel
    have hcs : wr.cell? ⟨Bs, 0, none⟩ = some (.slice (some ⟨b, 0, none⟩) zs.length cap) := (hnx.cell (p := ⟨Bs, 0, none⟩) hB2).trans hBs
    by_cases hlt : k < zs.length
    · obtain ⟨i, hi⟩ : ∃ i : Nat, i = zs.length - 1 - k := ⟨_, rfl⟩
      have ei : (zs.length : Int) - 1 - k = i := by omega
      have hil : i < zs.length := by omega
      have hcx : wr.cell? ⟨b, i, none⟩ = some (.int .i64 (gI zs i)) := (hnx.cell (p := ⟨b, i, none⟩) hb).trans (hc i hil)
      have hyy := hY _ ((i : Int), gI zs i) wr hJs (by rw [upto_length]; exact hlt)
      rw [ei]
      have hbk : Hid (backAt zs k = ((i : Int), gI zs i)) := by show backAt zs k = _; unfold backAt; rw [hi]
      have HI := Lib.hid hi
      have HE := Lib.hid ei
      clear hi ei
      obtain ⟨fn, tmps, assign, body, hy, hR⟩ := hyy
      dsimp only at hy
      gi_wp2
      refine hR.mono ?_
      rintro e W3 (⟨rfl, hJ3, hk3⟩ | ⟨rfl, hJx3⟩)
      · gi_wp2
        go_roundw
        case rel => exact ⟨k + 1, by omega, by have := HE.out; congr 1; omega, by rw [upto_succ, hbk.out]; exact hJ3, hnx.trans hk3⟩
        case measure => simp only [intOf]; omega
      · gi_wp2
        refine bodyPost_ret (results_none rfl _ _ _) rfl ?_
        exact ⟨⟨_, rfl⟩, .inr ⟨_, ⟨k + 1, by omega, by rw [upto_succ, hbk.out]⟩, hJx3⟩⟩
    · obtain rfl : k = zs.length := by omega
      gi_wp2
      go_end0
      exact ⟨⟨_, rfl⟩, .inl ⟨_, rfl, hJs⟩⟩
theorem backward_in (F : Fence) (n : Nat) (h6 : F.fn 28) (hro : F.round = none) (a : Option Addr) (len cap : Nat) (w : World) :
    CallsIn F n Tryz.prog 28 #[.slice a len cap] w fun e w' => e = .returned (.func (.func 48) #[] #[.pointer (some ⟨w.heap.size, 0, none⟩)]) ∧ w' = w.alloc (.cells #[.slice a len cap] 22) := by
  refine callsIn_of_wp Tryz.func28 rfl h6 ?_ hro
  simp only [Tryz.ntmps28, List.size_toArray, List.length_cons, List.length_nil, Nat.reduceAdd, Nat.reduceSub, Array.replicate_succ, Array.replicate_zero, List.push_toArray, List.append_toArray, List.nil_append, List.cons_append]
  gi_wp2
  go_ret
  exact ⟨rfl, rfl⟩
theorem back_stops (F : Fence) (n : Nat) (h8 : F.fn 48) (hro : F.round = none) (hn : 1 ≤ n) (Bs n₀ b cap : Nat) (zs : List Int) (hreach : zs.length ≤ 1000000) (w : World) (hBs : Bs < w.heap.size) (hn₀ : n₀ ≤ w.heap.size) (hB2 : Bs < n₀) (hb : b < n₀)
    (hc : w.cell? ⟨Bs, 0, none⟩ = some (.slice (some ⟨b, 0, none⟩) zs.length cap)) (hcs : ∀ j, j < zs.length → w.cell? ⟨b, j, none⟩ = some (.int .i64 (gI zs j))) :
    SeqStopsK F n Tryz.prog 48 #[.pointer (some ⟨Bs, 0, none⟩)] (fun x : Int × Int => #[Value.int .i64 x.1, Value.int .i64 x.2]) (Below n₀) (fun ys => ys = upto (backAt zs) zs.length)
      (fun pre => ∃ k, k ≤ zs.length ∧ pre = upto (backAt zs) k) zs.length w := fun l J Jx W hW _ _ hY h0 =>
  back1_in F n h8 hro hn l Bs n₀ b cap zs hreach hb J Jx hY W ((hW.cell (p := ⟨Bs, 0, none⟩) hBs).trans hc) hB2 (fun j hj => (hW.cell (p := ⟨b, j, none⟩) (Nat.lt_of_lt_of_le hb hn₀)).trans (hcs j hj)) h0
theorem back_last {zs : List Int} {k : Nat} (hk : k < zs.length) (h1 : 2 ≤ (backAt zs k).2) (h2 : ∀ p ∈ upto (backAt zs) k, p.2 < 2) : under zs = (backAt zs k).2 := by
  refine under_some (k := zs.length - 1 - k) (by omega) h1 (fun j hj hj2 => ?_)
  have := h2 (backAt zs (zs.length - 1 - j)) (by simp only [upto, List.mem_map, List.mem_range]; exact ⟨_, by omega, rfl⟩)
  unfold backAt at this
  rw [show zs.length - 1 - (zs.length - 1 - j) = j by omega] at this
  exact this
theorem back_none {zs : List Int} (h2 : ∀ p ∈ upto (backAt zs) zs.length, p.2 < 2) : under zs = 1 := by
  refine under_none (fun j hj => ?_)
  have := h2 (backAt zs (zs.length - 1 - j)) (by simp only [upto, List.mem_map, List.mem_range]; exact ⟨_, by omega, rfl⟩)
  unfold backAt at this
  rw [show zs.length - 1 - (zs.length - 1 - j) = j by omega] at this
  exact this
set_option maxRecDepth 100000 in
set_option maxHeartbeats 2000000 in
theorem nearest_in (F : Fence) (n : Nat) (h4 : F.fn 17) (h6 : F.fn 28) (h8 : F.fn 48) (hro : F.round = none) (hn : 3 ≤ n) (b cap : Nat) (zs : List Int) (hreach : zs.length ≤ 1000000) (w : World)
    (hcs : ∀ j, j < zs.length → w.cell? ⟨b, j, none⟩ = some (.int .i64 (gI zs j))) (hb : b < w.heap.size) :
    CallsIn F n Tryz.prog 17 #[.slice (some ⟨b, 0, none⟩) zs.length cap] w fun e W' => e = .returned (.int .i64 (under zs)) ∧ Below w.heap.size w W' := by
  have h1 : 1 ≤ n := by omega
  refine callsIn_of_wp_marks Tryz.func17 rfl h4 ?_ hro
  simp only [Tryz.ntmps17, List.size_toArray, List.length_cons, List.length_nil, Nat.reduceAdd, Nat.reduceSub, Array.replicate_succ, Array.replicate_zero, List.push_toArray, List.append_toArray, List.nil_append, List.cons_append]
  gi_wp2_with (gi_at_call 28; refine (backward_in F (n - 1) h6 hro _ _ _ _).mono ?_; rintro e w' ⟨rfl, rfl⟩)
  have bR := Boxed.new w 3 (.int .i64 0)
  have bN := Boxed.new (w.alloc (.cells #[.int .i64 0] 3)) 22 (.slice (some ⟨b, 0, none⟩) zs.length cap)
  rw [World.size_alloc] at bN
  have hB0 : Below w.heap.size w ((w.alloc (.cells #[.int .i64 0] 3)).alloc (.cells #[.slice (some ⟨b, 0, none⟩) zs.length cap] 22)) := ((Below.refl _ w).alloc (Nat.le_refl _) _).alloc (by simp) _
  refine wpIn_rangeFunc_ownG hro h1 (gf := 48) (lb := #[.pointer (some ⟨w.heap.size + 1, 0, none⟩)]) rfl h8 (enters_of Tryz.func48 (by kernel_rfl) rfl)
    (back_stops F (n - 1) h8 hro (by omega) (w.heap.size + 1) (w.heap.size + 2) b cap zs hreach _ (by simp) (by simp) (by omega) (by omega) bN.cell (fun j hj => (hB0.cell (p := ⟨b, j, none⟩) hb).trans (hcs j hj))) belowK_t (belowK_b (by simp)) (Below.refl _ _) (fun _ => rfl)
    (fun pre W => ((∀ p ∈ pre, p.2 < 2) ∧ W.cell? ⟨w.heap.size, 0, none⟩ = some (.int .i64 0) ∧ W.frozen? ⟨w.heap.size, 0, none⟩ = false) ∧ Below w.heap.size w W)
    (fun c pre W => (c = .ret ∧ ∃ ini last, pre = ini ++ [last] ∧ (∀ p ∈ ini, p.2 < 2) ∧ 2 ≤ last.2 ∧ W.cell? ⟨w.heap.size, 0, none⟩ = some (.int .i64 last.2)) ∧ Below w.heap.size w W)
    (OwnFrom.and (Own.from (fun s A B row hs hg hr => ⟨hs.1, cell_kept hs.2.1 hg hr, (frozen_kept hs.2.1 hg hr).trans hs.2.2⟩) _) (ownFrom_below (Nat.le_refl _) (by simp; omega)))
    (fun c => OwnFrom.and (Own.from (fun s A B row hs hg hr => by obtain ⟨hc, ini, last, e1, e2, e3, e4⟩ := hs; exact ⟨hc, ini, last, e1, e2, e3, cell_kept e4 hg hr⟩) _) (ownFrom_below (Nat.le_refl _) (by simp; omega)))
    ⟨⟨by simp, (bR.alloc _).cell, (bR.alloc _).frozen⟩, hB0⟩
    (fun x => { tmps := #[.slice (some ⟨b, 0, none⟩) zs.length cap, undef, .pointer (some ⟨w.heap.size, 0, none⟩), undef, .int .i64 x.2, .slice (some ⟨b, 0, none⟩) zs.length cap, .func (.func 48) #[] #[.pointer (some ⟨w.heap.size + 1, 0, none⟩)], .int .i64 x.1, .int .i64 x.2, undef, undef, undef], defers := [] }) ?assign ?body ?done ?stop
  case assign =>
    intro l x W K hK
    gi_wp2
    exact hK
  case body =>
    rintro l pre x W ⟨⟨hp, hcr, hfr⟩, hB⟩ _
    gi_wp2
    · have hx : 2 ≤ x.2 := by assumption
      exact ⟨(KeepsOthers.setCell _ _ _).from _, ⟨rfl, pre, x, rfl, hp, hx, World.cell?_setCell_same' _ _ _ (by rw [hcr]; rfl)⟩, hB.setCell (p := ⟨w.heap.size, 0, none⟩) (Nat.le_refl _) _⟩
    · have hx : x.2 < 2 := by assumption
      exact ⟨KeepsFrom.refl _ _, Below.refl _ _, ⟨fun p hp' => (List.mem_append.1 hp').elim (hp p) (fun e => by simp at e; subst e; exact hx), hcr, hfr⟩, hB⟩
  case done =>
    rintro D ys W hD rfl ⟨⟨hne, hcr, hfr⟩, hB⟩ hK
    gi_wp2
    have hK' := (KeepsOthers.setCell W ⟨w.heap.size, 0, none⟩ (.int .i64 1)).same D _ hK rfl
    refine ⟨by simp, .inl ⟨_, _, rfl, run_takeDeferred hK', ?_⟩⟩
    have hc5 := cell_kept (World.cell?_setCell_same' W ⟨w.heap.size, 0, none⟩ (.int .i64 1) (by rw [hcr]; rfl)) (grownBy_putObj' _ D (.deferred none)) (fun r e => by cases e; exact ⟨_, hK', rfl⟩)
    refine ⟨.int .i64 1, ?_, by rw [back_none hne], (hB.setCell (p := ⟨w.heap.size, 0, none⟩) (Nat.le_refl _) _).trans (belowK_b (w := w) (Nat.le_refl _) _ D _ _ (by simp at hD; omega) hK' rfl rfl)⟩
    simp [results, Tryz.f17, go_sem, hc5]
  case stop =>
    rintro D c pre W hD ⟨k, hk, rfl⟩ ⟨⟨rfl, ini, last, e1, e2, e3, hcr⟩, hB⟩ hK
    gi_wp2
    refine ⟨by simp, .inl ⟨_, _, rfl, run_takeDeferred hK, ?_⟩⟩
    have hc5 := cell_kept hcr (grownBy_putObj' _ D (.deferred none)) (fun r e => by cases e; exact ⟨_, hK, rfl⟩)
    obtain ⟨k', rfl⟩ : ∃ k', k = k' + 1 := by
      cases k with
      | zero => simp [upto] at e1
      | succ k' => exact ⟨k', rfl⟩
    rw [upto_succ] at e1
    obtain ⟨rfl, e5⟩ := List.append_inj' e1 rfl
    obtain rfl : backAt zs k' = last := by simpa using e5
    refine ⟨.int .i64 (backAt zs k').2, ?_, by rw [back_last (by omega) e3 e2], hB.trans (belowK_b (w := w) (Nat.le_refl _) W D _ _ (by simp at hD; omega) hK rfl rfl)⟩
    simp [results, Tryz.f17, go_sem, hc5]
theorem nearest_any (w : World) (b cap : Nat) (zs : List Int) (hreach : zs.length ≤ 1000000)
    (hcs : ∀ j, j < zs.length → w.cell? ⟨b, j, none⟩ = some (.int .i64 (gI zs j))) (hb : b < w.heap.size) :
    Calls Tryz.prog 17 #[.slice (some ⟨b, 0, none⟩) zs.length cap] w fun e W' => e = .returned (.int .i64 (under zs)) ∧ Below w.heap.size w W' :=
  (callsIn_wide (n := 3)).1 (nearest_in Fence.wide 3 trivial trivial trivial rfl (by omega) b cap zs hreach w hcs hb)
end Go.Proofs.YtkacgbigeobncaaGreat
