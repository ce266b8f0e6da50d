/- append(nil, x...) as one step of a region that draws its order. No program is spoken of. -/
import Derived.Test.YtbjmgbbggbbidaaLibB
import Derived.Deep.RegionHeld3
namespace Go.Proofs.Ytbjmgbbggbbidaa
open Go.RowKit

theorem range_at {α : Type} {f : Nat → α} {n j : Nat} {v : α} (h : ((List.range n).map f)[j]? = some v) : j < n ∧ v = f j := by
  have hj : j < n := by have := (List.getElem?_eq_some_iff.1 h).1; simpa using this
  rw [List.getElem?_map, List.getElem?_range hj] at h
  simp at h
  exact ⟨hj, h.symm⟩
/-- Behind a step from w to w' the new block g holds news. -/
structure Made (w w' : World) (g : Nat) (news : List Value) : Prop where
  only : Only [] w w'
  row : ∃ T cs, Row w' g T cs
  cell : ∀ j v, news[j]? = some v → w'.cell? ⟨g, j, none⟩ = some v
  ge : w.heap.size ≤ g
  lt : g < w'.heap.size
theorem run_append_new {P : Program} (w : World) (t ty e : TypeId) (i : TypeInfo) (z : Value) (ht : P.underlying t = some (.slice e)) (hi : P.info? e = some i) (hz : i.zero = some z) (hs1 : i.size = 1)
    (ad : Addr) (m c : Nat) (news : List Value) (hl : news.length = m) (hnews : ∀ j v, news[j]? = some v → w.cell? (ad.add j) = some v) (h0 : 0 < m) (h63 : m ≤ 1099511627776) (h48 : i.bytes ≤ 16) :
    ∃ cap w', (Builtin.append_ #[t, t] ty #[.slice none 0 0, .slice (some ad) m c]).run P w = .ok (.slice (some ⟨w.heap.size, 0, none⟩) m cap) w' ∧ Made w w' w.heap.size news := by
  refine ⟨_, _, run_append_nil (P := P) w t ty e i z ht hi hz ad m c news (by rw [hl, hs1, Nat.mul_one]) hnews h0 (by omega) (by
    have := Nat.mul_le_mul h63 h48
    omega), ?_⟩
  have hn : ((w.drew.alloc (.cells (news.toArray ++ Builtin.zeroCells z.cells (grownCap w m 0 e - m)) e))).heap[w.heap.size]? = some (.cells (news.toArray ++ Builtin.zeroCells z.cells (grownCap w m 0 e - m)) e) := heap_alloc_new w.drew _
  refine ⟨((Only.refl _ _).drewN 1).alloc _, ⟨e, news ++ (Builtin.zeroCells z.cells (grownCap w m 0 e - m)).toList, ?_⟩, fun j v hv => ?_, Nat.le_refl _, ?_⟩
  · unfold Row
    rw [hn]
    simp
  · simp only [World.cell?]
    rw [hn]
    have hj : j < news.length := (List.getElem?_eq_some_iff.1 hv).1
    simp only [Array.getElem?_append, List.size_toArray, hj, if_true, List.getElem?_toArray]
    exact hv
  · exact (Array.getElem?_eq_some_iff.1 hn).1
theorem step_append_new {P : Program} {ops : Array Oper} {o : Oper} {a : Act} {w : World} {K : Act → World → Prop} {Q : Exit → Act → World → Prop} {E : Prop}
    (hg : o.guard = none) (s x : Operand) (t : TypeId) (hop : o.op = Op.call { callee := Callee.builtin Builtin.append, args := #[s, x], argTypes := #[t, t] })
    (e : TypeId) (i : TypeInfo) (z : Value) (ht : P.underlying t = some (.slice e)) (hi : P.info? e = some i) (hz : i.zero = some z) (hs1 : i.size = 1) (h48 : i.bytes ≤ 16)
    (hs : a.eval s = .slice none 0 0) (ad : Addr) (m c : Nat) (news : List Value) (hx : a.eval x = .slice (some ad) m c) (hl : news.length = m) (hnews : ∀ j v, news[j]? = some v → w.cell? (ad.add j) = some v) (h0 : 0 < m) (h63 : m ≤ 1099511627776)
    (hK : ∀ g cap w', Made w w' g news → K (a.put o.dst (.slice (some ⟨g, 0, none⟩) m cap)) w') :
    if Region.wanted o (yielded ops a.tmps) = true then Oper.wp P o a w K Q else E := by
  have hw : Region.wanted o (yielded ops a.tmps) = true := by simp [Region.wanted, hg]
  rw [if_pos hw]
  obtain ⟨cap, w', hrun, hm⟩ := run_append_new (P := P) w t o.type e i z ht hi hz hs1 ad m c news hl hnews h0 h63 h48
  unfold Oper.wp
  simp [execOp, hop, resolve, invoke, builtin, hs, hx, hrun, Result.andThen]
  exact hK _ _ _ hm
end Go.Proofs.Ytbjmgbbggbbidaa
