/- QueueOrders: what the law's loop holds. -/
import Derived.Test.YtemdkffkpdhciaaQSteps
import Derived.Test.YtemdkffkpdhciaaQLawB
import Derived.Test.YtemdkffkpdhciaaPlayE
import Derived.Test.YtemdkffkpdhciaaOrdM
namespace Go.Proofs.Ytemdkffkpdhciaa
open Go.RowKit
set_option linter.unusedVariables false

structure ORel (w wr : World) (q c sb wb : Nat) (v1 v2 : Value) (s : QSt) (s0 s1 : Nat) (w0 w1 : Bool) (P T : List Int) : Prop where
  hq : QRep wr q c s
  ok : s.ok
  hs : Row wr sb 32 [.int .i64 s0, .int .i64 s1]
  hw : Row wr wb 33 [.bool w0, .bool w1]
  fP : Ints wr w.heap.size v1 P
  fT : Ints wr w.heap.size v2 T
  ne : sb ≠ q ∧ sb ≠ c ∧ wb ≠ q ∧ wb ≠ c ∧ sb ≠ wb
  d1 : ∀ k, v1.ownBlock = some k → k ≠ q ∧ k ≠ c ∧ k ≠ sb ∧ k ≠ wb
  d2 : ∀ k, v2.ownBlock = some k → k ≠ q ∧ k ≠ c ∧ k ≠ sb ∧ k ≠ wb
  d12 : ∀ k, v1.ownBlock = some k → v2.ownBlock ≠ some k
  b : w.heap.size ≤ q ∧ w.heap.size ≤ c ∧ w.heap.size ≤ sb ∧ w.heap.size ≤ wb
  o : Only [] w wr
section
variable {w wr w1' : World} {q c sb wb : Nat} {v1 v2 : Value} {s : QSt} {s0 s1 : Nat} {w0 w1 : Bool} {P T : List Int}
theorem ORel.drewN (h : ORel w wr q c sb wb v1 v2 s s0 s1 w0 w1 P T) (n : Nat) : ORel w (wr.drewN n) q c sb wb v1 v2 s s0 s1 w0 w1 P T :=
  ⟨h.hq.drewN n, h.ok, h.hs.drewN n, h.hw.drewN n, h.fP.drewN n, h.fT.drewN n, h.ne, h.d1, h.d2, h.d12, h.b, h.o.drewN n⟩
theorem ORel.only (h : ORel w wr q c sb wb v1 v2 s s0 s1 w0 w1 P T) (o : Only [] wr w1') : ORel w w1' q c sb wb v1 v2 s s0 s1 w0 w1 P T :=
  ⟨h.hq.only o (by simp) (by simp), h.ok, o.row h.hs (by simp), o.row h.hw (by simp), h.fP.only o (by simp), h.fT.only o (by simp), h.ne, h.d1, h.d2, h.d12, h.b, h.o.trans o (by simp)⟩
theorem ORel.step (h : ORel w wr q c sb wb v1 v2 s s0 s1 w0 w1 P T) {s' : QSt} (g : QRep w1' q c s') (k : s'.ok) (o : Only [q, c] wr w1') : ORel w w1' q c sb wb v1 v2 s' s0 s1 w0 w1 P T := by
  obtain ⟨n1, n2, n3, n4, n5⟩ := h.ne
  obtain ⟨b1, b2, b3, b4⟩ := h.b
  refine ⟨g, k, o.row h.hs (by simp; omega), o.row h.hw (by simp; omega), h.fP.only o (fun x hx hm => ?_), h.fT.only o (fun x hx hm => ?_), h.ne, h.d1, h.d2, h.d12, h.b, h.o.trans o (fun x hx => ?_)⟩
  · have := h.d1 x hx; simp at hm; omega
  · have := h.d2 x hx; simp at hm; omega
  · simp at hx; right; omega
theorem ORel.setS0 (h : ORel w wr q c sb wb v1 v2 s s0 s1 w0 w1 P T) (v : Nat) : ORel w (wr.setCell ⟨sb, 0, none⟩ (.int .i64 v)) q c sb wb v1 v2 s v s1 w0 w1 P T := by
  obtain ⟨n1, n2, n3, n4, n5⟩ := h.ne
  have o : Only [sb] wr (wr.setCell ⟨sb, 0, none⟩ (.int .i64 v)) := (Only.refl _ _).set (by simp) _
  refine ⟨h.hq.only o (by simp; omega) (by simp; omega), h.ok, h.hs.set 0 _, h.hw.other n5 _, h.fP.only o (fun x hx hm => ?_), h.fT.only o (fun x hx hm => ?_), h.ne, h.d1, h.d2, h.d12, h.b, h.o.trans o (fun x hx => ?_)⟩
  · have := h.d1 x hx; simp at hm; omega
  · have := h.d2 x hx; simp at hm; omega
  · have := h.b; simp at hx; right; omega
theorem ORel.setS1 (h : ORel w wr q c sb wb v1 v2 s s0 s1 w0 w1 P T) (v : Nat) : ORel w (wr.setCell ⟨sb, 1, none⟩ (.int .i64 v)) q c sb wb v1 v2 s s0 v w0 w1 P T := by
  obtain ⟨n1, n2, n3, n4, n5⟩ := h.ne
  have o : Only [sb] wr (wr.setCell ⟨sb, 1, none⟩ (.int .i64 v)) := (Only.refl _ _).set (by simp) _
  refine ⟨h.hq.only o (by simp; omega) (by simp; omega), h.ok, h.hs.set 1 _, h.hw.other n5 _, h.fP.only o (fun x hx hm => ?_), h.fT.only o (fun x hx hm => ?_), h.ne, h.d1, h.d2, h.d12, h.b, h.o.trans o (fun x hx => ?_)⟩
  · have := h.d1 x hx; simp at hm; omega
  · have := h.d2 x hx; simp at hm; omega
  · have := h.b; simp at hx; right; omega
theorem ORel.setW0 (h : ORel w wr q c sb wb v1 v2 s s0 s1 w0 w1 P T) (v : Bool) : ORel w (wr.setCell ⟨wb, 0, none⟩ (.bool v)) q c sb wb v1 v2 s s0 s1 v w1 P T := by
  obtain ⟨n1, n2, n3, n4, n5⟩ := h.ne
  have o : Only [wb] wr (wr.setCell ⟨wb, 0, none⟩ (.bool v)) := (Only.refl _ _).set (by simp) _
  refine ⟨h.hq.only o (by simp; omega) (by simp; omega), h.ok, h.hs.other (Ne.symm n5) _, h.hw.set 0 _, h.fP.only o (fun x hx hm => ?_), h.fT.only o (fun x hx hm => ?_), h.ne, h.d1, h.d2, h.d12, h.b, h.o.trans o (fun x hx => ?_)⟩
  · have := h.d1 x hx; simp at hm; omega
  · have := h.d2 x hx; simp at hm; omega
  · have := h.b; simp at hx; right; omega
theorem ORel.setW1 (h : ORel w wr q c sb wb v1 v2 s s0 s1 w0 w1 P T) (v : Bool) : ORel w (wr.setCell ⟨wb, 1, none⟩ (.bool v)) q c sb wb v1 v2 s s0 s1 w0 v P T := by
  obtain ⟨n1, n2, n3, n4, n5⟩ := h.ne
  have o : Only [wb] wr (wr.setCell ⟨wb, 1, none⟩ (.bool v)) := (Only.refl _ _).set (by simp) _
  refine ⟨h.hq.only o (by simp; omega) (by simp; omega), h.ok, h.hs.other (Ne.symm n5) _, h.hw.set 1 _, h.fP.only o (fun x hx hm => ?_), h.fT.only o (fun x hx hm => ?_), h.ne, h.d1, h.d2, h.d12, h.b, h.o.trans o (fun x hx => ?_)⟩
  · have := h.d1 x hx; simp at hm; omega
  · have := h.d2 x hx; simp at hm; omega
  · have := h.b; simp at hx; right; omega
theorem ORel.apP (h : ORel w wr q c sb wb v1 v2 s s0 s1 w0 w1 P T) {l : List Int} {v' : Value} {ob : Obj} (f : Ints w1' w.heap.size v' l) (o : Only v1.ownBlock.toList (wr.alloc ob) w1')
    (hb : v'.ownBlock = v1.ownBlock ∨ v'.ownBlock = some (wr.heap.size + 1)) : ORel w w1' q c sb wb v' v2 s s0 s1 w0 w1 l T := by
  have o1 : Only v1.ownBlock.toList wr w1' := ((Only.refl _ _).alloc ob).trans o (fun x hx => .inl hx)
  have h1 : ∀ k, v1.ownBlock = some k → w.heap.size ≤ k ∧ k < wr.heap.size := h.fP.own
  have h2 : ∀ k, v2.ownBlock = some k → w.heap.size ≤ k ∧ k < wr.heap.size := h.fT.own
  have l1 := h.hq.lt
  have l2 := h.hs.lt
  have l3 := h.hw.lt
  have nm : ∀ x, (∀ k, v1.ownBlock = some k → k ≠ x) → x ∉ v1.ownBlock.toList := fun x hx hm => hx x (by simpa using hm) rfl
  refine ⟨h.hq.only o1 (nm _ fun k hk => (h.d1 k hk).1) (nm _ fun k hk => (h.d1 k hk).2.1), h.ok, o1.row h.hs (nm _ fun k hk => (h.d1 k hk).2.2.1), o1.row h.hw (nm _ fun k hk => (h.d1 k hk).2.2.2), f, h.fT.only o1 (fun x hx hm => h.d12 x (by simpa using hm) hx), h.ne, ?_, h.d2, ?_, h.b, h.o.trans o1 (fun x hx => .inr (h1 x (by simpa using hx)).1)⟩
  · intro k hk
    rcases hb with hb | hb
    · exact h.d1 k (by rw [← hb]; exact hk)
    · rw [hb] at hk; cases hk; omega
  · intro k hk h3
    rcases hb with hb | hb
    · exact h.d12 k (by rw [← hb]; exact hk) h3
    · rw [hb] at hk; cases hk; have := (h2 _ h3).2; omega
theorem ORel.apT (h : ORel w wr q c sb wb v1 v2 s s0 s1 w0 w1 P T) {l : List Int} {v' : Value} {ob : Obj} (f : Ints w1' w.heap.size v' l) (o : Only v2.ownBlock.toList (wr.alloc ob) w1')
    (hb : v'.ownBlock = v2.ownBlock ∨ v'.ownBlock = some (wr.heap.size + 1)) : ORel w w1' q c sb wb v1 v' s s0 s1 w0 w1 P l := by
  have o1 : Only v2.ownBlock.toList wr w1' := ((Only.refl _ _).alloc ob).trans o (fun x hx => .inl hx)
  have h1 : ∀ k, v1.ownBlock = some k → w.heap.size ≤ k ∧ k < wr.heap.size := h.fP.own
  have h2 : ∀ k, v2.ownBlock = some k → w.heap.size ≤ k ∧ k < wr.heap.size := h.fT.own
  have l1 := h.hq.lt
  have l2 := h.hs.lt
  have l3 := h.hw.lt
  have nm : ∀ x, (∀ k, v2.ownBlock = some k → k ≠ x) → x ∉ v2.ownBlock.toList := fun x hx hm => hx x (by simpa using hm) rfl
  refine ⟨h.hq.only o1 (nm _ fun k hk => (h.d2 k hk).1) (nm _ fun k hk => (h.d2 k hk).2.1), h.ok, o1.row h.hs (nm _ fun k hk => (h.d2 k hk).2.2.1), o1.row h.hw (nm _ fun k hk => (h.d2 k hk).2.2.2), h.fP.only o1 (fun x hx hm => h.d12 x hx (by simpa using hm)), f, h.ne, h.d1, ?_, ?_, h.b, h.o.trans o1 (fun x hx => .inr (h2 x (by simpa using hx)).1)⟩
  · intro k hk
    rcases hb with hb | hb
    · exact h.d2 k (by rw [← hb]; exact hk)
    · rw [hb] at hk; cases hk; omega
  · intro k hk h3
    rcases hb with hb | hb
    · exact h.d12 k hk (by rw [← hb]; exact h3)
    · rw [hb] at h3; cases h3; have := (h1 _ hk).2; omega
/-- P from T's end on, as a value that reads so. -/
theorem Ints.dropRead {wr : World} {base : Nat} {a : Option Addr} {m cap : Nat} {P : List Int} (h : Ints wr base (.slice a m cap) P) {k : Nat} (hk : k ≤ P.length) {b : Nat} (ha : a = some ⟨b, 0, none⟩) {x : Option Addr} {cx : Nat} (hx : k = cap ∨ x = some ⟨b, k, none⟩) :
    Read wr (.slice x (P.length - k) cx) (P.drop k) := by
  subst ha
  rcases h.form with ⟨h1, h2⟩ | ⟨g, cap', h1, _, _, hc, hat⟩
  · cases h1
  · cases h1
    by_cases h0 : P.length = k
    · exact .inr ⟨x, cx, by rw [h0, Nat.sub_self], by rw [← h0]; simp⟩
    · rcases hx with hx | hx
      · omega
      · refine .inl ⟨b, k, cx, by rw [hx, List.length_drop], fun i hi => ?_⟩
        rw [List.length_drop] at hi
        rw [hat (k + i) (by omega)]
        simp [gI]
end
end Go.Proofs.Ytemdkffkpdhciaa
