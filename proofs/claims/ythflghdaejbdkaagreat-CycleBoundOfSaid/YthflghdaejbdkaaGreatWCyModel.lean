/- Lemmas of this claim. -/
import Derived.Test.YthflghdaejbdkaaGreatWCyPast
namespace Go.Proofs.YthflghdaejbdkaaGreat
set_option linter.unusedVariables false
set_option maxRecDepth 100000
def Hp.len (M : Hp) (h : Int) : Int := (M.type h).2.2.1
def Hp.blankS (M : Hp) (h : Int) : Nat → Hp
  | 0 => M
  | k + 1 => if ((M.blankS h k).isRef h (k : Int)).1 = true then ((M.blankS h k).set h (k : Int) 0).2 else M.blankS h k
def Hp.blank (M : Hp) (h : Int) : Hp := M.blankS h (M.len h).toNat
def Hp.blankL (M : Hp) (l : List Int) : Nat → Hp
  | 0 => M
  | k + 1 => (M.blankL l k).blank (gI l k)
structure Co where
  m : Mk
  t : Tb
  ph : Nat
  cr : Int
  rate : Int
  pages : Nat
  sw : List Int
  mv : Nat
def Co.new (pages : Nat) (rate : Int) : Co := ⟨Mk.start (Hp.new pages), Tb.new, 0, 0, rate, pages, [], 0⟩
def Co.setM (c : Co) (m : Mk) : Co := { c with m := m }
def Co.setT (c : Co) (t : Tb) : Co := { c with t := t }
def Co.mark (c : Co) : Int × Co := (1 + c.m.M.len c.m.step.1, { c with m := c.m.step.2.2 })
def Co.sweepTo (c : Co) (s : List Int) : Int × Co := (1, { c with ph := 3, sw := s, m := c.m.put (c.m.M.blankL s s.length) })
def Co.sweepB (c : Co) : Int × Co := c.sweepTo c.m.white
def Co.refsB (c : Co) : Int × Co := (1, { c with ph := 2, t := (c.t.begin c.m).2 })
def Co.tail (c : Co) : Int × Co := if c.m.list = [] then c.sweepB else c.mark
def Co.refs (c : Co) : Int × Co :=
  if (c.t.step c.m).2.2.1 = 0 then (if (c.t.step c.m).1 = 3 then 1 + c.m.M.len (c.t.step c.m).2.1 else 1, { c with t := (c.t.step c.m).2.2.2.1, m := (c.t.step c.m).2.2.2.2 })
  else ({ c with t := (c.t.step c.m).2.2.2.1, m := (c.t.step c.m).2.2.2.2 } : Co).tail
def Co.free (c : Co) : Int × Co := match c.sw with
  | [] => (1, { c with ph := 4, mv := 0 })
  | h :: r => (1 + ((c.m.M.blocks h).1.length : Int), { c with sw := r, m := c.m.put (c.m.M.release h).2 })
def Co.move (c : Co) : Int × Co :=
  if c.mv = 8 * c.pages ∨ c.m.M.P.move.2.2.1 ≠ 0 then (1, { c with ph := 0, cr := 0 })
  else (4 + (bsz (c.m.M.P.class (c.m.M.P.move.1.tdiv 16)).1 : Int), { c with m := c.m.put c.m.M.move.2.2, mv := c.mv + 1 })
def Co.step (c : Co) : Int × Int × Co :=
  if c.ph = 0 then (0, 13, c)
  else if c.ph = 1 then (if c.m.list = [] then (c.refsB.1, 0, c.refsB.2) else (c.mark.1, 0, c.mark.2))
  else if c.ph = 2 then (c.refs.1, 0, c.refs.2)
  else if c.ph = 3 then (c.free.1, 0, c.free.2)
  else (c.move.1, 0, c.move.2)
def Co.steps : Nat → Co → Co | 0, c => c | k + 1, c => (Co.steps k c).step.2.2
def Co.costs : Nat → Co → Int | 0, _ => 0 | k + 1, c => Co.costs k c + (Co.steps k c).step.1
def Co.pay (c : Co) : Co := ({ c with cr := c.cr - c.step.1 } : Co).step.2.2
def Co.stops (c : Co) : Prop := c.ph = 0 ∨ c.cr < c.step.1
def Co.pays : Nat → Co → Co | 0, c => c | k + 1, c => (Co.pays k c).pay
open Classical in
noncomputable def Co.fins (c : Co) : Nat := if h : ∃ i, (Co.steps i c).ph = 0 ∧ ∀ j, j < i → (Co.steps j c).ph ≠ 0 then Classical.choose h else 0
open Classical in
noncomputable def Co.gives (c : Co) : Nat := if h : ∃ i, (Co.pays i c).stops ∧ ∀ j, j < i → ¬ (Co.pays j c).stops then Classical.choose h else 0
noncomputable def Co.finish (c : Co) : Int × Int × Int × Co := if c.ph = 0 then (0, 0, 13, c) else ((c.fins : Int), Co.costs c.fins c, 0, Co.steps c.fins c)
def Co.more (c : Co) (n : Int) : Co := { c with cr := c.cr + n }
noncomputable def Co.give (c : Co) (n : Int) : Int × Co := if c.ph = 0 then (0, c) else (((c.more n).gives : Int), Co.pays (c.more n).gives (c.more n))
open Classical in
noncomputable def Co.begin (c : Co) (roots : List Int) : Int × Co :=
  if 192 < roots.length then (1, c) else if c.ph ≠ 0 then (13, c) else if c.m.M.badRoot roots then (3, c)
  else (0, { c with m := (Mk.start c.m.M).shades roots, ph := 1, cr := -1 - (roots.length : Int), mv := 0 })
def Co.hid (c : Co) (h : Int) : Bool := if c.ph = 2 then c.m.isW h else decide (h ∈ c.sw)
def Co.bar (c : Co) : Bool := decide (c.ph = 1 ∨ c.ph = 2)
def Co.newObj (c : Co) (k : Int) (l : List Bool) : Int × Int × Co :=
  if c.bar then ((c.m.newObject k l).1, (c.m.newObject k l).2.1, { c with m := (c.m.newObject k l).2.2 })
  else ((c.m.M.newObject k l).1, (c.m.M.newObject k l).2.1, { c with m := c.m.put (c.m.M.newObject k l).2.2 })
noncomputable def Co.newObject (c : Co) (k : Int) (l : List Bool) : Int × Int × Co := if k < 0 ∨ 10 ≤ k ∨ 7 < l.length then (0, 1, c) else (c.give c.rate).2.newObj k l
def Co.get (c : Co) (h s : Int) : Int × Int := if c.hid h then (0, 3) else c.m.M.get h s
def Co.store (c : Co) (h s v : Int) : Int × Co :=
  if c.hid h = true ∨ ((c.m.M.isRef h s).1 = true ∧ c.hid v = true) then (3, c)
  else if c.bar then ((c.m.store h s v).1, { c with m := (c.m.store h s v).2 }) else ((c.m.M.set h s v).1, { c with m := c.m.put (c.m.M.set h s v).2 })
def Co.take (c : Co) : Int × Int × Co := (c.t.take.1, c.t.take.2.1, { c with t := c.t.take.2.2 })
structure Co.Okc (c : Co) : Prop where
  hf : c.m.M.OkF
  mo : c.ph = 1 ∨ c.ph = 2 → c.m.Ok
  nl : c.ph ≠ 1 → c.ph ≠ 2 → c.m.list = []
  tg : c.t.Good c.m
  t0 : c.ph ≠ 2 → c.t.ph = 0
  p4 : c.ph ≤ 4
  sw : c.ph ≠ 3 → c.sw = []
  su : ∀ x, x ∈ c.sw → (c.m.M.ob x).isSome = true
  sn : c.sw.Nodup
  st : ∀ i, i < c.t.ents.length → (eAt c.t.ents i).tgt ∉ c.sw
  pa : c.ph = 2 → c.t.ph ≠ 0 → Pst c.t c.m
  al : c.ph = 2 → c.t.ph = 0 → c.t.All c.m
  cr1 : -193 ≤ c.cr
  c0 : c.ph = 0 → c.cr = 0
  rt : 0 ≤ c.rate ∧ c.rate ≤ 100
  pg : 1 ≤ c.pages ∧ c.pages ≤ 24
  mv : c.mv ≤ 8 * c.pages
structure Co.Ok (c : Co) : Prop where
  k : c.Okc
  cr2 : c.cr ≤ 60
end Go.Proofs.YthflghdaejbdkaaGreat
