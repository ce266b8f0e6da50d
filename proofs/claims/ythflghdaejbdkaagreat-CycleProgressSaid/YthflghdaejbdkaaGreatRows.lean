/-
  No cell of these rows narrows 'for every input' (looked for: loops, veiled, ifaces, maps, wideKeys, modest, calm, conditions, laid).
  DERIVED. THE GIVEN ROWS OF THIS SEAT. 10 by the template 'for every input the law returns true; each argument reads behind the call as it read before'; 0 by the template 'total and deterministic' (their statements: YthflghdaejbdkaaGreatTotals.lean).
  GIVEN WITH THE SEED: the statements are not yours to turn. If you find one false, say at which input.
  Laid BY PROGRAM, IN A SANDBOX (cutbox-rows.mjs): the forced cells as the released guide's own fill.sh prints them over the translation 279a27c57e997e2a… (all of the seat's roots in one cut). By AI agents, Wed Nov 11 2026. No macro, syntax, notation, axiom, sorry.
-/
import Derived.Test.YthflghdaejbdkaaGreatChecked
import GoSem.Claim
import GoSem.ClaimJoined
import GoSem.ClaimMapViews
import Derived.JoinedTies
import Derived.KernelRfl
namespace Go.Proofs.YthflghdaejbdkaaGreat
/- THE CELL 'sum', in the pinned program and in every row, IS THE sha256 OF THE DUMP (.gsa) THAT YthflghdaejbdkaaGreatProg.lean LOADS. Nothing in Lean hashes anything: it is a label: what it is worth is what the hold of that sum in a sandbox is worth. -/
noncomputable def Tryz.pinned : Pinned := { name := "ythflghdaejbdkaagreat", sum := "279a27c57e997e2adfd5f14c9beaa00ec460edad02ad62f0473e0d9e2e247d88", checked := Tryz.checked }
namespace Rows
def none {H : Type} : Left H := { results := [], args := [] }

/-- 'isochronlaw13.RefsEnds': WHATEVER THE INPUT: true; the input reads as it did. -/
def refsEndsSpec : ChangeSpec := { name := "refsEnds", fn := fun _ => fun
  | [d1, d2] => { results := [.lit (.bool true)], args := [d1, d2] }
  | _ => none }
def refsEndsRow : OpenClaim := { program := "ythflghdaejbdkaagreat", sum := "279a27c57e997e2adfd5f14c9beaa00ec460edad02ad62f0473e0d9e2e247d88", func := "isochron/isochronlaw13.RefsEnds", spec := "refsEnds", unfollowed := true, recurses := true, apart := false }
def RefsEndsSaid : Prop := refsEndsRow.holds Tryz.pinned (OpenSpec.ofChange refsEndsSpec)

/-- ITS FALSE NEIGHBOUR: 'it returns false'. Refute it at one input. -/
def refsEndsWrong : ChangeSpec := { name := "refsEnds", fn := fun _ => fun
  | [d1, d2] => { results := [.lit (.bool false)], args := [d1, d2] }
  | _ => none }
def RefsEndsWrongFalsely : Prop := refsEndsRow.holds Tryz.pinned (OpenSpec.ofChange refsEndsWrong)

/-- 'isochronlaw14.CycleBoundOf': WHATEVER THE INPUT: true; the input reads as it did. -/
def cycleBoundOfSpec : ChangeSpec := { name := "cycleBoundOf", fn := fun _ => fun
  | [d1, d2, d3] => { results := [.lit (.bool true)], args := [d1, d2, d3] }
  | _ => none }
def cycleBoundOfRow : OpenClaim := { program := "ythflghdaejbdkaagreat", sum := "279a27c57e997e2adfd5f14c9beaa00ec460edad02ad62f0473e0d9e2e247d88", func := "isochron/isochronlaw14.CycleBoundOf", spec := "cycleBoundOf", inPlace := ["maps.clone"], unfollowed := true, recurses := true, apart := false }
def CycleBoundOfSaid : Prop := cycleBoundOfRow.holds Tryz.pinned (OpenSpec.ofChange cycleBoundOfSpec)

/-- ITS FALSE NEIGHBOUR: 'it returns false'. Refute it at one input. -/
def cycleBoundOfWrong : ChangeSpec := { name := "cycleBoundOf", fn := fun _ => fun
  | [d1, d2, d3] => { results := [.lit (.bool false)], args := [d1, d2, d3] }
  | _ => none }
def CycleBoundOfWrongFalsely : Prop := cycleBoundOfRow.holds Tryz.pinned (OpenSpec.ofChange cycleBoundOfWrong)

/-- 'isochronlaw14.CycleSafe': WHATEVER THE INPUT: true; the input reads as it did. -/
def cycleSafeSpec : ChangeSpec := { name := "cycleSafe", fn := fun _ => fun
  | [d1, d2, d3, d4] => { results := [.lit (.bool true)], args := [d1, d2, d3, d4] }
  | _ => none }
def cycleSafeRow : OpenClaim := { program := "ythflghdaejbdkaagreat", sum := "279a27c57e997e2adfd5f14c9beaa00ec460edad02ad62f0473e0d9e2e247d88", func := "isochron/isochronlaw14.CycleSafe", spec := "cycleSafe", inPlace := ["maps.clone"], unfollowed := true, recurses := true, apart := false }
def CycleSafeSaid : Prop := cycleSafeRow.holds Tryz.pinned (OpenSpec.ofChange cycleSafeSpec)

/-- ITS FALSE NEIGHBOUR: 'it returns false'. Refute it at one input. -/
def cycleSafeWrong : ChangeSpec := { name := "cycleSafe", fn := fun _ => fun
  | [d1, d2, d3, d4] => { results := [.lit (.bool false)], args := [d1, d2, d3, d4] }
  | _ => none }
def CycleSafeWrongFalsely : Prop := cycleSafeRow.holds Tryz.pinned (OpenSpec.ofChange cycleSafeWrong)

/-- 'isochronlaw14.CycleHidden': WHATEVER THE INPUT: true; the input reads as it did. -/
def cycleHiddenSpec : ChangeSpec := { name := "cycleHidden", fn := fun _ => fun
  | [d1, d2, d3, d4, d5] => { results := [.lit (.bool true)], args := [d1, d2, d3, d4, d5] }
  | _ => none }
def cycleHiddenRow : OpenClaim := { program := "ythflghdaejbdkaagreat", sum := "279a27c57e997e2adfd5f14c9beaa00ec460edad02ad62f0473e0d9e2e247d88", func := "isochron/isochronlaw14.CycleHidden", spec := "cycleHidden", inPlace := ["maps.clone"], unfollowed := true, recurses := true, apart := false }
def CycleHiddenSaid : Prop := cycleHiddenRow.holds Tryz.pinned (OpenSpec.ofChange cycleHiddenSpec)

/-- ITS FALSE NEIGHBOUR: 'it returns false'. Refute it at one input. -/
def cycleHiddenWrong : ChangeSpec := { name := "cycleHidden", fn := fun _ => fun
  | [d1, d2, d3, d4, d5] => { results := [.lit (.bool false)], args := [d1, d2, d3, d4, d5] }
  | _ => none }
def CycleHiddenWrongFalsely : Prop := cycleHiddenRow.holds Tryz.pinned (OpenSpec.ofChange cycleHiddenWrong)

/-- 'isochronlaw14.CyclePlays': WHATEVER THE INPUT: true; the input reads as it did. -/
def cyclePlaysSpec : ChangeSpec := { name := "cyclePlays", fn := fun _ => fun
  | [d1, d2, d3] => { results := [.lit (.bool true)], args := [d1, d2, d3] }
  | _ => none }
def cyclePlaysRow : OpenClaim := { program := "ythflghdaejbdkaagreat", sum := "279a27c57e997e2adfd5f14c9beaa00ec460edad02ad62f0473e0d9e2e247d88", func := "isochron/isochronlaw14.CyclePlays", spec := "cyclePlays", inPlace := ["maps.clone"], unfollowed := true, recurses := true, apart := false }
def CyclePlaysSaid : Prop := cyclePlaysRow.holds Tryz.pinned (OpenSpec.ofChange cyclePlaysSpec)

/-- ITS FALSE NEIGHBOUR: 'it returns false'. Refute it at one input. -/
def cyclePlaysWrong : ChangeSpec := { name := "cyclePlays", fn := fun _ => fun
  | [d1, d2, d3] => { results := [.lit (.bool false)], args := [d1, d2, d3] }
  | _ => none }
def CyclePlaysWrongFalsely : Prop := cyclePlaysRow.holds Tryz.pinned (OpenSpec.ofChange cyclePlaysWrong)

/-- 'isochronlaw14.CycleCopies': WHATEVER THE INPUT: true; the input reads as it did. -/
def cycleCopiesSpec : ChangeSpec := { name := "cycleCopies", fn := fun _ => fun
  | [d1, d2, d3, d4, d5] => { results := [.lit (.bool true)], args := [d1, d2, d3, d4, d5] }
  | _ => none }
def cycleCopiesRow : OpenClaim := { program := "ythflghdaejbdkaagreat", sum := "279a27c57e997e2adfd5f14c9beaa00ec460edad02ad62f0473e0d9e2e247d88", func := "isochron/isochronlaw14.CycleCopies", spec := "cycleCopies", inPlace := ["maps.clone"], unfollowed := true, recurses := true, apart := false }
def CycleCopiesSaid : Prop := cycleCopiesRow.holds Tryz.pinned (OpenSpec.ofChange cycleCopiesSpec)

/-- ITS FALSE NEIGHBOUR: 'it returns false'. Refute it at one input. -/
def cycleCopiesWrong : ChangeSpec := { name := "cycleCopies", fn := fun _ => fun
  | [d1, d2, d3, d4, d5] => { results := [.lit (.bool false)], args := [d1, d2, d3, d4, d5] }
  | _ => none }
def CycleCopiesWrongFalsely : Prop := cycleCopiesRow.holds Tryz.pinned (OpenSpec.ofChange cycleCopiesWrong)

/-- 'isochronlaw14.CycleNil': WHATEVER THE INPUT: true; the input reads as it did. -/
def cycleNilSpec : ChangeSpec := { name := "cycleNil", fn := fun _ => fun
  | [d1, d2, d3] => { results := [.lit (.bool true)], args := [d1, d2, d3] }
  | _ => none }
def cycleNilRow : OpenClaim := { program := "ythflghdaejbdkaagreat", sum := "279a27c57e997e2adfd5f14c9beaa00ec460edad02ad62f0473e0d9e2e247d88", func := "isochron/isochronlaw14.CycleNil", spec := "cycleNil", inPlace := ["maps.clone"], unfollowed := true, recurses := true, apart := false }
def CycleNilSaid : Prop := cycleNilRow.holds Tryz.pinned (OpenSpec.ofChange cycleNilSpec)

/-- ITS FALSE NEIGHBOUR: 'it returns false'. Refute it at one input. -/
def cycleNilWrong : ChangeSpec := { name := "cycleNil", fn := fun _ => fun
  | [d1, d2, d3] => { results := [.lit (.bool false)], args := [d1, d2, d3] }
  | _ => none }
def CycleNilWrongFalsely : Prop := cycleNilRow.holds Tryz.pinned (OpenSpec.ofChange cycleNilWrong)

/-- 'isochronlaw14.CycleBounds': WHATEVER THE INPUT: true; the input reads as it did. -/
def cycleBoundsSpec : ChangeSpec := { name := "cycleBounds", fn := fun _ => fun
  | [d1, d2, d3, d4] => { results := [.lit (.bool true)], args := [d1, d2, d3, d4] }
  | _ => none }
def cycleBoundsRow : OpenClaim := { program := "ythflghdaejbdkaagreat", sum := "279a27c57e997e2adfd5f14c9beaa00ec460edad02ad62f0473e0d9e2e247d88", func := "isochron/isochronlaw14.CycleBounds", spec := "cycleBounds", inPlace := ["maps.clone"], unfollowed := true, recurses := true, apart := false }
def CycleBoundsSaid : Prop := cycleBoundsRow.holds Tryz.pinned (OpenSpec.ofChange cycleBoundsSpec)

/-- ITS FALSE NEIGHBOUR: 'it returns false'. Refute it at one input. -/
def cycleBoundsWrong : ChangeSpec := { name := "cycleBounds", fn := fun _ => fun
  | [d1, d2, d3, d4] => { results := [.lit (.bool false)], args := [d1, d2, d3, d4] }
  | _ => none }
def CycleBoundsWrongFalsely : Prop := cycleBoundsRow.holds Tryz.pinned (OpenSpec.ofChange cycleBoundsWrong)

/-- 'isochronlaw14.CycleProgress': WHATEVER THE INPUT: true; the input reads as it did. -/
def cycleProgressSpec : ChangeSpec := { name := "cycleProgress", fn := fun _ => fun
  | [d1, d2, d3, d4] => { results := [.lit (.bool true)], args := [d1, d2, d3, d4] }
  | _ => none }
def cycleProgressRow : OpenClaim := { program := "ythflghdaejbdkaagreat", sum := "279a27c57e997e2adfd5f14c9beaa00ec460edad02ad62f0473e0d9e2e247d88", func := "isochron/isochronlaw14.CycleProgress", spec := "cycleProgress", inPlace := ["maps.clone"], unfollowed := true, recurses := true, apart := false }
def CycleProgressSaid : Prop := cycleProgressRow.holds Tryz.pinned (OpenSpec.ofChange cycleProgressSpec)

/-- ITS FALSE NEIGHBOUR: 'it returns false'. Refute it at one input. -/
def cycleProgressWrong : ChangeSpec := { name := "cycleProgress", fn := fun _ => fun
  | [d1, d2, d3, d4] => { results := [.lit (.bool false)], args := [d1, d2, d3, d4] }
  | _ => none }
def CycleProgressWrongFalsely : Prop := cycleProgressRow.holds Tryz.pinned (OpenSpec.ofChange cycleProgressWrong)

/-- 'isochronlaw14.CycleGives': WHATEVER THE INPUT: true; the input reads as it did. -/
def cycleGivesSpec : ChangeSpec := { name := "cycleGives", fn := fun _ => fun
  | [d1, d2, d3, d4, d5, d6] => { results := [.lit (.bool true)], args := [d1, d2, d3, d4, d5, d6] }
  | _ => none }
def cycleGivesRow : OpenClaim := { program := "ythflghdaejbdkaagreat", sum := "279a27c57e997e2adfd5f14c9beaa00ec460edad02ad62f0473e0d9e2e247d88", func := "isochron/isochronlaw14.CycleGives", spec := "cycleGives", inPlace := ["maps.clone"], unfollowed := true, recurses := true, apart := false }
def CycleGivesSaid : Prop := cycleGivesRow.holds Tryz.pinned (OpenSpec.ofChange cycleGivesSpec)

/-- ITS FALSE NEIGHBOUR: 'it returns false'. Refute it at one input. -/
def cycleGivesWrong : ChangeSpec := { name := "cycleGives", fn := fun _ => fun
  | [d1, d2, d3, d4, d5, d6] => { results := [.lit (.bool false)], args := [d1, d2, d3, d4, d5, d6] }
  | _ => none }
def CycleGivesWrongFalsely : Prop := cycleGivesRow.holds Tryz.pinned (OpenSpec.ofChange cycleGivesWrong)

/- THE SECOND FORM. 'bulk': how many values and letters a reading holds, each counted each time it is reached (what is shared counts as often as it is met; a slice's spare places count too). A statement '..UptoSaid' is the law's where the arguments, and the package variables that the reading takes, are together of bulk at most 1048576: NARROWER than '..Said'. Prove '..Said' where nothing that the law and all that it calls make is longer than what came in: it says more and counts as full. Else prove '..UptoSaid'. A law counts once. -/
mutual
def uptoBulk {H : Type} : DataW H → Nat
  | .lit (.string bytes) => bytes.length + 1
  | .lit _ => 1
  | .nil => 1
  | .ptr d => uptoBulk d + 1
  | .slice elems spare => uptoBulkAll elems + uptoBulkAll spare + 1
  | .agg parts => uptoBulkAll parts + 1
  | .iface _ d => uptoBulk d + 1
  | .map entries => uptoBulkEntries entries + 1
  | .held _ => 1
def uptoBulkAll {H : Type} : List (DataW H) → Nat
  | [] => 0
  | d :: r => uptoBulk d + uptoBulkAll r
def uptoBulkEntries {H : Type} : List (Lit × DataW H) → Nat
  | [] => 0
  | x :: r => uptoBulkEntry x + uptoBulkEntries r
def uptoBulkEntry {H : Type} : Lit × DataW H → Nat
  | (.string bytes, d) => bytes.length + uptoBulk d + 1
  | (_, d) => uptoBulk d + 1
 end
def uptoSmall : (H : Type) → List (DataW H) → Bool := fun _ ds => decide (uptoBulkAll ds ≤ 1048576)
def OpenSpec.upto (s : _root_.Go.ChangeSpec) : _root_.Go.OpenSpec := { _root_.Go.OpenSpec.ofChange s with cond := some uptoSmall }

/-- 'isochronlaw13.RefsEnds', WHERE WHAT IT READS IS OF BULK AT MOST 1048576: true; the input reads as it did. -/
def refsEndsUptoRow : OpenClaim := { program := "ythflghdaejbdkaagreat", sum := "279a27c57e997e2adfd5f14c9beaa00ec460edad02ad62f0473e0d9e2e247d88", func := "isochron/isochronlaw13.RefsEnds", spec := "refsEnds", unfollowed := true, recurses := true, apart := false, narrowed := true }
def RefsEndsUptoSaid : Prop := refsEndsUptoRow.holds Tryz.pinned (OpenSpec.upto refsEndsSpec)

/-- 'isochronlaw14.CycleBoundOf', WHERE WHAT IT READS IS OF BULK AT MOST 1048576: true; the input reads as it did. -/
def cycleBoundOfUptoRow : OpenClaim := { program := "ythflghdaejbdkaagreat", sum := "279a27c57e997e2adfd5f14c9beaa00ec460edad02ad62f0473e0d9e2e247d88", func := "isochron/isochronlaw14.CycleBoundOf", spec := "cycleBoundOf", inPlace := ["maps.clone"], unfollowed := true, recurses := true, apart := false, narrowed := true }
def CycleBoundOfUptoSaid : Prop := cycleBoundOfUptoRow.holds Tryz.pinned (OpenSpec.upto cycleBoundOfSpec)

/-- 'isochronlaw14.CycleSafe', WHERE WHAT IT READS IS OF BULK AT MOST 1048576: true; the input reads as it did. -/
def cycleSafeUptoRow : OpenClaim := { program := "ythflghdaejbdkaagreat", sum := "279a27c57e997e2adfd5f14c9beaa00ec460edad02ad62f0473e0d9e2e247d88", func := "isochron/isochronlaw14.CycleSafe", spec := "cycleSafe", inPlace := ["maps.clone"], unfollowed := true, recurses := true, apart := false, narrowed := true }
def CycleSafeUptoSaid : Prop := cycleSafeUptoRow.holds Tryz.pinned (OpenSpec.upto cycleSafeSpec)

/-- 'isochronlaw14.CycleHidden', WHERE WHAT IT READS IS OF BULK AT MOST 1048576: true; the input reads as it did. -/
def cycleHiddenUptoRow : OpenClaim := { program := "ythflghdaejbdkaagreat", sum := "279a27c57e997e2adfd5f14c9beaa00ec460edad02ad62f0473e0d9e2e247d88", func := "isochron/isochronlaw14.CycleHidden", spec := "cycleHidden", inPlace := ["maps.clone"], unfollowed := true, recurses := true, apart := false, narrowed := true }
def CycleHiddenUptoSaid : Prop := cycleHiddenUptoRow.holds Tryz.pinned (OpenSpec.upto cycleHiddenSpec)

/-- 'isochronlaw14.CyclePlays', WHERE WHAT IT READS IS OF BULK AT MOST 1048576: true; the input reads as it did. -/
def cyclePlaysUptoRow : OpenClaim := { program := "ythflghdaejbdkaagreat", sum := "279a27c57e997e2adfd5f14c9beaa00ec460edad02ad62f0473e0d9e2e247d88", func := "isochron/isochronlaw14.CyclePlays", spec := "cyclePlays", inPlace := ["maps.clone"], unfollowed := true, recurses := true, apart := false, narrowed := true }
def CyclePlaysUptoSaid : Prop := cyclePlaysUptoRow.holds Tryz.pinned (OpenSpec.upto cyclePlaysSpec)

/-- 'isochronlaw14.CycleCopies', WHERE WHAT IT READS IS OF BULK AT MOST 1048576: true; the input reads as it did. -/
def cycleCopiesUptoRow : OpenClaim := { program := "ythflghdaejbdkaagreat", sum := "279a27c57e997e2adfd5f14c9beaa00ec460edad02ad62f0473e0d9e2e247d88", func := "isochron/isochronlaw14.CycleCopies", spec := "cycleCopies", inPlace := ["maps.clone"], unfollowed := true, recurses := true, apart := false, narrowed := true }
def CycleCopiesUptoSaid : Prop := cycleCopiesUptoRow.holds Tryz.pinned (OpenSpec.upto cycleCopiesSpec)

/-- 'isochronlaw14.CycleNil', WHERE WHAT IT READS IS OF BULK AT MOST 1048576: true; the input reads as it did. -/
def cycleNilUptoRow : OpenClaim := { program := "ythflghdaejbdkaagreat", sum := "279a27c57e997e2adfd5f14c9beaa00ec460edad02ad62f0473e0d9e2e247d88", func := "isochron/isochronlaw14.CycleNil", spec := "cycleNil", inPlace := ["maps.clone"], unfollowed := true, recurses := true, apart := false, narrowed := true }
def CycleNilUptoSaid : Prop := cycleNilUptoRow.holds Tryz.pinned (OpenSpec.upto cycleNilSpec)

/-- 'isochronlaw14.CycleBounds', WHERE WHAT IT READS IS OF BULK AT MOST 1048576: true; the input reads as it did. -/
def cycleBoundsUptoRow : OpenClaim := { program := "ythflghdaejbdkaagreat", sum := "279a27c57e997e2adfd5f14c9beaa00ec460edad02ad62f0473e0d9e2e247d88", func := "isochron/isochronlaw14.CycleBounds", spec := "cycleBounds", inPlace := ["maps.clone"], unfollowed := true, recurses := true, apart := false, narrowed := true }
def CycleBoundsUptoSaid : Prop := cycleBoundsUptoRow.holds Tryz.pinned (OpenSpec.upto cycleBoundsSpec)

/-- 'isochronlaw14.CycleProgress', WHERE WHAT IT READS IS OF BULK AT MOST 1048576: true; the input reads as it did. -/
def cycleProgressUptoRow : OpenClaim := { program := "ythflghdaejbdkaagreat", sum := "279a27c57e997e2adfd5f14c9beaa00ec460edad02ad62f0473e0d9e2e247d88", func := "isochron/isochronlaw14.CycleProgress", spec := "cycleProgress", inPlace := ["maps.clone"], unfollowed := true, recurses := true, apart := false, narrowed := true }
def CycleProgressUptoSaid : Prop := cycleProgressUptoRow.holds Tryz.pinned (OpenSpec.upto cycleProgressSpec)

/-- 'isochronlaw14.CycleGives', WHERE WHAT IT READS IS OF BULK AT MOST 1048576: true; the input reads as it did. -/
def cycleGivesUptoRow : OpenClaim := { program := "ythflghdaejbdkaagreat", sum := "279a27c57e997e2adfd5f14c9beaa00ec460edad02ad62f0473e0d9e2e247d88", func := "isochron/isochronlaw14.CycleGives", spec := "cycleGives", inPlace := ["maps.clone"], unfollowed := true, recurses := true, apart := false, narrowed := true }
def CycleGivesUptoSaid : Prop := cycleGivesUptoRow.holds Tryz.pinned (OpenSpec.upto cycleGivesSpec)

end Rows
end Go.Proofs.YthflghdaejbdkaaGreat
