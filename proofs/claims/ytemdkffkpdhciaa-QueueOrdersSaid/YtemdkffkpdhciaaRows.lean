/-
  No cell of these rows narrows 'for every input' (looked for: loops, veiled, ifaces, maps, wideKeys, modest, calm, conditions, laid).
  DERIVED. THE GIVEN ROWS OF THIS SEAT. 7 by the template 'for every input the law returns true; each argument reads behind the call as it read before'; 0 by the template 'total and deterministic' (their statements: YtemdkffkpdhciaaTotals.lean).
  GIVEN WITH THE SEED: the statements are not yours to turn. If you find one false, say at which input.
  Laid BY PROGRAM, IN A SANDBOX (cutbox-rows.mjs): the forced cells as the released guide's own fill.sh prints them over the translation 509080e6e716bf9a… (all of the seat's roots in one cut). By AI agents, Wed Nov 11 2026. No macro, syntax, notation, axiom, sorry.
-/
import Derived.Test.YtemdkffkpdhciaaChecked
import GoSem.Claim
import GoSem.ClaimJoined
import GoSem.ClaimMapViews
import Derived.JoinedTies
import Derived.KernelRfl
namespace Go.Proofs.Ytemdkffkpdhciaa
/- THE CELL 'sum', in the pinned program and in every row, IS THE sha256 OF THE DUMP (.gsa) THAT YtemdkffkpdhciaaProg.lean LOADS. Nothing in Lean hashes anything: it is a label: what it is worth is what the hold of that sum in a sandbox is worth. -/
noncomputable def Try.pinned : Pinned := { name := "ytemdkffkpdhciaa", sum := "509080e6e716bf9a75662ed6c459c0fe6efe60af28ac9133b285694a7e7db8cc", checked := Try.checked }
namespace Rows
def none {H : Type} : Left H := { results := [], args := [] }

/-- 'isochronlaw22.QueueOrders': WHATEVER THE INPUT: true; the input reads as it did. -/
def queueOrdersSpec : ChangeSpec := { name := "queueOrders", fn := fun _ => fun
  | [d1, d2, d3] => { results := [.lit (.bool true)], args := [d1, d2, d3] }
  | _ => none }
def queueOrdersRow : OpenClaim := { program := "ytemdkffkpdhciaa", sum := "509080e6e716bf9a75662ed6c459c0fe6efe60af28ac9133b285694a7e7db8cc", func := "isochron/isochronlaw22.QueueOrders", spec := "queueOrders", apart := false }
def QueueOrdersSaid : Prop := queueOrdersRow.holds Try.pinned (OpenSpec.ofChange queueOrdersSpec)

/-- ITS FALSE NEIGHBOUR: 'it returns false'. Refute it at one input. -/
def queueOrdersWrong : ChangeSpec := { name := "queueOrders", fn := fun _ => fun
  | [d1, d2, d3] => { results := [.lit (.bool false)], args := [d1, d2, d3] }
  | _ => none }
def QueueOrdersWrongFalsely : Prop := queueOrdersRow.holds Try.pinned (OpenSpec.ofChange queueOrdersWrong)

/-- 'isochronlaw22.QueueSteps': WHATEVER THE INPUT: true; the input reads as it did. -/
def queueStepsSpec : ChangeSpec := { name := "queueSteps", fn := fun _ => fun
  | [d1, d2] => { results := [.lit (.bool true)], args := [d1, d2] }
  | _ => none }
def queueStepsRow : OpenClaim := { program := "ytemdkffkpdhciaa", sum := "509080e6e716bf9a75662ed6c459c0fe6efe60af28ac9133b285694a7e7db8cc", func := "isochron/isochronlaw22.QueueSteps", spec := "queueSteps", apart := false }
def QueueStepsSaid : Prop := queueStepsRow.holds Try.pinned (OpenSpec.ofChange queueStepsSpec)

/-- ITS FALSE NEIGHBOUR: 'it returns false'. Refute it at one input. -/
def queueStepsWrong : ChangeSpec := { name := "queueSteps", fn := fun _ => fun
  | [d1, d2] => { results := [.lit (.bool false)], args := [d1, d2] }
  | _ => none }
def QueueStepsWrongFalsely : Prop := queueStepsRow.holds Try.pinned (OpenSpec.ofChange queueStepsWrong)

/-- 'isochronlaw22.QueueWhole': WHATEVER THE INPUT: true; the input reads as it did. -/
def queueWholeSpec : ChangeSpec := { name := "queueWhole", fn := fun _ => fun
  | [d1, d2, d3] => { results := [.lit (.bool true)], args := [d1, d2, d3] }
  | _ => none }
def queueWholeRow : OpenClaim := { program := "ytemdkffkpdhciaa", sum := "509080e6e716bf9a75662ed6c459c0fe6efe60af28ac9133b285694a7e7db8cc", func := "isochron/isochronlaw22.QueueWhole", spec := "queueWhole", apart := false }
def QueueWholeSaid : Prop := queueWholeRow.holds Try.pinned (OpenSpec.ofChange queueWholeSpec)

/-- ITS FALSE NEIGHBOUR: 'it returns false'. Refute it at one input. -/
def queueWholeWrong : ChangeSpec := { name := "queueWhole", fn := fun _ => fun
  | [d1, d2, d3] => { results := [.lit (.bool false)], args := [d1, d2, d3] }
  | _ => none }
def QueueWholeWrongFalsely : Prop := queueWholeRow.holds Try.pinned (OpenSpec.ofChange queueWholeWrong)

/-- 'isochronlaw22.QueueCopies': WHATEVER THE INPUT: true; the input reads as it did. -/
def queueCopiesSpec : ChangeSpec := { name := "queueCopies", fn := fun _ => fun
  | [d1, d2, d3, d4] => { results := [.lit (.bool true)], args := [d1, d2, d3, d4] }
  | _ => none }
def queueCopiesRow : OpenClaim := { program := "ytemdkffkpdhciaa", sum := "509080e6e716bf9a75662ed6c459c0fe6efe60af28ac9133b285694a7e7db8cc", func := "isochron/isochronlaw22.QueueCopies", spec := "queueCopies", apart := false }
def QueueCopiesSaid : Prop := queueCopiesRow.holds Try.pinned (OpenSpec.ofChange queueCopiesSpec)

/-- ITS FALSE NEIGHBOUR: 'it returns false'. Refute it at one input. -/
def queueCopiesWrong : ChangeSpec := { name := "queueCopies", fn := fun _ => fun
  | [d1, d2, d3, d4] => { results := [.lit (.bool false)], args := [d1, d2, d3, d4] }
  | _ => none }
def QueueCopiesWrongFalsely : Prop := queueCopiesRow.holds Try.pinned (OpenSpec.ofChange queueCopiesWrong)

/-- 'isochronlaw22.QueuePlays': WHATEVER THE INPUT: true; the input reads as it did. -/
def queuePlaysSpec : ChangeSpec := { name := "queuePlays", fn := fun _ => fun
  | [d1, d2, d3, d4] => { results := [.lit (.bool true)], args := [d1, d2, d3, d4] }
  | _ => none }
def queuePlaysRow : OpenClaim := { program := "ytemdkffkpdhciaa", sum := "509080e6e716bf9a75662ed6c459c0fe6efe60af28ac9133b285694a7e7db8cc", func := "isochron/isochronlaw22.QueuePlays", spec := "queuePlays", unfollowed := true, recurses := true, apart := false }
def QueuePlaysSaid : Prop := queuePlaysRow.holds Try.pinned (OpenSpec.ofChange queuePlaysSpec)

/-- ITS FALSE NEIGHBOUR: 'it returns false'. Refute it at one input. -/
def queuePlaysWrong : ChangeSpec := { name := "queuePlays", fn := fun _ => fun
  | [d1, d2, d3, d4] => { results := [.lit (.bool false)], args := [d1, d2, d3, d4] }
  | _ => none }
def QueuePlaysWrongFalsely : Prop := queuePlaysRow.holds Try.pinned (OpenSpec.ofChange queuePlaysWrong)

/-- 'isochronlaw22.QueueLogs': WHATEVER THE INPUT: true; the input reads as it did. -/
def queueLogsSpec : ChangeSpec := { name := "queueLogs", fn := fun _ => fun
  | [d1, d2, d3] => { results := [.lit (.bool true)], args := [d1, d2, d3] }
  | _ => none }
def queueLogsRow : OpenClaim := { program := "ytemdkffkpdhciaa", sum := "509080e6e716bf9a75662ed6c459c0fe6efe60af28ac9133b285694a7e7db8cc", func := "isochron/isochronlaw22.QueueLogs", spec := "queueLogs", apart := false }
def QueueLogsSaid : Prop := queueLogsRow.holds Try.pinned (OpenSpec.ofChange queueLogsSpec)

/-- ITS FALSE NEIGHBOUR: 'it returns false'. Refute it at one input. -/
def queueLogsWrong : ChangeSpec := { name := "queueLogs", fn := fun _ => fun
  | [d1, d2, d3] => { results := [.lit (.bool false)], args := [d1, d2, d3] }
  | _ => none }
def QueueLogsWrongFalsely : Prop := queueLogsRow.holds Try.pinned (OpenSpec.ofChange queueLogsWrong)

/-- 'isochronlaw22.QueueNil': WHATEVER THE INPUT: true; the input reads as it did. -/
def queueNilSpec : ChangeSpec := { name := "queueNil", fn := fun _ => fun
  | [d] => { results := [.lit (.bool true)], args := [d] }
  | _ => none }
def queueNilRow : OpenClaim := { program := "ytemdkffkpdhciaa", sum := "509080e6e716bf9a75662ed6c459c0fe6efe60af28ac9133b285694a7e7db8cc", func := "isochron/isochronlaw22.QueueNil", spec := "queueNil", apart := false }
def QueueNilSaid : Prop := queueNilRow.holds Try.pinned (OpenSpec.ofChange queueNilSpec)

/-- ITS FALSE NEIGHBOUR: 'it returns false'. Refute it at one input. -/
def queueNilWrong : ChangeSpec := { name := "queueNil", fn := fun _ => fun
  | [d] => { results := [.lit (.bool false)], args := [d] }
  | _ => none }
def QueueNilWrongFalsely : Prop := queueNilRow.holds Try.pinned (OpenSpec.ofChange queueNilWrong)

/- THE SECOND FORM. 'bulk': how many values and letters a reading holds, each counted each time it is reached (what is shared counts as often as it is met; a slice's spare places count too). A statement '..UptoSaid' is the law's where the arguments, and the package variables that the reading takes, are together of bulk at most 1048576: NARROWER than '..Said'. Prove '..Said' where nothing that the law and all that it calls make is longer than what came in: it says more and counts as full. Else prove '..UptoSaid'. A law counts once. -/
mutual
def uptoBulk {H : Type} : DataW H → Nat
  | .lit (.string bytes) => bytes.length + 1
  | .lit _ => 1
  | .nil => 1
  | .ptr d => uptoBulk d + 1
  | .slice elems spare => uptoBulkAll elems + uptoBulkAll spare + 1
  | .agg parts => uptoBulkAll parts + 1
  | .iface _ d => uptoBulk d + 1
  | .map entries => uptoBulkEntries entries + 1
  | .held _ => 1
def uptoBulkAll {H : Type} : List (DataW H) → Nat
  | [] => 0
  | d :: r => uptoBulk d + uptoBulkAll r
def uptoBulkEntries {H : Type} : List (Lit × DataW H) → Nat
  | [] => 0
  | x :: r => uptoBulkEntry x + uptoBulkEntries r
def uptoBulkEntry {H : Type} : Lit × DataW H → Nat
  | (.string bytes, d) => bytes.length + uptoBulk d + 1
  | (_, d) => uptoBulk d + 1
 end
def uptoSmall : (H : Type) → List (DataW H) → Bool := fun _ ds => decide (uptoBulkAll ds ≤ 1048576)
def OpenSpec.upto (s : _root_.Go.ChangeSpec) : _root_.Go.OpenSpec := { _root_.Go.OpenSpec.ofChange s with cond := some uptoSmall }

/-- 'isochronlaw22.QueueOrders', WHERE WHAT IT READS IS OF BULK AT MOST 1048576: true; the input reads as it did. -/
def queueOrdersUptoRow : OpenClaim := { program := "ytemdkffkpdhciaa", sum := "509080e6e716bf9a75662ed6c459c0fe6efe60af28ac9133b285694a7e7db8cc", func := "isochron/isochronlaw22.QueueOrders", spec := "queueOrders", apart := false, narrowed := true }
def QueueOrdersUptoSaid : Prop := queueOrdersUptoRow.holds Try.pinned (OpenSpec.upto queueOrdersSpec)

/-- 'isochronlaw22.QueueSteps', WHERE WHAT IT READS IS OF BULK AT MOST 1048576: true; the input reads as it did. -/
def queueStepsUptoRow : OpenClaim := { program := "ytemdkffkpdhciaa", sum := "509080e6e716bf9a75662ed6c459c0fe6efe60af28ac9133b285694a7e7db8cc", func := "isochron/isochronlaw22.QueueSteps", spec := "queueSteps", apart := false, narrowed := true }
def QueueStepsUptoSaid : Prop := queueStepsUptoRow.holds Try.pinned (OpenSpec.upto queueStepsSpec)

/-- 'isochronlaw22.QueueWhole', WHERE WHAT IT READS IS OF BULK AT MOST 1048576: true; the input reads as it did. -/
def queueWholeUptoRow : OpenClaim := { program := "ytemdkffkpdhciaa", sum := "509080e6e716bf9a75662ed6c459c0fe6efe60af28ac9133b285694a7e7db8cc", func := "isochron/isochronlaw22.QueueWhole", spec := "queueWhole", apart := false, narrowed := true }
def QueueWholeUptoSaid : Prop := queueWholeUptoRow.holds Try.pinned (OpenSpec.upto queueWholeSpec)

/-- 'isochronlaw22.QueueCopies', WHERE WHAT IT READS IS OF BULK AT MOST 1048576: true; the input reads as it did. -/
def queueCopiesUptoRow : OpenClaim := { program := "ytemdkffkpdhciaa", sum := "509080e6e716bf9a75662ed6c459c0fe6efe60af28ac9133b285694a7e7db8cc", func := "isochron/isochronlaw22.QueueCopies", spec := "queueCopies", apart := false, narrowed := true }
def QueueCopiesUptoSaid : Prop := queueCopiesUptoRow.holds Try.pinned (OpenSpec.upto queueCopiesSpec)

/-- 'isochronlaw22.QueuePlays', WHERE WHAT IT READS IS OF BULK AT MOST 1048576: true; the input reads as it did. -/
def queuePlaysUptoRow : OpenClaim := { program := "ytemdkffkpdhciaa", sum := "509080e6e716bf9a75662ed6c459c0fe6efe60af28ac9133b285694a7e7db8cc", func := "isochron/isochronlaw22.QueuePlays", spec := "queuePlays", unfollowed := true, recurses := true, apart := false, narrowed := true }
def QueuePlaysUptoSaid : Prop := queuePlaysUptoRow.holds Try.pinned (OpenSpec.upto queuePlaysSpec)

/-- 'isochronlaw22.QueueLogs', WHERE WHAT IT READS IS OF BULK AT MOST 1048576: true; the input reads as it did. -/
def queueLogsUptoRow : OpenClaim := { program := "ytemdkffkpdhciaa", sum := "509080e6e716bf9a75662ed6c459c0fe6efe60af28ac9133b285694a7e7db8cc", func := "isochron/isochronlaw22.QueueLogs", spec := "queueLogs", apart := false, narrowed := true }
def QueueLogsUptoSaid : Prop := queueLogsUptoRow.holds Try.pinned (OpenSpec.upto queueLogsSpec)

/-- 'isochronlaw22.QueueNil', WHERE WHAT IT READS IS OF BULK AT MOST 1048576: true; the input reads as it did. -/
def queueNilUptoRow : OpenClaim := { program := "ytemdkffkpdhciaa", sum := "509080e6e716bf9a75662ed6c459c0fe6efe60af28ac9133b285694a7e7db8cc", func := "isochron/isochronlaw22.QueueNil", spec := "queueNil", apart := false, narrowed := true }
def QueueNilUptoSaid : Prop := queueNilUptoRow.holds Try.pinned (OpenSpec.upto queueNilSpec)

end Rows
end Go.Proofs.Ytemdkffkpdhciaa
