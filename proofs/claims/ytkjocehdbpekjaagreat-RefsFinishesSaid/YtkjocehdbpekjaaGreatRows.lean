/-
  No cell of these rows narrows 'for every input' (looked for: loops, veiled, ifaces, maps, wideKeys, modest, calm, conditions, laid).
  DERIVED. THE GIVEN ROWS OF THIS SEAT. 10 by the template 'for every input the law returns true; each argument reads behind the call as it read before'; 0 by the template 'total and deterministic' (their statements: YtkjocehdbpekjaaGreatTotals.lean).
  GIVEN WITH THE SEED: the statements are not yours to turn. If you find one false, say at which input.
  Laid BY PROGRAM, IN A SANDBOX (cutbox-rows.mjs): the forced cells as the released guide's own fill.sh prints them over the translation fa724009cd714d43… (all of the seat's roots in one cut). By AI agents, Wed Nov 11 2026. No macro, syntax, notation, axiom, sorry.
-/
import Derived.Test.YtkjocehdbpekjaaGreatChecked
import GoSem.Claim
import GoSem.ClaimJoined
import GoSem.ClaimMapViews
import Derived.JoinedTies
import Derived.KernelRfl
namespace Go.Proofs.YtkjocehdbpekjaaGreat
/- THE CELL 'sum', in the pinned program and in every row, IS THE sha256 OF THE DUMP (.gsa) THAT YtkjocehdbpekjaaGreatProg.lean LOADS. Nothing in Lean hashes anything: it is a label: what it is worth is what the hold of that sum in a sandbox is worth. -/
noncomputable def Tryz.pinned : Pinned := { name := "ytkjocehdbpekjaagreat", sum := "fa724009cd714d4341358d8b3ed017dddce6f09b29166374e4d3da4672e2669e", checked := Tryz.checked }
namespace Rows
def none {H : Type} : Left H := { results := [], args := [] }

/-- 'isochronlaw13.RefsNothing': WHATEVER THE INPUT: true; the input reads as it did. -/
def refsNothingSpec : ChangeSpec := { name := "refsNothing", fn := fun _ => fun
  | [d1, d2] => { results := [.lit (.bool true)], args := [d1, d2] }
  | _ => none }
def refsNothingRow : OpenClaim := { program := "ytkjocehdbpekjaagreat", sum := "fa724009cd714d4341358d8b3ed017dddce6f09b29166374e4d3da4672e2669e", func := "isochron/isochronlaw13.RefsNothing", spec := "refsNothing", inPlace := ["maps.clone"], unfollowed := true, recurses := true, apart := false }
def RefsNothingSaid : Prop := refsNothingRow.holds Tryz.pinned (OpenSpec.ofChange refsNothingSpec)

/-- ITS FALSE NEIGHBOUR: 'it returns false'. Refute it at one input. -/
def refsNothingWrong : ChangeSpec := { name := "refsNothing", fn := fun _ => fun
  | [d1, d2] => { results := [.lit (.bool false)], args := [d1, d2] }
  | _ => none }
def RefsNothingWrongFalsely : Prop := refsNothingRow.holds Tryz.pinned (OpenSpec.ofChange refsNothingWrong)

/-- 'isochronlaw13.RefsEnds': WHATEVER THE INPUT: true; the input reads as it did. -/
def refsEndsSpec : ChangeSpec := { name := "refsEnds", fn := fun _ => fun
  | [d1, d2] => { results := [.lit (.bool true)], args := [d1, d2] }
  | _ => none }
def refsEndsRow : OpenClaim := { program := "ytkjocehdbpekjaagreat", sum := "fa724009cd714d4341358d8b3ed017dddce6f09b29166374e4d3da4672e2669e", func := "isochron/isochronlaw13.RefsEnds", spec := "refsEnds", unfollowed := true, recurses := true, apart := false }
def RefsEndsSaid : Prop := refsEndsRow.holds Tryz.pinned (OpenSpec.ofChange refsEndsSpec)

/-- ITS FALSE NEIGHBOUR: 'it returns false'. Refute it at one input. -/
def refsEndsWrong : ChangeSpec := { name := "refsEnds", fn := fun _ => fun
  | [d1, d2] => { results := [.lit (.bool false)], args := [d1, d2] }
  | _ => none }
def RefsEndsWrongFalsely : Prop := refsEndsRow.holds Tryz.pinned (OpenSpec.ofChange refsEndsWrong)

/-- 'isochronlaw13.RefsTakes': WHATEVER THE INPUT: true; the input reads as it did. -/
def refsTakesSpec : ChangeSpec := { name := "refsTakes", fn := fun _ => fun
  | [d1, d2] => { results := [.lit (.bool true)], args := [d1, d2] }
  | _ => none }
def refsTakesRow : OpenClaim := { program := "ytkjocehdbpekjaagreat", sum := "fa724009cd714d4341358d8b3ed017dddce6f09b29166374e4d3da4672e2669e", func := "isochron/isochronlaw13.RefsTakes", spec := "refsTakes", unfollowed := true, recurses := true, apart := false }
def RefsTakesSaid : Prop := refsTakesRow.holds Tryz.pinned (OpenSpec.ofChange refsTakesSpec)

/-- ITS FALSE NEIGHBOUR: 'it returns false'. Refute it at one input. -/
def refsTakesWrong : ChangeSpec := { name := "refsTakes", fn := fun _ => fun
  | [d1, d2] => { results := [.lit (.bool false)], args := [d1, d2] }
  | _ => none }
def RefsTakesWrongFalsely : Prop := refsTakesRow.holds Tryz.pinned (OpenSpec.ofChange refsTakesWrong)

/-- 'isochronlaw12.MarkReaches': WHATEVER THE INPUT: true; the input reads as it did. -/
def markReachesSpec : ChangeSpec := { name := "markReaches", fn := fun _ => fun
  | [d1, d2, d3] => { results := [.lit (.bool true)], args := [d1, d2, d3] }
  | _ => none }
def markReachesRow : OpenClaim := { program := "ytkjocehdbpekjaagreat", sum := "fa724009cd714d4341358d8b3ed017dddce6f09b29166374e4d3da4672e2669e", func := "isochron/isochronlaw12.MarkReaches", spec := "markReaches", unfollowed := true, recurses := true, apart := false }
def MarkReachesSaid : Prop := markReachesRow.holds Tryz.pinned (OpenSpec.ofChange markReachesSpec)

/-- ITS FALSE NEIGHBOUR: 'it returns false'. Refute it at one input. -/
def markReachesWrong : ChangeSpec := { name := "markReaches", fn := fun _ => fun
  | [d1, d2, d3] => { results := [.lit (.bool false)], args := [d1, d2, d3] }
  | _ => none }
def MarkReachesWrongFalsely : Prop := markReachesRow.holds Tryz.pinned (OpenSpec.ofChange markReachesWrong)

/-- 'isochronlaw12.MarkSteps': WHATEVER THE INPUT: true; the input reads as it did. -/
def markStepsSpec : ChangeSpec := { name := "markSteps", fn := fun _ => fun
  | [d1, d2, d3, d4] => { results := [.lit (.bool true)], args := [d1, d2, d3, d4] }
  | _ => none }
def markStepsRow : OpenClaim := { program := "ytkjocehdbpekjaagreat", sum := "fa724009cd714d4341358d8b3ed017dddce6f09b29166374e4d3da4672e2669e", func := "isochron/isochronlaw12.MarkSteps", spec := "markSteps", unfollowed := true, recurses := true, apart := false }
def MarkStepsSaid : Prop := markStepsRow.holds Tryz.pinned (OpenSpec.ofChange markStepsSpec)

/-- ITS FALSE NEIGHBOUR: 'it returns false'. Refute it at one input. -/
def markStepsWrong : ChangeSpec := { name := "markSteps", fn := fun _ => fun
  | [d1, d2, d3, d4] => { results := [.lit (.bool false)], args := [d1, d2, d3, d4] }
  | _ => none }
def MarkStepsWrongFalsely : Prop := markStepsRow.holds Tryz.pinned (OpenSpec.ofChange markStepsWrong)

/-- 'isochronlaw12.MarkSnapshot': WHATEVER THE INPUT: true; the input reads as it did. -/
def markSnapshotSpec : ChangeSpec := { name := "markSnapshot", fn := fun _ => fun
  | [d1, d2, d3, d4] => { results := [.lit (.bool true)], args := [d1, d2, d3, d4] }
  | _ => none }
def markSnapshotRow : OpenClaim := { program := "ytkjocehdbpekjaagreat", sum := "fa724009cd714d4341358d8b3ed017dddce6f09b29166374e4d3da4672e2669e", func := "isochron/isochronlaw12.MarkSnapshot", spec := "markSnapshot", unfollowed := true, recurses := true, apart := false }
def MarkSnapshotSaid : Prop := markSnapshotRow.holds Tryz.pinned (OpenSpec.ofChange markSnapshotSpec)

/-- ITS FALSE NEIGHBOUR: 'it returns false'. Refute it at one input. -/
def markSnapshotWrong : ChangeSpec := { name := "markSnapshot", fn := fun _ => fun
  | [d1, d2, d3, d4] => { results := [.lit (.bool false)], args := [d1, d2, d3, d4] }
  | _ => none }
def MarkSnapshotWrongFalsely : Prop := markSnapshotRow.holds Tryz.pinned (OpenSpec.ofChange markSnapshotWrong)

/-- 'isochronlaw12.MarkPlays': WHATEVER THE INPUT: true; the input reads as it did. -/
def markPlaysSpec : ChangeSpec := { name := "markPlays", fn := fun _ => fun
  | [d1, d2, d3, d4] => { results := [.lit (.bool true)], args := [d1, d2, d3, d4] }
  | _ => none }
def markPlaysRow : OpenClaim := { program := "ytkjocehdbpekjaagreat", sum := "fa724009cd714d4341358d8b3ed017dddce6f09b29166374e4d3da4672e2669e", func := "isochron/isochronlaw12.MarkPlays", spec := "markPlays", unfollowed := true, recurses := true, apart := false }
def MarkPlaysSaid : Prop := markPlaysRow.holds Tryz.pinned (OpenSpec.ofChange markPlaysSpec)

/-- ITS FALSE NEIGHBOUR: 'it returns false'. Refute it at one input. -/
def markPlaysWrong : ChangeSpec := { name := "markPlays", fn := fun _ => fun
  | [d1, d2, d3, d4] => { results := [.lit (.bool false)], args := [d1, d2, d3, d4] }
  | _ => none }
def MarkPlaysWrongFalsely : Prop := markPlaysRow.holds Tryz.pinned (OpenSpec.ofChange markPlaysWrong)

/-- 'isochronlaw12.MarkCopies': WHATEVER THE INPUT: true; the input reads as it did. -/
def markCopiesSpec : ChangeSpec := { name := "markCopies", fn := fun _ => fun
  | [d1, d2, d3, d4, d5] => { results := [.lit (.bool true)], args := [d1, d2, d3, d4, d5] }
  | _ => none }
def markCopiesRow : OpenClaim := { program := "ytkjocehdbpekjaagreat", sum := "fa724009cd714d4341358d8b3ed017dddce6f09b29166374e4d3da4672e2669e", func := "isochron/isochronlaw12.MarkCopies", spec := "markCopies", inPlace := ["maps.clone"], unfollowed := true, recurses := true, apart := false }
def MarkCopiesSaid : Prop := markCopiesRow.holds Tryz.pinned (OpenSpec.ofChange markCopiesSpec)

/-- ITS FALSE NEIGHBOUR: 'it returns false'. Refute it at one input. -/
def markCopiesWrong : ChangeSpec := { name := "markCopies", fn := fun _ => fun
  | [d1, d2, d3, d4, d5] => { results := [.lit (.bool false)], args := [d1, d2, d3, d4, d5] }
  | _ => none }
def MarkCopiesWrongFalsely : Prop := markCopiesRow.holds Tryz.pinned (OpenSpec.ofChange markCopiesWrong)

/-- 'isochronlaw13.RefsPlays': WHATEVER THE INPUT: true; the input reads as it did. -/
def refsPlaysSpec : ChangeSpec := { name := "refsPlays", fn := fun _ => fun
  | [d1, d2] => { results := [.lit (.bool true)], args := [d1, d2] }
  | _ => none }
def refsPlaysRow : OpenClaim := { program := "ytkjocehdbpekjaagreat", sum := "fa724009cd714d4341358d8b3ed017dddce6f09b29166374e4d3da4672e2669e", func := "isochron/isochronlaw13.RefsPlays", spec := "refsPlays", unfollowed := true, recurses := true, apart := false }
def RefsPlaysSaid : Prop := refsPlaysRow.holds Tryz.pinned (OpenSpec.ofChange refsPlaysSpec)

/-- ITS FALSE NEIGHBOUR: 'it returns false'. Refute it at one input. -/
def refsPlaysWrong : ChangeSpec := { name := "refsPlays", fn := fun _ => fun
  | [d1, d2] => { results := [.lit (.bool false)], args := [d1, d2] }
  | _ => none }
def RefsPlaysWrongFalsely : Prop := refsPlaysRow.holds Tryz.pinned (OpenSpec.ofChange refsPlaysWrong)

/-- 'isochronlaw13.RefsFinishes': WHATEVER THE INPUT: true; the input reads as it did. -/
def refsFinishesSpec : ChangeSpec := { name := "refsFinishes", fn := fun _ => fun
  | [d1, d2] => { results := [.lit (.bool true)], args := [d1, d2] }
  | _ => none }
def refsFinishesRow : OpenClaim := { program := "ytkjocehdbpekjaagreat", sum := "fa724009cd714d4341358d8b3ed017dddce6f09b29166374e4d3da4672e2669e", func := "isochron/isochronlaw13.RefsFinishes", spec := "refsFinishes", inPlace := ["maps.clone"], unfollowed := true, recurses := true, apart := false }
def RefsFinishesSaid : Prop := refsFinishesRow.holds Tryz.pinned (OpenSpec.ofChange refsFinishesSpec)

/-- ITS FALSE NEIGHBOUR: 'it returns false'. Refute it at one input. -/
def refsFinishesWrong : ChangeSpec := { name := "refsFinishes", fn := fun _ => fun
  | [d1, d2] => { results := [.lit (.bool false)], args := [d1, d2] }
  | _ => none }
def RefsFinishesWrongFalsely : Prop := refsFinishesRow.holds Tryz.pinned (OpenSpec.ofChange refsFinishesWrong)

/- THE SECOND FORM. 'bulk': how many values and letters a reading holds, each counted each time it is reached (what is shared counts as often as it is met; a slice's spare places count too). A statement '..UptoSaid' is the law's where the arguments, and the package variables that the reading takes, are together of bulk at most 1048576: NARROWER than '..Said'. Prove '..Said' where nothing that the law and all that it calls make is longer than what came in: it says more and counts as full. Else prove '..UptoSaid'. A law counts once. -/
mutual
def uptoBulk {H : Type} : DataW H → Nat
  | .lit (.string bytes) => bytes.length + 1
  | .lit _ => 1
  | .nil => 1
  | .ptr d => uptoBulk d + 1
  | .slice elems spare => uptoBulkAll elems + uptoBulkAll spare + 1
  | .agg parts => uptoBulkAll parts + 1
  | .iface _ d => uptoBulk d + 1
  | .map entries => uptoBulkEntries entries + 1
  | .held _ => 1
def uptoBulkAll {H : Type} : List (DataW H) → Nat
  | [] => 0
  | d :: r => uptoBulk d + uptoBulkAll r
def uptoBulkEntries {H : Type} : List (Lit × DataW H) → Nat
  | [] => 0
  | x :: r => uptoBulkEntry x + uptoBulkEntries r
def uptoBulkEntry {H : Type} : Lit × DataW H → Nat
  | (.string bytes, d) => bytes.length + uptoBulk d + 1
  | (_, d) => uptoBulk d + 1
 end
def uptoSmall : (H : Type) → List (DataW H) → Bool := fun _ ds => decide (uptoBulkAll ds ≤ 1048576)
def OpenSpec.upto (s : _root_.Go.ChangeSpec) : _root_.Go.OpenSpec := { _root_.Go.OpenSpec.ofChange s with cond := some uptoSmall }

/-- 'isochronlaw13.RefsNothing', WHERE WHAT IT READS IS OF BULK AT MOST 1048576: true; the input reads as it did. -/
def refsNothingUptoRow : OpenClaim := { program := "ytkjocehdbpekjaagreat", sum := "fa724009cd714d4341358d8b3ed017dddce6f09b29166374e4d3da4672e2669e", func := "isochron/isochronlaw13.RefsNothing", spec := "refsNothing", inPlace := ["maps.clone"], unfollowed := true, recurses := true, apart := false, narrowed := true }
def RefsNothingUptoSaid : Prop := refsNothingUptoRow.holds Tryz.pinned (OpenSpec.upto refsNothingSpec)

/-- 'isochronlaw13.RefsEnds', WHERE WHAT IT READS IS OF BULK AT MOST 1048576: true; the input reads as it did. -/
def refsEndsUptoRow : OpenClaim := { program := "ytkjocehdbpekjaagreat", sum := "fa724009cd714d4341358d8b3ed017dddce6f09b29166374e4d3da4672e2669e", func := "isochron/isochronlaw13.RefsEnds", spec := "refsEnds", unfollowed := true, recurses := true, apart := false, narrowed := true }
def RefsEndsUptoSaid : Prop := refsEndsUptoRow.holds Tryz.pinned (OpenSpec.upto refsEndsSpec)

/-- 'isochronlaw13.RefsTakes', WHERE WHAT IT READS IS OF BULK AT MOST 1048576: true; the input reads as it did. -/
def refsTakesUptoRow : OpenClaim := { program := "ytkjocehdbpekjaagreat", sum := "fa724009cd714d4341358d8b3ed017dddce6f09b29166374e4d3da4672e2669e", func := "isochron/isochronlaw13.RefsTakes", spec := "refsTakes", unfollowed := true, recurses := true, apart := false, narrowed := true }
def RefsTakesUptoSaid : Prop := refsTakesUptoRow.holds Tryz.pinned (OpenSpec.upto refsTakesSpec)

/-- 'isochronlaw12.MarkReaches', WHERE WHAT IT READS IS OF BULK AT MOST 1048576: true; the input reads as it did. -/
def markReachesUptoRow : OpenClaim := { program := "ytkjocehdbpekjaagreat", sum := "fa724009cd714d4341358d8b3ed017dddce6f09b29166374e4d3da4672e2669e", func := "isochron/isochronlaw12.MarkReaches", spec := "markReaches", unfollowed := true, recurses := true, apart := false, narrowed := true }
def MarkReachesUptoSaid : Prop := markReachesUptoRow.holds Tryz.pinned (OpenSpec.upto markReachesSpec)

/-- 'isochronlaw12.MarkSteps', WHERE WHAT IT READS IS OF BULK AT MOST 1048576: true; the input reads as it did. -/
def markStepsUptoRow : OpenClaim := { program := "ytkjocehdbpekjaagreat", sum := "fa724009cd714d4341358d8b3ed017dddce6f09b29166374e4d3da4672e2669e", func := "isochron/isochronlaw12.MarkSteps", spec := "markSteps", unfollowed := true, recurses := true, apart := false, narrowed := true }
def MarkStepsUptoSaid : Prop := markStepsUptoRow.holds Tryz.pinned (OpenSpec.upto markStepsSpec)

/-- 'isochronlaw12.MarkSnapshot', WHERE WHAT IT READS IS OF BULK AT MOST 1048576: true; the input reads as it did. -/
def markSnapshotUptoRow : OpenClaim := { program := "ytkjocehdbpekjaagreat", sum := "fa724009cd714d4341358d8b3ed017dddce6f09b29166374e4d3da4672e2669e", func := "isochron/isochronlaw12.MarkSnapshot", spec := "markSnapshot", unfollowed := true, recurses := true, apart := false, narrowed := true }
def MarkSnapshotUptoSaid : Prop := markSnapshotUptoRow.holds Tryz.pinned (OpenSpec.upto markSnapshotSpec)

/-- 'isochronlaw12.MarkPlays', WHERE WHAT IT READS IS OF BULK AT MOST 1048576: true; the input reads as it did. -/
def markPlaysUptoRow : OpenClaim := { program := "ytkjocehdbpekjaagreat", sum := "fa724009cd714d4341358d8b3ed017dddce6f09b29166374e4d3da4672e2669e", func := "isochron/isochronlaw12.MarkPlays", spec := "markPlays", unfollowed := true, recurses := true, apart := false, narrowed := true }
def MarkPlaysUptoSaid : Prop := markPlaysUptoRow.holds Tryz.pinned (OpenSpec.upto markPlaysSpec)

/-- 'isochronlaw12.MarkCopies', WHERE WHAT IT READS IS OF BULK AT MOST 1048576: true; the input reads as it did. -/
def markCopiesUptoRow : OpenClaim := { program := "ytkjocehdbpekjaagreat", sum := "fa724009cd714d4341358d8b3ed017dddce6f09b29166374e4d3da4672e2669e", func := "isochron/isochronlaw12.MarkCopies", spec := "markCopies", inPlace := ["maps.clone"], unfollowed := true, recurses := true, apart := false, narrowed := true }
def MarkCopiesUptoSaid : Prop := markCopiesUptoRow.holds Tryz.pinned (OpenSpec.upto markCopiesSpec)

/-- 'isochronlaw13.RefsPlays', WHERE WHAT IT READS IS OF BULK AT MOST 1048576: true; the input reads as it did. -/
def refsPlaysUptoRow : OpenClaim := { program := "ytkjocehdbpekjaagreat", sum := "fa724009cd714d4341358d8b3ed017dddce6f09b29166374e4d3da4672e2669e", func := "isochron/isochronlaw13.RefsPlays", spec := "refsPlays", unfollowed := true, recurses := true, apart := false, narrowed := true }
def RefsPlaysUptoSaid : Prop := refsPlaysUptoRow.holds Tryz.pinned (OpenSpec.upto refsPlaysSpec)

/-- 'isochronlaw13.RefsFinishes', WHERE WHAT IT READS IS OF BULK AT MOST 1048576: true; the input reads as it did. -/
def refsFinishesUptoRow : OpenClaim := { program := "ytkjocehdbpekjaagreat", sum := "fa724009cd714d4341358d8b3ed017dddce6f09b29166374e4d3da4672e2669e", func := "isochron/isochronlaw13.RefsFinishes", spec := "refsFinishes", inPlace := ["maps.clone"], unfollowed := true, recurses := true, apart := false, narrowed := true }
def RefsFinishesUptoSaid : Prop := refsFinishesUptoRow.holds Tryz.pinned (OpenSpec.upto refsFinishesSpec)

end Rows
end Go.Proofs.YtkjocehdbpekjaaGreat
