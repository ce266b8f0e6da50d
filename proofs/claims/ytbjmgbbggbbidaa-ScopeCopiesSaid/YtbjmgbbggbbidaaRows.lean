/-
  No cell of these rows narrows 'for every input' (looked for: loops, veiled, ifaces, maps, wideKeys, modest, calm, conditions, laid).
  DERIVED. THE GIVEN ROWS OF THIS SEAT. 9 by the template 'for every input the law returns true; each argument reads behind the call as it read before'; 0 by the template 'total and deterministic' (their statements: YtbjmgbbggbbidaaTotals.lean).
  GIVEN WITH THE SEED: the statements are not yours to turn. If you find one false, say at which input.
  Laid BY PROGRAM, IN A SANDBOX (cutbox-rows.mjs): the forced cells as the released guide's own fill.sh prints them over the translation 03ab77fa1c6e633c… (all of the seat's roots in one cut). By AI agents, Wed Nov 11 2026. No macro, syntax, notation, axiom, sorry.
-/
import Derived.Test.YtbjmgbbggbbidaaChecked
import GoSem.Claim
import GoSem.ClaimJoined
import GoSem.ClaimMapViews
import Derived.JoinedTies
import Derived.KernelRfl
namespace Go.Proofs.Ytbjmgbbggbbidaa
/- THE CELL 'sum', in the pinned program and in every row, IS THE sha256 OF THE DUMP (.gsa) THAT YtbjmgbbggbbidaaProg.lean LOADS. Nothing in Lean hashes anything: it is a label: what it is worth is what the hold of that sum in a sandbox is worth. -/
noncomputable def Try.pinned : Pinned := { name := "ytbjmgbbggbbidaa", sum := "03ab77fa1c6e633c6dc57ae6c9191c9c0d8d71151d56b65a26196257ad697ce3", checked := Try.checked }
namespace Rows
def none {H : Type} : Left H := { results := [], args := [] }

/-- 'isochronlaw15.ScopeParents': WHATEVER THE INPUT: true; the input reads as it did. -/
def scopeParentsSpec : ChangeSpec := { name := "scopeParents", fn := fun _ => fun
  | [d1, d2] => { results := [.lit (.bool true)], args := [d1, d2] }
  | _ => none }
def scopeParentsRow : OpenClaim := { program := "ytbjmgbbggbbidaa", sum := "03ab77fa1c6e633c6dc57ae6c9191c9c0d8d71151d56b65a26196257ad697ce3", func := "isochron/isochronlaw15.ScopeParents", spec := "scopeParents", unfollowed := true, recurses := true, apart := false }
def ScopeParentsSaid : Prop := scopeParentsRow.holds Try.pinned (OpenSpec.ofChange scopeParentsSpec)

/-- ITS FALSE NEIGHBOUR: 'it returns false'. Refute it at one input. -/
def scopeParentsWrong : ChangeSpec := { name := "scopeParents", fn := fun _ => fun
  | [d1, d2] => { results := [.lit (.bool false)], args := [d1, d2] }
  | _ => none }
def ScopeParentsWrongFalsely : Prop := scopeParentsRow.holds Try.pinned (OpenSpec.ofChange scopeParentsWrong)

/-- 'isochronlaw15.ScopeRooms': WHATEVER THE INPUT: true; the input reads as it did. -/
def scopeRoomsSpec : ChangeSpec := { name := "scopeRooms", fn := fun _ => fun
  | [d1, d2] => { results := [.lit (.bool true)], args := [d1, d2] }
  | _ => none }
def scopeRoomsRow : OpenClaim := { program := "ytbjmgbbggbbidaa", sum := "03ab77fa1c6e633c6dc57ae6c9191c9c0d8d71151d56b65a26196257ad697ce3", func := "isochron/isochronlaw15.ScopeRooms", spec := "scopeRooms", unfollowed := true, recurses := true, apart := false }
def ScopeRoomsSaid : Prop := scopeRoomsRow.holds Try.pinned (OpenSpec.ofChange scopeRoomsSpec)

/-- ITS FALSE NEIGHBOUR: 'it returns false'. Refute it at one input. -/
def scopeRoomsWrong : ChangeSpec := { name := "scopeRooms", fn := fun _ => fun
  | [d1, d2] => { results := [.lit (.bool false)], args := [d1, d2] }
  | _ => none }
def ScopeRoomsWrongFalsely : Prop := scopeRoomsRow.holds Try.pinned (OpenSpec.ofChange scopeRoomsWrong)

/-- 'isochronlaw15.ScopeLeaves': WHATEVER THE INPUT: true; the input reads as it did. -/
def scopeLeavesSpec : ChangeSpec := { name := "scopeLeaves", fn := fun _ => fun
  | [d1, d2] => { results := [.lit (.bool true)], args := [d1, d2] }
  | _ => none }
def scopeLeavesRow : OpenClaim := { program := "ytbjmgbbggbbidaa", sum := "03ab77fa1c6e633c6dc57ae6c9191c9c0d8d71151d56b65a26196257ad697ce3", func := "isochron/isochronlaw15.ScopeLeaves", spec := "scopeLeaves", unfollowed := true, recurses := true, apart := false }
def ScopeLeavesSaid : Prop := scopeLeavesRow.holds Try.pinned (OpenSpec.ofChange scopeLeavesSpec)

/-- ITS FALSE NEIGHBOUR: 'it returns false'. Refute it at one input. -/
def scopeLeavesWrong : ChangeSpec := { name := "scopeLeaves", fn := fun _ => fun
  | [d1, d2] => { results := [.lit (.bool false)], args := [d1, d2] }
  | _ => none }
def ScopeLeavesWrongFalsely : Prop := scopeLeavesRow.holds Try.pinned (OpenSpec.ofChange scopeLeavesWrong)

/-- 'isochronlaw15.ScopeSame': WHATEVER THE INPUT: true; the input reads as it did. -/
def scopeSameSpec : ChangeSpec := { name := "scopeSame", fn := fun _ => fun
  | [d1, d2, d3] => { results := [.lit (.bool true)], args := [d1, d2, d3] }
  | _ => none }
def scopeSameRow : OpenClaim := { program := "ytbjmgbbggbbidaa", sum := "03ab77fa1c6e633c6dc57ae6c9191c9c0d8d71151d56b65a26196257ad697ce3", func := "isochron/isochronlaw15.ScopeSame", spec := "scopeSame", unfollowed := true, recurses := true, apart := false }
def ScopeSameSaid : Prop := scopeSameRow.holds Try.pinned (OpenSpec.ofChange scopeSameSpec)

/-- ITS FALSE NEIGHBOUR: 'it returns false'. Refute it at one input. -/
def scopeSameWrong : ChangeSpec := { name := "scopeSame", fn := fun _ => fun
  | [d1, d2, d3] => { results := [.lit (.bool false)], args := [d1, d2, d3] }
  | _ => none }
def ScopeSameWrongFalsely : Prop := scopeSameRow.holds Try.pinned (OpenSpec.ofChange scopeSameWrong)

/-- 'isochronlaw15.ScopeAsks': WHATEVER THE INPUT: true; the input reads as it did. -/
def scopeAsksSpec : ChangeSpec := { name := "scopeAsks", fn := fun _ => fun
  | [d1, d2, d3] => { results := [.lit (.bool true)], args := [d1, d2, d3] }
  | _ => none }
def scopeAsksRow : OpenClaim := { program := "ytbjmgbbggbbidaa", sum := "03ab77fa1c6e633c6dc57ae6c9191c9c0d8d71151d56b65a26196257ad697ce3", func := "isochron/isochronlaw15.ScopeAsks", spec := "scopeAsks", unfollowed := true, recurses := true, apart := false }
def ScopeAsksSaid : Prop := scopeAsksRow.holds Try.pinned (OpenSpec.ofChange scopeAsksSpec)

/-- ITS FALSE NEIGHBOUR: 'it returns false'. Refute it at one input. -/
def scopeAsksWrong : ChangeSpec := { name := "scopeAsks", fn := fun _ => fun
  | [d1, d2, d3] => { results := [.lit (.bool false)], args := [d1, d2, d3] }
  | _ => none }
def ScopeAsksWrongFalsely : Prop := scopeAsksRow.holds Try.pinned (OpenSpec.ofChange scopeAsksWrong)

/-- 'isochronlaw15.ScopeSafe': WHATEVER THE INPUT: true; the input reads as it did. -/
def scopeSafeSpec : ChangeSpec := { name := "scopeSafe", fn := fun _ => fun
  | [d1, d2] => { results := [.lit (.bool true)], args := [d1, d2] }
  | _ => none }
def scopeSafeRow : OpenClaim := { program := "ytbjmgbbggbbidaa", sum := "03ab77fa1c6e633c6dc57ae6c9191c9c0d8d71151d56b65a26196257ad697ce3", func := "isochron/isochronlaw15.ScopeSafe", spec := "scopeSafe", unfollowed := true, recurses := true, apart := false }
def ScopeSafeSaid : Prop := scopeSafeRow.holds Try.pinned (OpenSpec.ofChange scopeSafeSpec)

/-- ITS FALSE NEIGHBOUR: 'it returns false'. Refute it at one input. -/
def scopeSafeWrong : ChangeSpec := { name := "scopeSafe", fn := fun _ => fun
  | [d1, d2] => { results := [.lit (.bool false)], args := [d1, d2] }
  | _ => none }
def ScopeSafeWrongFalsely : Prop := scopeSafeRow.holds Try.pinned (OpenSpec.ofChange scopeSafeWrong)

/-- 'isochronlaw15.ScopePlays': WHATEVER THE INPUT: true; the input reads as it did. -/
def scopePlaysSpec : ChangeSpec := { name := "scopePlays", fn := fun _ => fun
  | [d1, d2] => { results := [.lit (.bool true)], args := [d1, d2] }
  | _ => none }
def scopePlaysRow : OpenClaim := { program := "ytbjmgbbggbbidaa", sum := "03ab77fa1c6e633c6dc57ae6c9191c9c0d8d71151d56b65a26196257ad697ce3", func := "isochron/isochronlaw15.ScopePlays", spec := "scopePlays", unfollowed := true, recurses := true, apart := false }
def ScopePlaysSaid : Prop := scopePlaysRow.holds Try.pinned (OpenSpec.ofChange scopePlaysSpec)

/-- ITS FALSE NEIGHBOUR: 'it returns false'. Refute it at one input. -/
def scopePlaysWrong : ChangeSpec := { name := "scopePlays", fn := fun _ => fun
  | [d1, d2] => { results := [.lit (.bool false)], args := [d1, d2] }
  | _ => none }
def ScopePlaysWrongFalsely : Prop := scopePlaysRow.holds Try.pinned (OpenSpec.ofChange scopePlaysWrong)

/-- 'isochronlaw15.ScopeNothing': WHATEVER THE INPUT: true; the input reads as it did. -/
def scopeNothingSpec : ChangeSpec := { name := "scopeNothing", fn := fun _ => fun
  | [d] => { results := [.lit (.bool true)], args := [d] }
  | _ => none }
def scopeNothingRow : OpenClaim := { program := "ytbjmgbbggbbidaa", sum := "03ab77fa1c6e633c6dc57ae6c9191c9c0d8d71151d56b65a26196257ad697ce3", func := "isochron/isochronlaw15.ScopeNothing", spec := "scopeNothing", unfollowed := true, recurses := true, apart := false }
def ScopeNothingSaid : Prop := scopeNothingRow.holds Try.pinned (OpenSpec.ofChange scopeNothingSpec)

/-- ITS FALSE NEIGHBOUR: 'it returns false'. Refute it at one input. -/
def scopeNothingWrong : ChangeSpec := { name := "scopeNothing", fn := fun _ => fun
  | [d] => { results := [.lit (.bool false)], args := [d] }
  | _ => none }
def ScopeNothingWrongFalsely : Prop := scopeNothingRow.holds Try.pinned (OpenSpec.ofChange scopeNothingWrong)

/-- 'isochronlaw15.ScopeCopies': WHATEVER THE INPUT: true; the input reads as it did. -/
def scopeCopiesSpec : ChangeSpec := { name := "scopeCopies", fn := fun _ => fun
  | [d1, d2, d3] => { results := [.lit (.bool true)], args := [d1, d2, d3] }
  | _ => none }
def scopeCopiesRow : OpenClaim := { program := "ytbjmgbbggbbidaa", sum := "03ab77fa1c6e633c6dc57ae6c9191c9c0d8d71151d56b65a26196257ad697ce3", func := "isochron/isochronlaw15.ScopeCopies", spec := "scopeCopies", unfollowed := true, recurses := true, apart := false }
def ScopeCopiesSaid : Prop := scopeCopiesRow.holds Try.pinned (OpenSpec.ofChange scopeCopiesSpec)

/-- ITS FALSE NEIGHBOUR: 'it returns false'. Refute it at one input. -/
def scopeCopiesWrong : ChangeSpec := { name := "scopeCopies", fn := fun _ => fun
  | [d1, d2, d3] => { results := [.lit (.bool false)], args := [d1, d2, d3] }
  | _ => none }
def ScopeCopiesWrongFalsely : Prop := scopeCopiesRow.holds Try.pinned (OpenSpec.ofChange scopeCopiesWrong)

/- THE SECOND FORM. 'bulk': how many values and letters a reading holds, each counted each time it is reached (what is shared counts as often as it is met; a slice's spare places count too). A statement '..UptoSaid' is the law's where the arguments, and the package variables that the reading takes, are together of bulk at most 1048576: NARROWER than '..Said'. Prove '..Said' where nothing that the law and all that it calls make is longer than what came in: it says more and counts as full. Else prove '..UptoSaid'. A law counts once. -/
mutual
def uptoBulk {H : Type} : DataW H → Nat
  | .lit (.string bytes) => bytes.length + 1
  | .lit _ => 1
  | .nil => 1
  | .ptr d => uptoBulk d + 1
  | .slice elems spare => uptoBulkAll elems + uptoBulkAll spare + 1
  | .agg parts => uptoBulkAll parts + 1
  | .iface _ d => uptoBulk d + 1
  | .map entries => uptoBulkEntries entries + 1
  | .held _ => 1
def uptoBulkAll {H : Type} : List (DataW H) → Nat
  | [] => 0
  | d :: r => uptoBulk d + uptoBulkAll r
def uptoBulkEntries {H : Type} : List (Lit × DataW H) → Nat
  | [] => 0
  | x :: r => uptoBulkEntry x + uptoBulkEntries r
def uptoBulkEntry {H : Type} : Lit × DataW H → Nat
  | (.string bytes, d) => bytes.length + uptoBulk d + 1
  | (_, d) => uptoBulk d + 1
 end
def uptoSmall : (H : Type) → List (DataW H) → Bool := fun _ ds => decide (uptoBulkAll ds ≤ 1048576)
def OpenSpec.upto (s : _root_.Go.ChangeSpec) : _root_.Go.OpenSpec := { _root_.Go.OpenSpec.ofChange s with cond := some uptoSmall }

/-- 'isochronlaw15.ScopeParents', WHERE WHAT IT READS IS OF BULK AT MOST 1048576: true; the input reads as it did. -/
def scopeParentsUptoRow : OpenClaim := { program := "ytbjmgbbggbbidaa", sum := "03ab77fa1c6e633c6dc57ae6c9191c9c0d8d71151d56b65a26196257ad697ce3", func := "isochron/isochronlaw15.ScopeParents", spec := "scopeParents", unfollowed := true, recurses := true, apart := false, narrowed := true }
def ScopeParentsUptoSaid : Prop := scopeParentsUptoRow.holds Try.pinned (OpenSpec.upto scopeParentsSpec)

/-- 'isochronlaw15.ScopeRooms', WHERE WHAT IT READS IS OF BULK AT MOST 1048576: true; the input reads as it did. -/
def scopeRoomsUptoRow : OpenClaim := { program := "ytbjmgbbggbbidaa", sum := "03ab77fa1c6e633c6dc57ae6c9191c9c0d8d71151d56b65a26196257ad697ce3", func := "isochron/isochronlaw15.ScopeRooms", spec := "scopeRooms", unfollowed := true, recurses := true, apart := false, narrowed := true }
def ScopeRoomsUptoSaid : Prop := scopeRoomsUptoRow.holds Try.pinned (OpenSpec.upto scopeRoomsSpec)

/-- 'isochronlaw15.ScopeLeaves', WHERE WHAT IT READS IS OF BULK AT MOST 1048576: true; the input reads as it did. -/
def scopeLeavesUptoRow : OpenClaim := { program := "ytbjmgbbggbbidaa", sum := "03ab77fa1c6e633c6dc57ae6c9191c9c0d8d71151d56b65a26196257ad697ce3", func := "isochron/isochronlaw15.ScopeLeaves", spec := "scopeLeaves", unfollowed := true, recurses := true, apart := false, narrowed := true }
def ScopeLeavesUptoSaid : Prop := scopeLeavesUptoRow.holds Try.pinned (OpenSpec.upto scopeLeavesSpec)

/-- 'isochronlaw15.ScopeSame', WHERE WHAT IT READS IS OF BULK AT MOST 1048576: true; the input reads as it did. -/
def scopeSameUptoRow : OpenClaim := { program := "ytbjmgbbggbbidaa", sum := "03ab77fa1c6e633c6dc57ae6c9191c9c0d8d71151d56b65a26196257ad697ce3", func := "isochron/isochronlaw15.ScopeSame", spec := "scopeSame", unfollowed := true, recurses := true, apart := false, narrowed := true }
def ScopeSameUptoSaid : Prop := scopeSameUptoRow.holds Try.pinned (OpenSpec.upto scopeSameSpec)

/-- 'isochronlaw15.ScopeAsks', WHERE WHAT IT READS IS OF BULK AT MOST 1048576: true; the input reads as it did. -/
def scopeAsksUptoRow : OpenClaim := { program := "ytbjmgbbggbbidaa", sum := "03ab77fa1c6e633c6dc57ae6c9191c9c0d8d71151d56b65a26196257ad697ce3", func := "isochron/isochronlaw15.ScopeAsks", spec := "scopeAsks", unfollowed := true, recurses := true, apart := false, narrowed := true }
def ScopeAsksUptoSaid : Prop := scopeAsksUptoRow.holds Try.pinned (OpenSpec.upto scopeAsksSpec)

/-- 'isochronlaw15.ScopeSafe', WHERE WHAT IT READS IS OF BULK AT MOST 1048576: true; the input reads as it did. -/
def scopeSafeUptoRow : OpenClaim := { program := "ytbjmgbbggbbidaa", sum := "03ab77fa1c6e633c6dc57ae6c9191c9c0d8d71151d56b65a26196257ad697ce3", func := "isochron/isochronlaw15.ScopeSafe", spec := "scopeSafe", unfollowed := true, recurses := true, apart := false, narrowed := true }
def ScopeSafeUptoSaid : Prop := scopeSafeUptoRow.holds Try.pinned (OpenSpec.upto scopeSafeSpec)

/-- 'isochronlaw15.ScopePlays', WHERE WHAT IT READS IS OF BULK AT MOST 1048576: true; the input reads as it did. -/
def scopePlaysUptoRow : OpenClaim := { program := "ytbjmgbbggbbidaa", sum := "03ab77fa1c6e633c6dc57ae6c9191c9c0d8d71151d56b65a26196257ad697ce3", func := "isochron/isochronlaw15.ScopePlays", spec := "scopePlays", unfollowed := true, recurses := true, apart := false, narrowed := true }
def ScopePlaysUptoSaid : Prop := scopePlaysUptoRow.holds Try.pinned (OpenSpec.upto scopePlaysSpec)

/-- 'isochronlaw15.ScopeNothing', WHERE WHAT IT READS IS OF BULK AT MOST 1048576: true; the input reads as it did. -/
def scopeNothingUptoRow : OpenClaim := { program := "ytbjmgbbggbbidaa", sum := "03ab77fa1c6e633c6dc57ae6c9191c9c0d8d71151d56b65a26196257ad697ce3", func := "isochron/isochronlaw15.ScopeNothing", spec := "scopeNothing", unfollowed := true, recurses := true, apart := false, narrowed := true }
def ScopeNothingUptoSaid : Prop := scopeNothingUptoRow.holds Try.pinned (OpenSpec.upto scopeNothingSpec)

/-- 'isochronlaw15.ScopeCopies', WHERE WHAT IT READS IS OF BULK AT MOST 1048576: true; the input reads as it did. -/
def scopeCopiesUptoRow : OpenClaim := { program := "ytbjmgbbggbbidaa", sum := "03ab77fa1c6e633c6dc57ae6c9191c9c0d8d71151d56b65a26196257ad697ce3", func := "isochron/isochronlaw15.ScopeCopies", spec := "scopeCopies", unfollowed := true, recurses := true, apart := false, narrowed := true }
def ScopeCopiesUptoSaid : Prop := scopeCopiesUptoRow.holds Try.pinned (OpenSpec.upto scopeCopiesSpec)

end Rows
end Go.Proofs.Ytbjmgbbggbbidaa
