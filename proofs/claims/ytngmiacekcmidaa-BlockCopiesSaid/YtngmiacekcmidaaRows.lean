/-
  No cell of these rows narrows 'for every input' (looked for: loops, veiled, ifaces, maps, wideKeys, modest, calm, conditions, laid).
  DERIVED. THE GIVEN ROWS OF THIS SEAT. 9 by the template 'for every input the law returns true; each argument reads behind the call as it read before'; 0 by the template 'total and deterministic' (their statements: YtngmiacekcmidaaTotals.lean).
  GIVEN WITH THE SEED: the statements are not yours to turn. If you find one false, say at which input.
  Laid BY PROGRAM, IN A SANDBOX (cutbox-rows.mjs): the forced cells as the released guide's own fill.sh prints them over the translation 5ec4b321b124ff8c… (all of the seat's roots in one cut). By AI agents, Wed Nov 11 2026. No macro, syntax, notation, axiom, sorry.
-/
import Derived.Test.YtngmiacekcmidaaChecked
import GoSem.Claim
import GoSem.ClaimJoined
import GoSem.ClaimMapViews
import Derived.JoinedTies
import Derived.KernelRfl
namespace Go.Proofs.Ytngmiacekcmidaa
/- THE CELL 'sum', in the pinned program and in every row, IS THE sha256 OF THE DUMP (.gsa) THAT YtngmiacekcmidaaProg.lean LOADS. Nothing in Lean hashes anything: it is a label: what it is worth is what the hold of that sum in a sandbox is worth. -/
noncomputable def Try.pinned : Pinned := { name := "ytngmiacekcmidaa", sum := "5ec4b321b124ff8cbaaf98299e2c1223ffb290653076de144fd17e4a77d57b00", checked := Try.checked }
namespace Rows
def none {H : Type} : Left H := { results := [], args := [] }

/-- 'isochronlaw10.BlockKeeps': WHATEVER THE INPUT: true; the input reads as it did. -/
def blockKeepsSpec : ChangeSpec := { name := "blockKeeps", fn := fun _ => fun
  | [d1, d2, d3, d4, d5] => { results := [.lit (.bool true)], args := [d1, d2, d3, d4, d5] }
  | _ => none }
def blockKeepsRow : OpenClaim := { program := "ytngmiacekcmidaa", sum := "5ec4b321b124ff8cbaaf98299e2c1223ffb290653076de144fd17e4a77d57b00", func := "isochron/isochronlaw10.BlockKeeps", spec := "blockKeeps", unfollowed := true, recurses := true, apart := false }
def BlockKeepsSaid : Prop := blockKeepsRow.holds Try.pinned (OpenSpec.ofChange blockKeepsSpec)

/-- ITS FALSE NEIGHBOUR: 'it returns false'. Refute it at one input. -/
def blockKeepsWrong : ChangeSpec := { name := "blockKeeps", fn := fun _ => fun
  | [d1, d2, d3, d4, d5] => { results := [.lit (.bool false)], args := [d1, d2, d3, d4, d5] }
  | _ => none }
def BlockKeepsWrongFalsely : Prop := blockKeepsRow.holds Try.pinned (OpenSpec.ofChange blockKeepsWrong)

/-- 'isochronlaw10.BlockPlays': WHATEVER THE INPUT: true; the input reads as it did. -/
def blockPlaysSpec : ChangeSpec := { name := "blockPlays", fn := fun _ => fun
  | [d1, d2] => { results := [.lit (.bool true)], args := [d1, d2] }
  | _ => none }
def blockPlaysRow : OpenClaim := { program := "ytngmiacekcmidaa", sum := "5ec4b321b124ff8cbaaf98299e2c1223ffb290653076de144fd17e4a77d57b00", func := "isochron/isochronlaw10.BlockPlays", spec := "blockPlays", unfollowed := true, recurses := true, apart := false }
def BlockPlaysSaid : Prop := blockPlaysRow.holds Try.pinned (OpenSpec.ofChange blockPlaysSpec)

/-- ITS FALSE NEIGHBOUR: 'it returns false'. Refute it at one input. -/
def blockPlaysWrong : ChangeSpec := { name := "blockPlays", fn := fun _ => fun
  | [d1, d2] => { results := [.lit (.bool false)], args := [d1, d2] }
  | _ => none }
def BlockPlaysWrongFalsely : Prop := blockPlaysRow.holds Try.pinned (OpenSpec.ofChange blockPlaysWrong)

/-- 'isochronlaw10.BlockRooms': WHATEVER THE INPUT: true; the input reads as it did. -/
def blockRoomsSpec : ChangeSpec := { name := "blockRooms", fn := fun _ => fun
  | [d1, d2, d3] => { results := [.lit (.bool true)], args := [d1, d2, d3] }
  | _ => none }
def blockRoomsRow : OpenClaim := { program := "ytngmiacekcmidaa", sum := "5ec4b321b124ff8cbaaf98299e2c1223ffb290653076de144fd17e4a77d57b00", func := "isochron/isochronlaw10.BlockRooms", spec := "blockRooms", unfollowed := true, recurses := true, apart := false }
def BlockRoomsSaid : Prop := blockRoomsRow.holds Try.pinned (OpenSpec.ofChange blockRoomsSpec)

/-- ITS FALSE NEIGHBOUR: 'it returns false'. Refute it at one input. -/
def blockRoomsWrong : ChangeSpec := { name := "blockRooms", fn := fun _ => fun
  | [d1, d2, d3] => { results := [.lit (.bool false)], args := [d1, d2, d3] }
  | _ => none }
def BlockRoomsWrongFalsely : Prop := blockRoomsRow.holds Try.pinned (OpenSpec.ofChange blockRoomsWrong)

/-- 'isochronlaw10.BlockFrees': WHATEVER THE INPUT: true; the input reads as it did. -/
def blockFreesSpec : ChangeSpec := { name := "blockFrees", fn := fun _ => fun
  | [d1, d2, d3] => { results := [.lit (.bool true)], args := [d1, d2, d3] }
  | _ => none }
def blockFreesRow : OpenClaim := { program := "ytngmiacekcmidaa", sum := "5ec4b321b124ff8cbaaf98299e2c1223ffb290653076de144fd17e4a77d57b00", func := "isochron/isochronlaw10.BlockFrees", spec := "blockFrees", unfollowed := true, recurses := true, apart := false }
def BlockFreesSaid : Prop := blockFreesRow.holds Try.pinned (OpenSpec.ofChange blockFreesSpec)

/-- ITS FALSE NEIGHBOUR: 'it returns false'. Refute it at one input. -/
def blockFreesWrong : ChangeSpec := { name := "blockFrees", fn := fun _ => fun
  | [d1, d2, d3] => { results := [.lit (.bool false)], args := [d1, d2, d3] }
  | _ => none }
def BlockFreesWrongFalsely : Prop := blockFreesRow.holds Try.pinned (OpenSpec.ofChange blockFreesWrong)

/-- 'isochronlaw10.BlockCompacts': WHATEVER THE INPUT: true; the input reads as it did. -/
def blockCompactsSpec : ChangeSpec := { name := "blockCompacts", fn := fun _ => fun
  | [d1, d2] => { results := [.lit (.bool true)], args := [d1, d2] }
  | _ => none }
def blockCompactsRow : OpenClaim := { program := "ytngmiacekcmidaa", sum := "5ec4b321b124ff8cbaaf98299e2c1223ffb290653076de144fd17e4a77d57b00", func := "isochron/isochronlaw10.BlockCompacts", spec := "blockCompacts", unfollowed := true, recurses := true, apart := false }
def BlockCompactsSaid : Prop := blockCompactsRow.holds Try.pinned (OpenSpec.ofChange blockCompactsSpec)

/-- ITS FALSE NEIGHBOUR: 'it returns false'. Refute it at one input. -/
def blockCompactsWrong : ChangeSpec := { name := "blockCompacts", fn := fun _ => fun
  | [d1, d2] => { results := [.lit (.bool false)], args := [d1, d2] }
  | _ => none }
def BlockCompactsWrongFalsely : Prop := blockCompactsRow.holds Try.pinned (OpenSpec.ofChange blockCompactsWrong)

/-- 'isochronlaw10.BlockStates': WHATEVER THE INPUT: true; the input reads as it did. -/
def blockStatesSpec : ChangeSpec := { name := "blockStates", fn := fun _ => fun
  | [d1, d2, d3, d4] => { results := [.lit (.bool true)], args := [d1, d2, d3, d4] }
  | _ => none }
def blockStatesRow : OpenClaim := { program := "ytngmiacekcmidaa", sum := "5ec4b321b124ff8cbaaf98299e2c1223ffb290653076de144fd17e4a77d57b00", func := "isochron/isochronlaw10.BlockStates", spec := "blockStates", unfollowed := true, recurses := true, apart := false }
def BlockStatesSaid : Prop := blockStatesRow.holds Try.pinned (OpenSpec.ofChange blockStatesSpec)

/-- ITS FALSE NEIGHBOUR: 'it returns false'. Refute it at one input. -/
def blockStatesWrong : ChangeSpec := { name := "blockStates", fn := fun _ => fun
  | [d1, d2, d3, d4] => { results := [.lit (.bool false)], args := [d1, d2, d3, d4] }
  | _ => none }
def BlockStatesWrongFalsely : Prop := blockStatesRow.holds Try.pinned (OpenSpec.ofChange blockStatesWrong)

/-- 'isochronlaw10.BlockDoes': WHATEVER THE INPUT: true; the input reads as it did. -/
def blockDoesSpec : ChangeSpec := { name := "blockDoes", fn := fun _ => fun
  | [d1, d2, d3, d4, d5] => { results := [.lit (.bool true)], args := [d1, d2, d3, d4, d5] }
  | _ => none }
def blockDoesRow : OpenClaim := { program := "ytngmiacekcmidaa", sum := "5ec4b321b124ff8cbaaf98299e2c1223ffb290653076de144fd17e4a77d57b00", func := "isochron/isochronlaw10.BlockDoes", spec := "blockDoes", unfollowed := true, recurses := true, apart := false }
def BlockDoesSaid : Prop := blockDoesRow.holds Try.pinned (OpenSpec.ofChange blockDoesSpec)

/-- ITS FALSE NEIGHBOUR: 'it returns false'. Refute it at one input. -/
def blockDoesWrong : ChangeSpec := { name := "blockDoes", fn := fun _ => fun
  | [d1, d2, d3, d4, d5] => { results := [.lit (.bool false)], args := [d1, d2, d3, d4, d5] }
  | _ => none }
def BlockDoesWrongFalsely : Prop := blockDoesRow.holds Try.pinned (OpenSpec.ofChange blockDoesWrong)

/-- 'isochronlaw10.BlockCopies': WHATEVER THE INPUT: true; the input reads as it did. -/
def blockCopiesSpec : ChangeSpec := { name := "blockCopies", fn := fun _ => fun
  | [d1, d2, d3, d4] => { results := [.lit (.bool true)], args := [d1, d2, d3, d4] }
  | _ => none }
def blockCopiesRow : OpenClaim := { program := "ytngmiacekcmidaa", sum := "5ec4b321b124ff8cbaaf98299e2c1223ffb290653076de144fd17e4a77d57b00", func := "isochron/isochronlaw10.BlockCopies", spec := "blockCopies", unfollowed := true, recurses := true, apart := false }
def BlockCopiesSaid : Prop := blockCopiesRow.holds Try.pinned (OpenSpec.ofChange blockCopiesSpec)

/-- ITS FALSE NEIGHBOUR: 'it returns false'. Refute it at one input. -/
def blockCopiesWrong : ChangeSpec := { name := "blockCopies", fn := fun _ => fun
  | [d1, d2, d3, d4] => { results := [.lit (.bool false)], args := [d1, d2, d3, d4] }
  | _ => none }
def BlockCopiesWrongFalsely : Prop := blockCopiesRow.holds Try.pinned (OpenSpec.ofChange blockCopiesWrong)

/-- 'isochronlaw10.BlockNil': WHATEVER THE INPUT: true; the input reads as it did. -/
def blockNilSpec : ChangeSpec := { name := "blockNil", fn := fun _ => fun
  | [d1, d2, d3] => { results := [.lit (.bool true)], args := [d1, d2, d3] }
  | _ => none }
def blockNilRow : OpenClaim := { program := "ytngmiacekcmidaa", sum := "5ec4b321b124ff8cbaaf98299e2c1223ffb290653076de144fd17e4a77d57b00", func := "isochron/isochronlaw10.BlockNil", spec := "blockNil", unfollowed := true, recurses := true, apart := false }
def BlockNilSaid : Prop := blockNilRow.holds Try.pinned (OpenSpec.ofChange blockNilSpec)

/-- ITS FALSE NEIGHBOUR: 'it returns false'. Refute it at one input. -/
def blockNilWrong : ChangeSpec := { name := "blockNil", fn := fun _ => fun
  | [d1, d2, d3] => { results := [.lit (.bool false)], args := [d1, d2, d3] }
  | _ => none }
def BlockNilWrongFalsely : Prop := blockNilRow.holds Try.pinned (OpenSpec.ofChange blockNilWrong)

/- THE SECOND FORM. 'bulk': how many values and letters a reading holds, each counted each time it is reached (what is shared counts as often as it is met; a slice's spare places count too). A statement '..UptoSaid' is the law's where the arguments, and the package variables that the reading takes, are together of bulk at most 1048576: NARROWER than '..Said'. Prove '..Said' where nothing that the law and all that it calls make is longer than what came in: it says more and counts as full. Else prove '..UptoSaid'. A law counts once. -/
mutual
def uptoBulk {H : Type} : DataW H → Nat
  | .lit (.string bytes) => bytes.length + 1
  | .lit _ => 1
  | .nil => 1
  | .ptr d => uptoBulk d + 1
  | .slice elems spare => uptoBulkAll elems + uptoBulkAll spare + 1
  | .agg parts => uptoBulkAll parts + 1
  | .iface _ d => uptoBulk d + 1
  | .map entries => uptoBulkEntries entries + 1
  | .held _ => 1
def uptoBulkAll {H : Type} : List (DataW H) → Nat
  | [] => 0
  | d :: r => uptoBulk d + uptoBulkAll r
def uptoBulkEntries {H : Type} : List (Lit × DataW H) → Nat
  | [] => 0
  | x :: r => uptoBulkEntry x + uptoBulkEntries r
def uptoBulkEntry {H : Type} : Lit × DataW H → Nat
  | (.string bytes, d) => bytes.length + uptoBulk d + 1
  | (_, d) => uptoBulk d + 1
 end
def uptoSmall : (H : Type) → List (DataW H) → Bool := fun _ ds => decide (uptoBulkAll ds ≤ 1048576)
def OpenSpec.upto (s : _root_.Go.ChangeSpec) : _root_.Go.OpenSpec := { _root_.Go.OpenSpec.ofChange s with cond := some uptoSmall }

/-- 'isochronlaw10.BlockKeeps', WHERE WHAT IT READS IS OF BULK AT MOST 1048576: true; the input reads as it did. -/
def blockKeepsUptoRow : OpenClaim := { program := "ytngmiacekcmidaa", sum := "5ec4b321b124ff8cbaaf98299e2c1223ffb290653076de144fd17e4a77d57b00", func := "isochron/isochronlaw10.BlockKeeps", spec := "blockKeeps", unfollowed := true, recurses := true, apart := false, narrowed := true }
def BlockKeepsUptoSaid : Prop := blockKeepsUptoRow.holds Try.pinned (OpenSpec.upto blockKeepsSpec)

/-- 'isochronlaw10.BlockPlays', WHERE WHAT IT READS IS OF BULK AT MOST 1048576: true; the input reads as it did. -/
def blockPlaysUptoRow : OpenClaim := { program := "ytngmiacekcmidaa", sum := "5ec4b321b124ff8cbaaf98299e2c1223ffb290653076de144fd17e4a77d57b00", func := "isochron/isochronlaw10.BlockPlays", spec := "blockPlays", unfollowed := true, recurses := true, apart := false, narrowed := true }
def BlockPlaysUptoSaid : Prop := blockPlaysUptoRow.holds Try.pinned (OpenSpec.upto blockPlaysSpec)

/-- 'isochronlaw10.BlockRooms', WHERE WHAT IT READS IS OF BULK AT MOST 1048576: true; the input reads as it did. -/
def blockRoomsUptoRow : OpenClaim := { program := "ytngmiacekcmidaa", sum := "5ec4b321b124ff8cbaaf98299e2c1223ffb290653076de144fd17e4a77d57b00", func := "isochron/isochronlaw10.BlockRooms", spec := "blockRooms", unfollowed := true, recurses := true, apart := false, narrowed := true }
def BlockRoomsUptoSaid : Prop := blockRoomsUptoRow.holds Try.pinned (OpenSpec.upto blockRoomsSpec)

/-- 'isochronlaw10.BlockFrees', WHERE WHAT IT READS IS OF BULK AT MOST 1048576: true; the input reads as it did. -/
def blockFreesUptoRow : OpenClaim := { program := "ytngmiacekcmidaa", sum := "5ec4b321b124ff8cbaaf98299e2c1223ffb290653076de144fd17e4a77d57b00", func := "isochron/isochronlaw10.BlockFrees", spec := "blockFrees", unfollowed := true, recurses := true, apart := false, narrowed := true }
def BlockFreesUptoSaid : Prop := blockFreesUptoRow.holds Try.pinned (OpenSpec.upto blockFreesSpec)

/-- 'isochronlaw10.BlockCompacts', WHERE WHAT IT READS IS OF BULK AT MOST 1048576: true; the input reads as it did. -/
def blockCompactsUptoRow : OpenClaim := { program := "ytngmiacekcmidaa", sum := "5ec4b321b124ff8cbaaf98299e2c1223ffb290653076de144fd17e4a77d57b00", func := "isochron/isochronlaw10.BlockCompacts", spec := "blockCompacts", unfollowed := true, recurses := true, apart := false, narrowed := true }
def BlockCompactsUptoSaid : Prop := blockCompactsUptoRow.holds Try.pinned (OpenSpec.upto blockCompactsSpec)

/-- 'isochronlaw10.BlockStates', WHERE WHAT IT READS IS OF BULK AT MOST 1048576: true; the input reads as it did. -/
def blockStatesUptoRow : OpenClaim := { program := "ytngmiacekcmidaa", sum := "5ec4b321b124ff8cbaaf98299e2c1223ffb290653076de144fd17e4a77d57b00", func := "isochron/isochronlaw10.BlockStates", spec := "blockStates", unfollowed := true, recurses := true, apart := false, narrowed := true }
def BlockStatesUptoSaid : Prop := blockStatesUptoRow.holds Try.pinned (OpenSpec.upto blockStatesSpec)

/-- 'isochronlaw10.BlockDoes', WHERE WHAT IT READS IS OF BULK AT MOST 1048576: true; the input reads as it did. -/
def blockDoesUptoRow : OpenClaim := { program := "ytngmiacekcmidaa", sum := "5ec4b321b124ff8cbaaf98299e2c1223ffb290653076de144fd17e4a77d57b00", func := "isochron/isochronlaw10.BlockDoes", spec := "blockDoes", unfollowed := true, recurses := true, apart := false, narrowed := true }
def BlockDoesUptoSaid : Prop := blockDoesUptoRow.holds Try.pinned (OpenSpec.upto blockDoesSpec)

/-- 'isochronlaw10.BlockCopies', WHERE WHAT IT READS IS OF BULK AT MOST 1048576: true; the input reads as it did. -/
def blockCopiesUptoRow : OpenClaim := { program := "ytngmiacekcmidaa", sum := "5ec4b321b124ff8cbaaf98299e2c1223ffb290653076de144fd17e4a77d57b00", func := "isochron/isochronlaw10.BlockCopies", spec := "blockCopies", unfollowed := true, recurses := true, apart := false, narrowed := true }
def BlockCopiesUptoSaid : Prop := blockCopiesUptoRow.holds Try.pinned (OpenSpec.upto blockCopiesSpec)

/-- 'isochronlaw10.BlockNil', WHERE WHAT IT READS IS OF BULK AT MOST 1048576: true; the input reads as it did. -/
def blockNilUptoRow : OpenClaim := { program := "ytngmiacekcmidaa", sum := "5ec4b321b124ff8cbaaf98299e2c1223ffb290653076de144fd17e4a77d57b00", func := "isochron/isochronlaw10.BlockNil", spec := "blockNil", unfollowed := true, recurses := true, apart := false, narrowed := true }
def BlockNilUptoSaid : Prop := blockNilUptoRow.holds Try.pinned (OpenSpec.upto blockNilSpec)

end Rows
end Go.Proofs.Ytngmiacekcmidaa
