/-
  No cell of these rows narrows 'for every input' (looked for: loops, veiled, ifaces, maps, wideKeys, modest, calm, conditions, laid).
  DERIVED. THE GIVEN ROWS OF THIS SEAT. 10 by the template 'for every input the law returns true; each argument reads behind the call as it read before'; 0 by the template 'total and deterministic' (their statements: YtoomgangpjcaoaaTotals.lean).
  GIVEN WITH THE SEED: the statements are not yours to turn. If you find one false, say at which input.
  Laid BY PROGRAM, IN A SANDBOX (cutbox-rows.mjs): the forced cells as the released guide's own fill.sh prints them over the translation 612bd4bcae671b54… (all of the seat's roots in one cut). By AI agents, Wed Nov 11 2026. No macro, syntax, notation, axiom, sorry.
-/
import Derived.Test.YtoomgangpjcaoaaChecked
import GoSem.Claim
import GoSem.ClaimJoined
import GoSem.ClaimMapViews
import Derived.JoinedTies
import Derived.KernelRfl
namespace Go.Proofs.Ytoomgangpjcaoaa
/- THE CELL 'sum', in the pinned program and in every row, IS THE sha256 OF THE DUMP (.gsa) THAT YtoomgangpjcaoaaProg.lean LOADS. Nothing in Lean hashes anything: it is a label: what it is worth is what the hold of that sum in a sandbox is worth. -/
noncomputable def Try.pinned : Pinned := { name := "ytoomgangpjcaoaa", sum := "612bd4bcae671b543c6aa6e9bd15495a8caf0b29c1aee6ad4056bb8c305cbcf9", checked := Try.checked }
namespace Rows
def none {H : Type} : Left H := { results := [], args := [] }

/-- 'cellarerlaw23.PoolsExact': WHATEVER THE INPUT: true; the input reads as it did. -/
def poolsExactSpec : ChangeSpec := { name := "poolsExact", fn := fun _ => fun
  | [d1, d2, d3, d4, d5] => { results := [.lit (.bool true)], args := [d1, d2, d3, d4, d5] }
  | _ => none }
def poolsExactRow : OpenClaim := { program := "ytoomgangpjcaoaa", sum := "612bd4bcae671b543c6aa6e9bd15495a8caf0b29c1aee6ad4056bb8c305cbcf9", func := "cellarer/cellarerlaw23.PoolsExact", spec := "poolsExact", inPlace := ["internal/bytealg.Compare"], unfollowed := true, recurses := true, apart := false }
def PoolsExactSaid : Prop := poolsExactRow.holds Try.pinned (OpenSpec.ofChange poolsExactSpec)

/-- ITS FALSE NEIGHBOUR: 'it returns false'. Refute it at one input. -/
def poolsExactWrong : ChangeSpec := { name := "poolsExact", fn := fun _ => fun
  | [d1, d2, d3, d4, d5] => { results := [.lit (.bool false)], args := [d1, d2, d3, d4, d5] }
  | _ => none }
def PoolsExactWrongFalsely : Prop := poolsExactRow.holds Try.pinned (OpenSpec.ofChange poolsExactWrong)

/-- 'cellarerlaw23.PoolsLived': WHATEVER THE INPUT: true; the input reads as it did. -/
def poolsLivedSpec : ChangeSpec := { name := "poolsLived", fn := fun _ => fun
  | [d1, d2, d3, d4, d5, d6] => { results := [.lit (.bool true)], args := [d1, d2, d3, d4, d5, d6] }
  | _ => none }
def poolsLivedRow : OpenClaim := { program := "ytoomgangpjcaoaa", sum := "612bd4bcae671b543c6aa6e9bd15495a8caf0b29c1aee6ad4056bb8c305cbcf9", func := "cellarer/cellarerlaw23.PoolsLived", spec := "poolsLived", inPlace := ["internal/bytealg.Compare"], unfollowed := true, recurses := true, apart := false }
def PoolsLivedSaid : Prop := poolsLivedRow.holds Try.pinned (OpenSpec.ofChange poolsLivedSpec)

/-- ITS FALSE NEIGHBOUR: 'it returns false'. Refute it at one input. -/
def poolsLivedWrong : ChangeSpec := { name := "poolsLived", fn := fun _ => fun
  | [d1, d2, d3, d4, d5, d6] => { results := [.lit (.bool false)], args := [d1, d2, d3, d4, d5, d6] }
  | _ => none }
def PoolsLivedWrongFalsely : Prop := poolsLivedRow.holds Try.pinned (OpenSpec.ofChange poolsLivedWrong)

/-- 'cellarerlaw23.PoolsRooms': WHATEVER THE INPUT: true; the input reads as it did. -/
def poolsRoomsSpec : ChangeSpec := { name := "poolsRooms", fn := fun _ => fun
  | [d1, d2, d3, d4, d5, d6] => { results := [.lit (.bool true)], args := [d1, d2, d3, d4, d5, d6] }
  | _ => none }
def poolsRoomsRow : OpenClaim := { program := "ytoomgangpjcaoaa", sum := "612bd4bcae671b543c6aa6e9bd15495a8caf0b29c1aee6ad4056bb8c305cbcf9", func := "cellarer/cellarerlaw23.PoolsRooms", spec := "poolsRooms", inPlace := ["internal/bytealg.Compare"], unfollowed := true, recurses := true, apart := false }
def PoolsRoomsSaid : Prop := poolsRoomsRow.holds Try.pinned (OpenSpec.ofChange poolsRoomsSpec)

/-- ITS FALSE NEIGHBOUR: 'it returns false'. Refute it at one input. -/
def poolsRoomsWrong : ChangeSpec := { name := "poolsRooms", fn := fun _ => fun
  | [d1, d2, d3, d4, d5, d6] => { results := [.lit (.bool false)], args := [d1, d2, d3, d4, d5, d6] }
  | _ => none }
def PoolsRoomsWrongFalsely : Prop := poolsRoomsRow.holds Try.pinned (OpenSpec.ofChange poolsRoomsWrong)

/-- 'cellarerlaw18.CatalogNew': WHATEVER THE INPUT: true; the input reads as it did. -/
def catalogNewSpec : ChangeSpec := { name := "catalogNew", fn := fun _ => fun
  | [d] => { results := [.lit (.bool true)], args := [d] }
  | _ => none }
def catalogNewRow : OpenClaim := { program := "ytoomgangpjcaoaa", sum := "612bd4bcae671b543c6aa6e9bd15495a8caf0b29c1aee6ad4056bb8c305cbcf9", func := "cellarer/cellarerlaw18.CatalogNew", spec := "catalogNew", inPlace := ["internal/bytealg.Compare"], unfollowed := true, recurses := true, apart := false }
def CatalogNewSaid : Prop := catalogNewRow.holds Try.pinned (OpenSpec.ofChange catalogNewSpec)

/-- ITS FALSE NEIGHBOUR: 'it returns false'. Refute it at one input. -/
def catalogNewWrong : ChangeSpec := { name := "catalogNew", fn := fun _ => fun
  | [d] => { results := [.lit (.bool false)], args := [d] }
  | _ => none }
def CatalogNewWrongFalsely : Prop := catalogNewRow.holds Try.pinned (OpenSpec.ofChange catalogNewWrong)

/-- 'cellarerlaw18.CatalogSizes': WHATEVER THE INPUT: true; the input reads as it did. -/
def catalogSizesSpec : ChangeSpec := { name := "catalogSizes", fn := fun _ => fun
  | [d] => { results := [.lit (.bool true)], args := [d] }
  | _ => none }
def catalogSizesRow : OpenClaim := { program := "ytoomgangpjcaoaa", sum := "612bd4bcae671b543c6aa6e9bd15495a8caf0b29c1aee6ad4056bb8c305cbcf9", func := "cellarer/cellarerlaw18.CatalogSizes", spec := "catalogSizes", inPlace := ["internal/bytealg.Compare"], unfollowed := true, recurses := true, apart := false }
def CatalogSizesSaid : Prop := catalogSizesRow.holds Try.pinned (OpenSpec.ofChange catalogSizesSpec)

/-- ITS FALSE NEIGHBOUR: 'it returns false'. Refute it at one input. -/
def catalogSizesWrong : ChangeSpec := { name := "catalogSizes", fn := fun _ => fun
  | [d] => { results := [.lit (.bool false)], args := [d] }
  | _ => none }
def CatalogSizesWrongFalsely : Prop := catalogSizesRow.holds Try.pinned (OpenSpec.ofChange catalogSizesWrong)

/-- 'cellarerlaw18.CatalogWrong': WHATEVER THE INPUT: true; the input reads as it did. -/
def catalogWrongSpec : ChangeSpec := { name := "catalogWrong", fn := fun _ => fun
  | [d1, d2, d3] => { results := [.lit (.bool true)], args := [d1, d2, d3] }
  | _ => none }
def catalogWrongRow : OpenClaim := { program := "ytoomgangpjcaoaa", sum := "612bd4bcae671b543c6aa6e9bd15495a8caf0b29c1aee6ad4056bb8c305cbcf9", func := "cellarer/cellarerlaw18.CatalogWrong", spec := "catalogWrong", inPlace := ["internal/bytealg.Compare"], unfollowed := true, recurses := true, apart := false }
def CatalogWrongSaid : Prop := catalogWrongRow.holds Try.pinned (OpenSpec.ofChange catalogWrongSpec)

/-- ITS FALSE NEIGHBOUR: 'it returns false'. Refute it at one input. -/
def catalogWrongWrong : ChangeSpec := { name := "catalogWrong", fn := fun _ => fun
  | [d1, d2, d3] => { results := [.lit (.bool false)], args := [d1, d2, d3] }
  | _ => none }
def CatalogWrongWrongFalsely : Prop := catalogWrongRow.holds Try.pinned (OpenSpec.ofChange catalogWrongWrong)

/-- 'cellarerlaw20.StageExact': WHATEVER THE INPUT: true; the input reads as it did. -/
def stageExactSpec : ChangeSpec := { name := "stageExact", fn := fun _ => fun
  | [d1, d2, d3] => { results := [.lit (.bool true)], args := [d1, d2, d3] }
  | _ => none }
def stageExactRow : OpenClaim := { program := "ytoomgangpjcaoaa", sum := "612bd4bcae671b543c6aa6e9bd15495a8caf0b29c1aee6ad4056bb8c305cbcf9", func := "cellarer/cellarerlaw20.StageExact", spec := "stageExact", inPlace := ["internal/bytealg.Compare"], unfollowed := true, recurses := true, apart := false }
def StageExactSaid : Prop := stageExactRow.holds Try.pinned (OpenSpec.ofChange stageExactSpec)

/-- ITS FALSE NEIGHBOUR: 'it returns false'. Refute it at one input. -/
def stageExactWrong : ChangeSpec := { name := "stageExact", fn := fun _ => fun
  | [d1, d2, d3] => { results := [.lit (.bool false)], args := [d1, d2, d3] }
  | _ => none }
def StageExactWrongFalsely : Prop := stageExactRow.holds Try.pinned (OpenSpec.ofChange stageExactWrong)

/-- 'cellarerlaw20.StageDead': WHATEVER THE INPUT: true; the input reads as it did. -/
def stageDeadSpec : ChangeSpec := { name := "stageDead", fn := fun _ => fun
  | [d1, d2] => { results := [.lit (.bool true)], args := [d1, d2] }
  | _ => none }
def stageDeadRow : OpenClaim := { program := "ytoomgangpjcaoaa", sum := "612bd4bcae671b543c6aa6e9bd15495a8caf0b29c1aee6ad4056bb8c305cbcf9", func := "cellarer/cellarerlaw20.StageDead", spec := "stageDead", inPlace := ["internal/bytealg.Compare"], unfollowed := true, recurses := true, apart := false }
def StageDeadSaid : Prop := stageDeadRow.holds Try.pinned (OpenSpec.ofChange stageDeadSpec)

/-- ITS FALSE NEIGHBOUR: 'it returns false'. Refute it at one input. -/
def stageDeadWrong : ChangeSpec := { name := "stageDead", fn := fun _ => fun
  | [d1, d2] => { results := [.lit (.bool false)], args := [d1, d2] }
  | _ => none }
def StageDeadWrongFalsely : Prop := stageDeadRow.holds Try.pinned (OpenSpec.ofChange stageDeadWrong)

/-- 'cellarerlaw18.CatalogLooks': WHATEVER THE INPUT: true; the input reads as it did. -/
def catalogLooksSpec : ChangeSpec := { name := "catalogLooks", fn := fun _ => fun
  | [d] => { results := [.lit (.bool true)], args := [d] }
  | _ => none }
def catalogLooksRow : OpenClaim := { program := "ytoomgangpjcaoaa", sum := "612bd4bcae671b543c6aa6e9bd15495a8caf0b29c1aee6ad4056bb8c305cbcf9", func := "cellarer/cellarerlaw18.CatalogLooks", spec := "catalogLooks", inPlace := ["internal/bytealg.Compare"], unfollowed := true, recurses := true, apart := false }
def CatalogLooksSaid : Prop := catalogLooksRow.holds Try.pinned (OpenSpec.ofChange catalogLooksSpec)

/-- ITS FALSE NEIGHBOUR: 'it returns false'. Refute it at one input. -/
def catalogLooksWrong : ChangeSpec := { name := "catalogLooks", fn := fun _ => fun
  | [d] => { results := [.lit (.bool false)], args := [d] }
  | _ => none }
def CatalogLooksWrongFalsely : Prop := catalogLooksRow.holds Try.pinned (OpenSpec.ofChange catalogLooksWrong)

/-- 'cellarerlaw23.PoolsSparse': WHATEVER THE INPUT: true; the input reads as it did. -/
def poolsSparseSpec : ChangeSpec := { name := "poolsSparse", fn := fun _ => fun
  | [d1, d2, d3] => { results := [.lit (.bool true)], args := [d1, d2, d3] }
  | _ => none }
def poolsSparseRow : OpenClaim := { program := "ytoomgangpjcaoaa", sum := "612bd4bcae671b543c6aa6e9bd15495a8caf0b29c1aee6ad4056bb8c305cbcf9", func := "cellarer/cellarerlaw23.PoolsSparse", spec := "poolsSparse", inPlace := ["internal/bytealg.Compare"], unfollowed := true, recurses := true, apart := false }
def PoolsSparseSaid : Prop := poolsSparseRow.holds Try.pinned (OpenSpec.ofChange poolsSparseSpec)

/-- ITS FALSE NEIGHBOUR: 'it returns false'. Refute it at one input. -/
def poolsSparseWrong : ChangeSpec := { name := "poolsSparse", fn := fun _ => fun
  | [d1, d2, d3] => { results := [.lit (.bool false)], args := [d1, d2, d3] }
  | _ => none }
def PoolsSparseWrongFalsely : Prop := poolsSparseRow.holds Try.pinned (OpenSpec.ofChange poolsSparseWrong)

/- THE SECOND FORM. 'bulk': how many values and letters a reading holds, each counted each time it is reached (what is shared counts as often as it is met; a slice's spare places count too). A statement '..UptoSaid' is the law's where the arguments, and the package variables that the reading takes, are together of bulk at most 1048576: NARROWER than '..Said'. Prove '..Said' where nothing that the law and all that it calls make is longer than what came in: it says more and counts as full. Else prove '..UptoSaid'. A law counts once. -/
mutual
def uptoBulk {H : Type} : DataW H → Nat
  | .lit (.string bytes) => bytes.length + 1
  | .lit _ => 1
  | .nil => 1
  | .ptr d => uptoBulk d + 1
  | .slice elems spare => uptoBulkAll elems + uptoBulkAll spare + 1
  | .agg parts => uptoBulkAll parts + 1
  | .iface _ d => uptoBulk d + 1
  | .map entries => uptoBulkEntries entries + 1
  | .held _ => 1
def uptoBulkAll {H : Type} : List (DataW H) → Nat
  | [] => 0
  | d :: r => uptoBulk d + uptoBulkAll r
def uptoBulkEntries {H : Type} : List (Lit × DataW H) → Nat
  | [] => 0
  | x :: r => uptoBulkEntry x + uptoBulkEntries r
def uptoBulkEntry {H : Type} : Lit × DataW H → Nat
  | (.string bytes, d) => bytes.length + uptoBulk d + 1
  | (_, d) => uptoBulk d + 1
 end
def uptoSmall : (H : Type) → List (DataW H) → Bool := fun _ ds => decide (uptoBulkAll ds ≤ 1048576)
def OpenSpec.upto (s : _root_.Go.ChangeSpec) : _root_.Go.OpenSpec := { _root_.Go.OpenSpec.ofChange s with cond := some uptoSmall }

/-- 'cellarerlaw23.PoolsExact', WHERE WHAT IT READS IS OF BULK AT MOST 1048576: true; the input reads as it did. -/
def poolsExactUptoRow : OpenClaim := { program := "ytoomgangpjcaoaa", sum := "612bd4bcae671b543c6aa6e9bd15495a8caf0b29c1aee6ad4056bb8c305cbcf9", func := "cellarer/cellarerlaw23.PoolsExact", spec := "poolsExact", inPlace := ["internal/bytealg.Compare"], unfollowed := true, recurses := true, apart := false, narrowed := true }
def PoolsExactUptoSaid : Prop := poolsExactUptoRow.holds Try.pinned (OpenSpec.upto poolsExactSpec)

/-- 'cellarerlaw23.PoolsLived', WHERE WHAT IT READS IS OF BULK AT MOST 1048576: true; the input reads as it did. -/
def poolsLivedUptoRow : OpenClaim := { program := "ytoomgangpjcaoaa", sum := "612bd4bcae671b543c6aa6e9bd15495a8caf0b29c1aee6ad4056bb8c305cbcf9", func := "cellarer/cellarerlaw23.PoolsLived", spec := "poolsLived", inPlace := ["internal/bytealg.Compare"], unfollowed := true, recurses := true, apart := false, narrowed := true }
def PoolsLivedUptoSaid : Prop := poolsLivedUptoRow.holds Try.pinned (OpenSpec.upto poolsLivedSpec)

/-- 'cellarerlaw23.PoolsRooms', WHERE WHAT IT READS IS OF BULK AT MOST 1048576: true; the input reads as it did. -/
def poolsRoomsUptoRow : OpenClaim := { program := "ytoomgangpjcaoaa", sum := "612bd4bcae671b543c6aa6e9bd15495a8caf0b29c1aee6ad4056bb8c305cbcf9", func := "cellarer/cellarerlaw23.PoolsRooms", spec := "poolsRooms", inPlace := ["internal/bytealg.Compare"], unfollowed := true, recurses := true, apart := false, narrowed := true }
def PoolsRoomsUptoSaid : Prop := poolsRoomsUptoRow.holds Try.pinned (OpenSpec.upto poolsRoomsSpec)

/-- 'cellarerlaw18.CatalogNew', WHERE WHAT IT READS IS OF BULK AT MOST 1048576: true; the input reads as it did. -/
def catalogNewUptoRow : OpenClaim := { program := "ytoomgangpjcaoaa", sum := "612bd4bcae671b543c6aa6e9bd15495a8caf0b29c1aee6ad4056bb8c305cbcf9", func := "cellarer/cellarerlaw18.CatalogNew", spec := "catalogNew", inPlace := ["internal/bytealg.Compare"], unfollowed := true, recurses := true, apart := false, narrowed := true }
def CatalogNewUptoSaid : Prop := catalogNewUptoRow.holds Try.pinned (OpenSpec.upto catalogNewSpec)

/-- 'cellarerlaw18.CatalogSizes', WHERE WHAT IT READS IS OF BULK AT MOST 1048576: true; the input reads as it did. -/
def catalogSizesUptoRow : OpenClaim := { program := "ytoomgangpjcaoaa", sum := "612bd4bcae671b543c6aa6e9bd15495a8caf0b29c1aee6ad4056bb8c305cbcf9", func := "cellarer/cellarerlaw18.CatalogSizes", spec := "catalogSizes", inPlace := ["internal/bytealg.Compare"], unfollowed := true, recurses := true, apart := false, narrowed := true }
def CatalogSizesUptoSaid : Prop := catalogSizesUptoRow.holds Try.pinned (OpenSpec.upto catalogSizesSpec)

/-- 'cellarerlaw18.CatalogWrong', WHERE WHAT IT READS IS OF BULK AT MOST 1048576: true; the input reads as it did. -/
def catalogWrongUptoRow : OpenClaim := { program := "ytoomgangpjcaoaa", sum := "612bd4bcae671b543c6aa6e9bd15495a8caf0b29c1aee6ad4056bb8c305cbcf9", func := "cellarer/cellarerlaw18.CatalogWrong", spec := "catalogWrong", inPlace := ["internal/bytealg.Compare"], unfollowed := true, recurses := true, apart := false, narrowed := true }
def CatalogWrongUptoSaid : Prop := catalogWrongUptoRow.holds Try.pinned (OpenSpec.upto catalogWrongSpec)

/-- 'cellarerlaw20.StageExact', WHERE WHAT IT READS IS OF BULK AT MOST 1048576: true; the input reads as it did. -/
def stageExactUptoRow : OpenClaim := { program := "ytoomgangpjcaoaa", sum := "612bd4bcae671b543c6aa6e9bd15495a8caf0b29c1aee6ad4056bb8c305cbcf9", func := "cellarer/cellarerlaw20.StageExact", spec := "stageExact", inPlace := ["internal/bytealg.Compare"], unfollowed := true, recurses := true, apart := false, narrowed := true }
def StageExactUptoSaid : Prop := stageExactUptoRow.holds Try.pinned (OpenSpec.upto stageExactSpec)

/-- 'cellarerlaw20.StageDead', WHERE WHAT IT READS IS OF BULK AT MOST 1048576: true; the input reads as it did. -/
def stageDeadUptoRow : OpenClaim := { program := "ytoomgangpjcaoaa", sum := "612bd4bcae671b543c6aa6e9bd15495a8caf0b29c1aee6ad4056bb8c305cbcf9", func := "cellarer/cellarerlaw20.StageDead", spec := "stageDead", inPlace := ["internal/bytealg.Compare"], unfollowed := true, recurses := true, apart := false, narrowed := true }
def StageDeadUptoSaid : Prop := stageDeadUptoRow.holds Try.pinned (OpenSpec.upto stageDeadSpec)

/-- 'cellarerlaw18.CatalogLooks', WHERE WHAT IT READS IS OF BULK AT MOST 1048576: true; the input reads as it did. -/
def catalogLooksUptoRow : OpenClaim := { program := "ytoomgangpjcaoaa", sum := "612bd4bcae671b543c6aa6e9bd15495a8caf0b29c1aee6ad4056bb8c305cbcf9", func := "cellarer/cellarerlaw18.CatalogLooks", spec := "catalogLooks", inPlace := ["internal/bytealg.Compare"], unfollowed := true, recurses := true, apart := false, narrowed := true }
def CatalogLooksUptoSaid : Prop := catalogLooksUptoRow.holds Try.pinned (OpenSpec.upto catalogLooksSpec)

/-- 'cellarerlaw23.PoolsSparse', WHERE WHAT IT READS IS OF BULK AT MOST 1048576: true; the input reads as it did. -/
def poolsSparseUptoRow : OpenClaim := { program := "ytoomgangpjcaoaa", sum := "612bd4bcae671b543c6aa6e9bd15495a8caf0b29c1aee6ad4056bb8c305cbcf9", func := "cellarer/cellarerlaw23.PoolsSparse", spec := "poolsSparse", inPlace := ["internal/bytealg.Compare"], unfollowed := true, recurses := true, apart := false, narrowed := true }
def PoolsSparseUptoSaid : Prop := poolsSparseUptoRow.holds Try.pinned (OpenSpec.upto poolsSparseSpec)

end Rows
end Go.Proofs.Ytoomgangpjcaoaa
