/-
  No cell of these rows narrows 'for every input' (looked for: loops, veiled, ifaces, maps, wideKeys, modest, calm, conditions, laid).
  DERIVED. THE GIVEN ROWS OF THIS SEAT. 11 by the template 'for every input the law returns true; each argument reads behind the call as it read before'; 0 by the template 'total and deterministic' (their statements: YtbbifdfldpfphaaGreatTotals.lean).
  GIVEN WITH THE SEED: the statements are not yours to turn. If you find one false, say at which input.
  Laid BY PROGRAM, IN A SANDBOX (cutbox-rows.mjs): the forced cells as the released guide's own fill.sh prints them over the translation b8597151355b5e4b… (all of the seat's roots in one cut). By AI agents, Wed Nov 11 2026. No macro, syntax, notation, axiom, sorry.
-/
import Derived.Test.YtbbifdfldpfphaaGreatChecked
import GoSem.Claim
import GoSem.ClaimJoined
import GoSem.ClaimMapViews
import Derived.JoinedTies
import Derived.KernelRfl
namespace Go.Proofs.YtbbifdfldpfphaaGreat
/- THE CELL 'sum', in the pinned program and in every row, IS THE sha256 OF THE DUMP (.gsa) THAT YtbbifdfldpfphaaGreatProg.lean LOADS. Nothing in Lean hashes anything: it is a label: what it is worth is what the hold of that sum in a sandbox is worth. -/
noncomputable def Tryz.pinned : Pinned := { name := "ytbbifdfldpfphaagreat", sum := "b8597151355b5e4bc6022dc46946c62a6c67c14966c39677dc9769d764a41d0a", checked := Tryz.checked }
namespace Rows
def none {H : Type} : Left H := { results := [], args := [] }

/-- 'cellarerlaw20.StageLived': WHATEVER THE INPUT: true; the input reads as it did. -/
def stageLivedSpec : ChangeSpec := { name := "stageLived", fn := fun _ => fun
  | [d1, d2] => { results := [.lit (.bool true)], args := [d1, d2] }
  | _ => none }
def stageLivedRow : OpenClaim := { program := "ytbbifdfldpfphaagreat", sum := "b8597151355b5e4bc6022dc46946c62a6c67c14966c39677dc9769d764a41d0a", func := "cellarer/cellarerlaw20.StageLived", spec := "stageLived", inPlace := ["internal/bytealg.Compare"], unfollowed := true, recurses := true, apart := false }
def StageLivedSaid : Prop := stageLivedRow.holds Tryz.pinned (OpenSpec.ofChange stageLivedSpec)

/-- ITS FALSE NEIGHBOUR: 'it returns false'. Refute it at one input. -/
def stageLivedWrong : ChangeSpec := { name := "stageLived", fn := fun _ => fun
  | [d1, d2] => { results := [.lit (.bool false)], args := [d1, d2] }
  | _ => none }
def StageLivedWrongFalsely : Prop := stageLivedRow.holds Tryz.pinned (OpenSpec.ofChange stageLivedWrong)

/-- 'cellarerlaw20.StageCopies': WHATEVER THE INPUT: true; the input reads as it did. -/
def stageCopiesSpec : ChangeSpec := { name := "stageCopies", fn := fun _ => fun
  | [d1, d2] => { results := [.lit (.bool true)], args := [d1, d2] }
  | _ => none }
def stageCopiesRow : OpenClaim := { program := "ytbbifdfldpfphaagreat", sum := "b8597151355b5e4bc6022dc46946c62a6c67c14966c39677dc9769d764a41d0a", func := "cellarer/cellarerlaw20.StageCopies", spec := "stageCopies", inPlace := ["internal/bytealg.Compare", "slices.overlaps[cellarer/api.Chunk]", "slices.overlaps[cellarer/api.Loc]", "slices.overlaps[cellarer/api.Exp]"], unfollowed := true, recurses := true, apart := false }
def StageCopiesSaid : Prop := stageCopiesRow.holds Tryz.pinned (OpenSpec.ofChange stageCopiesSpec)

/-- ITS FALSE NEIGHBOUR: 'it returns false'. Refute it at one input. -/
def stageCopiesWrong : ChangeSpec := { name := "stageCopies", fn := fun _ => fun
  | [d1, d2] => { results := [.lit (.bool false)], args := [d1, d2] }
  | _ => none }
def StageCopiesWrongFalsely : Prop := stageCopiesRow.holds Tryz.pinned (OpenSpec.ofChange stageCopiesWrong)

/-- 'cellarerlaw20.StageOrder': WHATEVER THE INPUT: true; the input reads as it did. -/
def stageOrderSpec : ChangeSpec := { name := "stageOrder", fn := fun _ => fun
  | [d1, d2, d3, d4, d5] => { results := [.lit (.bool true)], args := [d1, d2, d3, d4, d5] }
  | _ => none }
def stageOrderRow : OpenClaim := { program := "ytbbifdfldpfphaagreat", sum := "b8597151355b5e4bc6022dc46946c62a6c67c14966c39677dc9769d764a41d0a", func := "cellarer/cellarerlaw20.StageOrder", spec := "stageOrder", inPlace := ["internal/bytealg.Compare", "slices.overlaps[cellarer/api.Chunk]", "slices.overlaps[cellarer/api.Loc]", "slices.overlaps[cellarer/api.Exp]"], unfollowed := true, recurses := true, apart := false }
def StageOrderSaid : Prop := stageOrderRow.holds Tryz.pinned (OpenSpec.ofChange stageOrderSpec)

/-- ITS FALSE NEIGHBOUR: 'it returns false'. Refute it at one input. -/
def stageOrderWrong : ChangeSpec := { name := "stageOrder", fn := fun _ => fun
  | [d1, d2, d3, d4, d5] => { results := [.lit (.bool false)], args := [d1, d2, d3, d4, d5] }
  | _ => none }
def StageOrderWrongFalsely : Prop := stageOrderRow.holds Tryz.pinned (OpenSpec.ofChange stageOrderWrong)

/-- 'cellarerlaw20.StageMoves': WHATEVER THE INPUT: true; the input reads as it did. -/
def stageMovesSpec : ChangeSpec := { name := "stageMoves", fn := fun _ => fun
  | [d1, d2, d3] => { results := [.lit (.bool true)], args := [d1, d2, d3] }
  | _ => none }
def stageMovesRow : OpenClaim := { program := "ytbbifdfldpfphaagreat", sum := "b8597151355b5e4bc6022dc46946c62a6c67c14966c39677dc9769d764a41d0a", func := "cellarer/cellarerlaw20.StageMoves", spec := "stageMoves", inPlace := ["internal/bytealg.Compare", "slices.overlaps[cellarer/api.Chunk]", "slices.overlaps[cellarer/api.Loc]", "slices.overlaps[cellarer/api.Exp]"], unfollowed := true, recurses := true, apart := false }
def StageMovesSaid : Prop := stageMovesRow.holds Tryz.pinned (OpenSpec.ofChange stageMovesSpec)

/-- ITS FALSE NEIGHBOUR: 'it returns false'. Refute it at one input. -/
def stageMovesWrong : ChangeSpec := { name := "stageMoves", fn := fun _ => fun
  | [d1, d2, d3] => { results := [.lit (.bool false)], args := [d1, d2, d3] }
  | _ => none }
def StageMovesWrongFalsely : Prop := stageMovesRow.holds Tryz.pinned (OpenSpec.ofChange stageMovesWrong)

/-- 'cellarerlaw19.ChangeLives': WHATEVER THE INPUT: true; the input reads as it did. -/
def changeLivesSpec : ChangeSpec := { name := "changeLives", fn := fun _ => fun
  | [d1, d2] => { results := [.lit (.bool true)], args := [d1, d2] }
  | _ => none }
def changeLivesRow : OpenClaim := { program := "ytbbifdfldpfphaagreat", sum := "b8597151355b5e4bc6022dc46946c62a6c67c14966c39677dc9769d764a41d0a", func := "cellarer/cellarerlaw19.ChangeLives", spec := "changeLives", inPlace := ["internal/bytealg.Compare", "slices.overlaps[cellarer/api.Chunk]", "slices.overlaps[cellarer/api.Loc]", "slices.overlaps[cellarer/api.Exp]"], unfollowed := true, recurses := true, apart := false }
def ChangeLivesSaid : Prop := changeLivesRow.holds Tryz.pinned (OpenSpec.ofChange changeLivesSpec)

/-- ITS FALSE NEIGHBOUR: 'it returns false'. Refute it at one input. -/
def changeLivesWrong : ChangeSpec := { name := "changeLives", fn := fun _ => fun
  | [d1, d2] => { results := [.lit (.bool false)], args := [d1, d2] }
  | _ => none }
def ChangeLivesWrongFalsely : Prop := changeLivesRow.holds Tryz.pinned (OpenSpec.ofChange changeLivesWrong)

/-- 'cellarerlaw19.ChangeAgain': WHATEVER THE INPUT: true; the input reads as it did. -/
def changeAgainSpec : ChangeSpec := { name := "changeAgain", fn := fun _ => fun
  | [d1, d2, d3] => { results := [.lit (.bool true)], args := [d1, d2, d3] }
  | _ => none }
def changeAgainRow : OpenClaim := { program := "ytbbifdfldpfphaagreat", sum := "b8597151355b5e4bc6022dc46946c62a6c67c14966c39677dc9769d764a41d0a", func := "cellarer/cellarerlaw19.ChangeAgain", spec := "changeAgain", inPlace := ["internal/bytealg.Compare", "slices.overlaps[cellarer/api.Chunk]", "slices.overlaps[cellarer/api.Loc]", "slices.overlaps[cellarer/api.Exp]"], unfollowed := true, recurses := true, apart := false }
def ChangeAgainSaid : Prop := changeAgainRow.holds Tryz.pinned (OpenSpec.ofChange changeAgainSpec)

/-- ITS FALSE NEIGHBOUR: 'it returns false'. Refute it at one input. -/
def changeAgainWrong : ChangeSpec := { name := "changeAgain", fn := fun _ => fun
  | [d1, d2, d3] => { results := [.lit (.bool false)], args := [d1, d2, d3] }
  | _ => none }
def ChangeAgainWrongFalsely : Prop := changeAgainRow.holds Tryz.pinned (OpenSpec.ofChange changeAgainWrong)

/-- 'cellarerlaw19.ChangeRound': WHATEVER THE INPUT: true; the input reads as it did. -/
def changeRoundSpec : ChangeSpec := { name := "changeRound", fn := fun _ => fun
  | [d1, d2, d3] => { results := [.lit (.bool true)], args := [d1, d2, d3] }
  | _ => none }
def changeRoundRow : OpenClaim := { program := "ytbbifdfldpfphaagreat", sum := "b8597151355b5e4bc6022dc46946c62a6c67c14966c39677dc9769d764a41d0a", func := "cellarer/cellarerlaw19.ChangeRound", spec := "changeRound", inPlace := ["internal/bytealg.Compare", "slices.overlaps[cellarer/api.Chunk]", "slices.overlaps[cellarer/api.Loc]", "slices.overlaps[cellarer/api.Exp]"], unfollowed := true, recurses := true, apart := false }
def ChangeRoundSaid : Prop := changeRoundRow.holds Tryz.pinned (OpenSpec.ofChange changeRoundSpec)

/-- ITS FALSE NEIGHBOUR: 'it returns false'. Refute it at one input. -/
def changeRoundWrong : ChangeSpec := { name := "changeRound", fn := fun _ => fun
  | [d1, d2, d3] => { results := [.lit (.bool false)], args := [d1, d2, d3] }
  | _ => none }
def ChangeRoundWrongFalsely : Prop := changeRoundRow.holds Tryz.pinned (OpenSpec.ofChange changeRoundWrong)

/-- 'cellarerlaw19.ChangeSizes': WHATEVER THE INPUT: true; the input reads as it did. -/
def changeSizesSpec : ChangeSpec := { name := "changeSizes", fn := fun _ => fun
  | [d] => { results := [.lit (.bool true)], args := [d] }
  | _ => none }
def changeSizesRow : OpenClaim := { program := "ytbbifdfldpfphaagreat", sum := "b8597151355b5e4bc6022dc46946c62a6c67c14966c39677dc9769d764a41d0a", func := "cellarer/cellarerlaw19.ChangeSizes", spec := "changeSizes", inPlace := ["internal/bytealg.Compare", "slices.overlaps[cellarer/api.Chunk]", "slices.overlaps[cellarer/api.Loc]", "slices.overlaps[cellarer/api.Exp]"], unfollowed := true, recurses := true, apart := false }
def ChangeSizesSaid : Prop := changeSizesRow.holds Tryz.pinned (OpenSpec.ofChange changeSizesSpec)

/-- ITS FALSE NEIGHBOUR: 'it returns false'. Refute it at one input. -/
def changeSizesWrong : ChangeSpec := { name := "changeSizes", fn := fun _ => fun
  | [d] => { results := [.lit (.bool false)], args := [d] }
  | _ => none }
def ChangeSizesWrongFalsely : Prop := changeSizesRow.holds Tryz.pinned (OpenSpec.ofChange changeSizesWrong)

/-- 'cellarerlaw19.ChangeStaged': WHATEVER THE INPUT: true; the input reads as it did. -/
def changeStagedSpec : ChangeSpec := { name := "changeStaged", fn := fun _ => fun
  | [d1, d2, d3, d4] => { results := [.lit (.bool true)], args := [d1, d2, d3, d4] }
  | _ => none }
def changeStagedRow : OpenClaim := { program := "ytbbifdfldpfphaagreat", sum := "b8597151355b5e4bc6022dc46946c62a6c67c14966c39677dc9769d764a41d0a", func := "cellarer/cellarerlaw19.ChangeStaged", spec := "changeStaged", inPlace := ["internal/bytealg.Compare", "slices.overlaps[cellarer/api.Chunk]", "slices.overlaps[cellarer/api.Loc]", "slices.overlaps[cellarer/api.Exp]"], unfollowed := true, recurses := true, apart := false }
def ChangeStagedSaid : Prop := changeStagedRow.holds Tryz.pinned (OpenSpec.ofChange changeStagedSpec)

/-- ITS FALSE NEIGHBOUR: 'it returns false'. Refute it at one input. -/
def changeStagedWrong : ChangeSpec := { name := "changeStaged", fn := fun _ => fun
  | [d1, d2, d3, d4] => { results := [.lit (.bool false)], args := [d1, d2, d3, d4] }
  | _ => none }
def ChangeStagedWrongFalsely : Prop := changeStagedRow.holds Tryz.pinned (OpenSpec.ofChange changeStagedWrong)

/-- 'cellarerlaw19.ChangeExpires': WHATEVER THE INPUT: true; the input reads as it did. -/
def changeExpiresSpec : ChangeSpec := { name := "changeExpires", fn := fun _ => fun
  | [d1, d2, d3, d4] => { results := [.lit (.bool true)], args := [d1, d2, d3, d4] }
  | _ => none }
def changeExpiresRow : OpenClaim := { program := "ytbbifdfldpfphaagreat", sum := "b8597151355b5e4bc6022dc46946c62a6c67c14966c39677dc9769d764a41d0a", func := "cellarer/cellarerlaw19.ChangeExpires", spec := "changeExpires", inPlace := ["internal/bytealg.Compare", "slices.overlaps[cellarer/api.Chunk]", "slices.overlaps[cellarer/api.Loc]", "slices.overlaps[cellarer/api.Exp]"], unfollowed := true, recurses := true, apart := false }
def ChangeExpiresSaid : Prop := changeExpiresRow.holds Tryz.pinned (OpenSpec.ofChange changeExpiresSpec)

/-- ITS FALSE NEIGHBOUR: 'it returns false'. Refute it at one input. -/
def changeExpiresWrong : ChangeSpec := { name := "changeExpires", fn := fun _ => fun
  | [d1, d2, d3, d4] => { results := [.lit (.bool false)], args := [d1, d2, d3, d4] }
  | _ => none }
def ChangeExpiresWrongFalsely : Prop := changeExpiresRow.holds Tryz.pinned (OpenSpec.ofChange changeExpiresWrong)

/-- 'cellarerlaw19.ChangeKeeps': WHATEVER THE INPUT: true; the input reads as it did. -/
def changeKeepsSpec : ChangeSpec := { name := "changeKeeps", fn := fun _ => fun
  | [d1, d2, d3] => { results := [.lit (.bool true)], args := [d1, d2, d3] }
  | _ => none }
def changeKeepsRow : OpenClaim := { program := "ytbbifdfldpfphaagreat", sum := "b8597151355b5e4bc6022dc46946c62a6c67c14966c39677dc9769d764a41d0a", func := "cellarer/cellarerlaw19.ChangeKeeps", spec := "changeKeeps", inPlace := ["internal/bytealg.Compare", "slices.overlaps[cellarer/api.Chunk]", "slices.overlaps[cellarer/api.Loc]", "slices.overlaps[cellarer/api.Exp]"], unfollowed := true, recurses := true, apart := false }
def ChangeKeepsSaid : Prop := changeKeepsRow.holds Tryz.pinned (OpenSpec.ofChange changeKeepsSpec)

/-- ITS FALSE NEIGHBOUR: 'it returns false'. Refute it at one input. -/
def changeKeepsWrong : ChangeSpec := { name := "changeKeeps", fn := fun _ => fun
  | [d1, d2, d3] => { results := [.lit (.bool false)], args := [d1, d2, d3] }
  | _ => none }
def ChangeKeepsWrongFalsely : Prop := changeKeepsRow.holds Tryz.pinned (OpenSpec.ofChange changeKeepsWrong)

/- THE SECOND FORM. 'bulk': how many values and letters a reading holds, each counted each time it is reached (what is shared counts as often as it is met; a slice's spare places count too). A statement '..UptoSaid' is the law's where the arguments, and the package variables that the reading takes, are together of bulk at most 1048576: NARROWER than '..Said'. Prove '..Said' where nothing that the law and all that it calls make is longer than what came in: it says more and counts as full. Else prove '..UptoSaid'. A law counts once. -/
mutual
def uptoBulk {H : Type} : DataW H → Nat
  | .lit (.string bytes) => bytes.length + 1
  | .lit _ => 1
  | .nil => 1
  | .ptr d => uptoBulk d + 1
  | .slice elems spare => uptoBulkAll elems + uptoBulkAll spare + 1
  | .agg parts => uptoBulkAll parts + 1
  | .iface _ d => uptoBulk d + 1
  | .map entries => uptoBulkEntries entries + 1
  | .held _ => 1
def uptoBulkAll {H : Type} : List (DataW H) → Nat
  | [] => 0
  | d :: r => uptoBulk d + uptoBulkAll r
def uptoBulkEntries {H : Type} : List (Lit × DataW H) → Nat
  | [] => 0
  | x :: r => uptoBulkEntry x + uptoBulkEntries r
def uptoBulkEntry {H : Type} : Lit × DataW H → Nat
  | (.string bytes, d) => bytes.length + uptoBulk d + 1
  | (_, d) => uptoBulk d + 1
 end
def uptoSmall : (H : Type) → List (DataW H) → Bool := fun _ ds => decide (uptoBulkAll ds ≤ 1048576)
def OpenSpec.upto (s : _root_.Go.ChangeSpec) : _root_.Go.OpenSpec := { _root_.Go.OpenSpec.ofChange s with cond := some uptoSmall }

/-- 'cellarerlaw20.StageLived', WHERE WHAT IT READS IS OF BULK AT MOST 1048576: true; the input reads as it did. -/
def stageLivedUptoRow : OpenClaim := { program := "ytbbifdfldpfphaagreat", sum := "b8597151355b5e4bc6022dc46946c62a6c67c14966c39677dc9769d764a41d0a", func := "cellarer/cellarerlaw20.StageLived", spec := "stageLived", inPlace := ["internal/bytealg.Compare"], unfollowed := true, recurses := true, apart := false, narrowed := true }
def StageLivedUptoSaid : Prop := stageLivedUptoRow.holds Tryz.pinned (OpenSpec.upto stageLivedSpec)

/-- 'cellarerlaw20.StageCopies', WHERE WHAT IT READS IS OF BULK AT MOST 1048576: true; the input reads as it did. -/
def stageCopiesUptoRow : OpenClaim := { program := "ytbbifdfldpfphaagreat", sum := "b8597151355b5e4bc6022dc46946c62a6c67c14966c39677dc9769d764a41d0a", func := "cellarer/cellarerlaw20.StageCopies", spec := "stageCopies", inPlace := ["internal/bytealg.Compare", "slices.overlaps[cellarer/api.Chunk]", "slices.overlaps[cellarer/api.Loc]", "slices.overlaps[cellarer/api.Exp]"], unfollowed := true, recurses := true, apart := false, narrowed := true }
def StageCopiesUptoSaid : Prop := stageCopiesUptoRow.holds Tryz.pinned (OpenSpec.upto stageCopiesSpec)

/-- 'cellarerlaw20.StageOrder', WHERE WHAT IT READS IS OF BULK AT MOST 1048576: true; the input reads as it did. -/
def stageOrderUptoRow : OpenClaim := { program := "ytbbifdfldpfphaagreat", sum := "b8597151355b5e4bc6022dc46946c62a6c67c14966c39677dc9769d764a41d0a", func := "cellarer/cellarerlaw20.StageOrder", spec := "stageOrder", inPlace := ["internal/bytealg.Compare", "slices.overlaps[cellarer/api.Chunk]", "slices.overlaps[cellarer/api.Loc]", "slices.overlaps[cellarer/api.Exp]"], unfollowed := true, recurses := true, apart := false, narrowed := true }
def StageOrderUptoSaid : Prop := stageOrderUptoRow.holds Tryz.pinned (OpenSpec.upto stageOrderSpec)

/-- 'cellarerlaw20.StageMoves', WHERE WHAT IT READS IS OF BULK AT MOST 1048576: true; the input reads as it did. -/
def stageMovesUptoRow : OpenClaim := { program := "ytbbifdfldpfphaagreat", sum := "b8597151355b5e4bc6022dc46946c62a6c67c14966c39677dc9769d764a41d0a", func := "cellarer/cellarerlaw20.StageMoves", spec := "stageMoves", inPlace := ["internal/bytealg.Compare", "slices.overlaps[cellarer/api.Chunk]", "slices.overlaps[cellarer/api.Loc]", "slices.overlaps[cellarer/api.Exp]"], unfollowed := true, recurses := true, apart := false, narrowed := true }
def StageMovesUptoSaid : Prop := stageMovesUptoRow.holds Tryz.pinned (OpenSpec.upto stageMovesSpec)

/-- 'cellarerlaw19.ChangeLives', WHERE WHAT IT READS IS OF BULK AT MOST 1048576: true; the input reads as it did. -/
def changeLivesUptoRow : OpenClaim := { program := "ytbbifdfldpfphaagreat", sum := "b8597151355b5e4bc6022dc46946c62a6c67c14966c39677dc9769d764a41d0a", func := "cellarer/cellarerlaw19.ChangeLives", spec := "changeLives", inPlace := ["internal/bytealg.Compare", "slices.overlaps[cellarer/api.Chunk]", "slices.overlaps[cellarer/api.Loc]", "slices.overlaps[cellarer/api.Exp]"], unfollowed := true, recurses := true, apart := false, narrowed := true }
def ChangeLivesUptoSaid : Prop := changeLivesUptoRow.holds Tryz.pinned (OpenSpec.upto changeLivesSpec)

/-- 'cellarerlaw19.ChangeAgain', WHERE WHAT IT READS IS OF BULK AT MOST 1048576: true; the input reads as it did. -/
def changeAgainUptoRow : OpenClaim := { program := "ytbbifdfldpfphaagreat", sum := "b8597151355b5e4bc6022dc46946c62a6c67c14966c39677dc9769d764a41d0a", func := "cellarer/cellarerlaw19.ChangeAgain", spec := "changeAgain", inPlace := ["internal/bytealg.Compare", "slices.overlaps[cellarer/api.Chunk]", "slices.overlaps[cellarer/api.Loc]", "slices.overlaps[cellarer/api.Exp]"], unfollowed := true, recurses := true, apart := false, narrowed := true }
def ChangeAgainUptoSaid : Prop := changeAgainUptoRow.holds Tryz.pinned (OpenSpec.upto changeAgainSpec)

/-- 'cellarerlaw19.ChangeRound', WHERE WHAT IT READS IS OF BULK AT MOST 1048576: true; the input reads as it did. -/
def changeRoundUptoRow : OpenClaim := { program := "ytbbifdfldpfphaagreat", sum := "b8597151355b5e4bc6022dc46946c62a6c67c14966c39677dc9769d764a41d0a", func := "cellarer/cellarerlaw19.ChangeRound", spec := "changeRound", inPlace := ["internal/bytealg.Compare", "slices.overlaps[cellarer/api.Chunk]", "slices.overlaps[cellarer/api.Loc]", "slices.overlaps[cellarer/api.Exp]"], unfollowed := true, recurses := true, apart := false, narrowed := true }
def ChangeRoundUptoSaid : Prop := changeRoundUptoRow.holds Tryz.pinned (OpenSpec.upto changeRoundSpec)

/-- 'cellarerlaw19.ChangeSizes', WHERE WHAT IT READS IS OF BULK AT MOST 1048576: true; the input reads as it did. -/
def changeSizesUptoRow : OpenClaim := { program := "ytbbifdfldpfphaagreat", sum := "b8597151355b5e4bc6022dc46946c62a6c67c14966c39677dc9769d764a41d0a", func := "cellarer/cellarerlaw19.ChangeSizes", spec := "changeSizes", inPlace := ["internal/bytealg.Compare", "slices.overlaps[cellarer/api.Chunk]", "slices.overlaps[cellarer/api.Loc]", "slices.overlaps[cellarer/api.Exp]"], unfollowed := true, recurses := true, apart := false, narrowed := true }
def ChangeSizesUptoSaid : Prop := changeSizesUptoRow.holds Tryz.pinned (OpenSpec.upto changeSizesSpec)

/-- 'cellarerlaw19.ChangeStaged', WHERE WHAT IT READS IS OF BULK AT MOST 1048576: true; the input reads as it did. -/
def changeStagedUptoRow : OpenClaim := { program := "ytbbifdfldpfphaagreat", sum := "b8597151355b5e4bc6022dc46946c62a6c67c14966c39677dc9769d764a41d0a", func := "cellarer/cellarerlaw19.ChangeStaged", spec := "changeStaged", inPlace := ["internal/bytealg.Compare", "slices.overlaps[cellarer/api.Chunk]", "slices.overlaps[cellarer/api.Loc]", "slices.overlaps[cellarer/api.Exp]"], unfollowed := true, recurses := true, apart := false, narrowed := true }
def ChangeStagedUptoSaid : Prop := changeStagedUptoRow.holds Tryz.pinned (OpenSpec.upto changeStagedSpec)

/-- 'cellarerlaw19.ChangeExpires', WHERE WHAT IT READS IS OF BULK AT MOST 1048576: true; the input reads as it did. -/
def changeExpiresUptoRow : OpenClaim := { program := "ytbbifdfldpfphaagreat", sum := "b8597151355b5e4bc6022dc46946c62a6c67c14966c39677dc9769d764a41d0a", func := "cellarer/cellarerlaw19.ChangeExpires", spec := "changeExpires", inPlace := ["internal/bytealg.Compare", "slices.overlaps[cellarer/api.Chunk]", "slices.overlaps[cellarer/api.Loc]", "slices.overlaps[cellarer/api.Exp]"], unfollowed := true, recurses := true, apart := false, narrowed := true }
def ChangeExpiresUptoSaid : Prop := changeExpiresUptoRow.holds Tryz.pinned (OpenSpec.upto changeExpiresSpec)

/-- 'cellarerlaw19.ChangeKeeps', WHERE WHAT IT READS IS OF BULK AT MOST 1048576: true; the input reads as it did. -/
def changeKeepsUptoRow : OpenClaim := { program := "ytbbifdfldpfphaagreat", sum := "b8597151355b5e4bc6022dc46946c62a6c67c14966c39677dc9769d764a41d0a", func := "cellarer/cellarerlaw19.ChangeKeeps", spec := "changeKeeps", inPlace := ["internal/bytealg.Compare", "slices.overlaps[cellarer/api.Chunk]", "slices.overlaps[cellarer/api.Loc]", "slices.overlaps[cellarer/api.Exp]"], unfollowed := true, recurses := true, apart := false, narrowed := true }
def ChangeKeepsUptoSaid : Prop := changeKeepsUptoRow.holds Tryz.pinned (OpenSpec.upto changeKeepsSpec)

end Rows
end Go.Proofs.YtbbifdfldpfphaaGreat
