/-
  No cell of these rows narrows 'for every input' (looked for: loops, veiled, ifaces, maps, wideKeys, modest, calm, conditions, laid).
  DERIVED. THE GIVEN ROWS OF THIS SEAT. 8 by the template 'for every input the law returns true; each argument reads behind the call as it read before'; 0 by the template 'total and deterministic' (their statements: YtafflcbcpbgloaaTotals.lean).
  GIVEN WITH THE SEED: the statements are not yours to turn. If you find one false, say at which input.
  Laid BY PROGRAM, IN A SANDBOX (cutbox-rows.mjs): the forced cells as the released guide's own fill.sh prints them over the translation 794b8faf2dab89ed… (all of the seat's roots in one cut). By AI agents, Wed Nov 11 2026. No macro, syntax, notation, axiom, sorry.
-/
import Derived.Test.YtafflcbcpbgloaaChecked
import GoSem.Claim
import GoSem.ClaimJoined
import GoSem.ClaimMapViews
import Derived.JoinedTies
import Derived.KernelRfl
namespace Go.Proofs.Ytafflcbcpbgloaa
/- THE CELL 'sum', in the pinned program and in every row, IS THE sha256 OF THE DUMP (.gsa) THAT YtafflcbcpbgloaaProg.lean LOADS. Nothing in Lean hashes anything: it is a label: what it is worth is what the hold of that sum in a sandbox is worth. -/
noncomputable def Try.pinned : Pinned := { name := "ytafflcbcpbgloaa", sum := "794b8faf2dab89ed38803d3b803e954631e6621cf2fd46d834f92d56025749f8", checked := Try.checked }
namespace Rows
def none {H : Type} : Left H := { results := [], args := [] }

/-- 'cellarerlaw04.CdcExact': WHATEVER THE INPUT: true; the input reads as it did. -/
def cdcExactSpec : ChangeSpec := { name := "cdcExact", fn := fun _ => fun
  | [d] => { results := [.lit (.bool true)], args := [d] }
  | _ => none }
def cdcExactRow : OpenClaim := { program := "ytafflcbcpbgloaa", sum := "794b8faf2dab89ed38803d3b803e954631e6621cf2fd46d834f92d56025749f8", func := "cellarer/cellarerlaw04.CdcExact", spec := "cdcExact", apart := false }
def CdcExactSaid : Prop := cdcExactRow.holds Try.pinned (OpenSpec.ofChange cdcExactSpec)

/-- ITS FALSE NEIGHBOUR: 'it returns false'. Refute it at one input. -/
def cdcExactWrong : ChangeSpec := { name := "cdcExact", fn := fun _ => fun
  | [d] => { results := [.lit (.bool false)], args := [d] }
  | _ => none }
def CdcExactWrongFalsely : Prop := cdcExactRow.holds Try.pinned (OpenSpec.ofChange cdcExactWrong)

/-- 'cellarerlaw04.CdcWhole': WHATEVER THE INPUT: true; the input reads as it did. -/
def cdcWholeSpec : ChangeSpec := { name := "cdcWhole", fn := fun _ => fun
  | [d] => { results := [.lit (.bool true)], args := [d] }
  | _ => none }
def cdcWholeRow : OpenClaim := { program := "ytafflcbcpbgloaa", sum := "794b8faf2dab89ed38803d3b803e954631e6621cf2fd46d834f92d56025749f8", func := "cellarer/cellarerlaw04.CdcWhole", spec := "cdcWhole", apart := false }
def CdcWholeSaid : Prop := cdcWholeRow.holds Try.pinned (OpenSpec.ofChange cdcWholeSpec)

/-- ITS FALSE NEIGHBOUR: 'it returns false'. Refute it at one input. -/
def cdcWholeWrong : ChangeSpec := { name := "cdcWhole", fn := fun _ => fun
  | [d] => { results := [.lit (.bool false)], args := [d] }
  | _ => none }
def CdcWholeWrongFalsely : Prop := cdcWholeRow.holds Try.pinned (OpenSpec.ofChange cdcWholeWrong)

/-- 'cellarerlaw04.CdcStays': WHATEVER THE INPUT: true; the input reads as it did. -/
def cdcStaysSpec : ChangeSpec := { name := "cdcStays", fn := fun _ => fun
  | [d1, d2] => { results := [.lit (.bool true)], args := [d1, d2] }
  | _ => none }
def cdcStaysRow : OpenClaim := { program := "ytafflcbcpbgloaa", sum := "794b8faf2dab89ed38803d3b803e954631e6621cf2fd46d834f92d56025749f8", func := "cellarer/cellarerlaw04.CdcStays", spec := "cdcStays", apart := false }
def CdcStaysSaid : Prop := cdcStaysRow.holds Try.pinned (OpenSpec.ofChange cdcStaysSpec)

/-- ITS FALSE NEIGHBOUR: 'it returns false'. Refute it at one input. -/
def cdcStaysWrong : ChangeSpec := { name := "cdcStays", fn := fun _ => fun
  | [d1, d2] => { results := [.lit (.bool false)], args := [d1, d2] }
  | _ => none }
def CdcStaysWrongFalsely : Prop := cdcStaysRow.holds Try.pinned (OpenSpec.ofChange cdcStaysWrong)

/-- 'cellarerlaw04.CdcLong': WHATEVER THE INPUT: true; the input reads as it did. -/
def cdcLongSpec : ChangeSpec := { name := "cdcLong", fn := fun _ => fun
  | [d1, d2] => { results := [.lit (.bool true)], args := [d1, d2] }
  | _ => none }
def cdcLongRow : OpenClaim := { program := "ytafflcbcpbgloaa", sum := "794b8faf2dab89ed38803d3b803e954631e6621cf2fd46d834f92d56025749f8", func := "cellarer/cellarerlaw04.CdcLong", spec := "cdcLong", apart := false }
def CdcLongSaid : Prop := cdcLongRow.holds Try.pinned (OpenSpec.ofChange cdcLongSpec)

/-- ITS FALSE NEIGHBOUR: 'it returns false'. Refute it at one input. -/
def cdcLongWrong : ChangeSpec := { name := "cdcLong", fn := fun _ => fun
  | [d1, d2] => { results := [.lit (.bool false)], args := [d1, d2] }
  | _ => none }
def CdcLongWrongFalsely : Prop := cdcLongRow.holds Try.pinned (OpenSpec.ofChange cdcLongWrong)

/-- 'cellarerlaw04.CdcShared': WHATEVER THE INPUT: true; the input reads as it did. -/
def cdcSharedSpec : ChangeSpec := { name := "cdcShared", fn := fun _ => fun
  | [d1, d2, d3] => { results := [.lit (.bool true)], args := [d1, d2, d3] }
  | _ => none }
def cdcSharedRow : OpenClaim := { program := "ytafflcbcpbgloaa", sum := "794b8faf2dab89ed38803d3b803e954631e6621cf2fd46d834f92d56025749f8", func := "cellarer/cellarerlaw04.CdcShared", spec := "cdcShared", apart := false }
def CdcSharedSaid : Prop := cdcSharedRow.holds Try.pinned (OpenSpec.ofChange cdcSharedSpec)

/-- ITS FALSE NEIGHBOUR: 'it returns false'. Refute it at one input. -/
def cdcSharedWrong : ChangeSpec := { name := "cdcShared", fn := fun _ => fun
  | [d1, d2, d3] => { results := [.lit (.bool false)], args := [d1, d2, d3] }
  | _ => none }
def CdcSharedWrongFalsely : Prop := cdcSharedRow.holds Try.pinned (OpenSpec.ofChange cdcSharedWrong)

/-- 'cellarerlaw04.CdcNext': WHATEVER THE INPUT: true; the input reads as it did. -/
def cdcNextSpec : ChangeSpec := { name := "cdcNext", fn := fun _ => fun
  | [d] => { results := [.lit (.bool true)], args := [d] }
  | _ => none }
def cdcNextRow : OpenClaim := { program := "ytafflcbcpbgloaa", sum := "794b8faf2dab89ed38803d3b803e954631e6621cf2fd46d834f92d56025749f8", func := "cellarer/cellarerlaw04.CdcNext", spec := "cdcNext", apart := false }
def CdcNextSaid : Prop := cdcNextRow.holds Try.pinned (OpenSpec.ofChange cdcNextSpec)

/-- ITS FALSE NEIGHBOUR: 'it returns false'. Refute it at one input. -/
def cdcNextWrong : ChangeSpec := { name := "cdcNext", fn := fun _ => fun
  | [d] => { results := [.lit (.bool false)], args := [d] }
  | _ => none }
def CdcNextWrongFalsely : Prop := cdcNextRow.holds Try.pinned (OpenSpec.ofChange cdcNextWrong)

/-- 'cellarerlaw04.CdcSame': WHATEVER THE INPUT: true; the input reads as it did. -/
def cdcSameSpec : ChangeSpec := { name := "cdcSame", fn := fun _ => fun
  | [d1, d2] => { results := [.lit (.bool true)], args := [d1, d2] }
  | _ => none }
def cdcSameRow : OpenClaim := { program := "ytafflcbcpbgloaa", sum := "794b8faf2dab89ed38803d3b803e954631e6621cf2fd46d834f92d56025749f8", func := "cellarer/cellarerlaw04.CdcSame", spec := "cdcSame", apart := false }
def CdcSameSaid : Prop := cdcSameRow.holds Try.pinned (OpenSpec.ofChange cdcSameSpec)

/-- ITS FALSE NEIGHBOUR: 'it returns false'. Refute it at one input. -/
def cdcSameWrong : ChangeSpec := { name := "cdcSame", fn := fun _ => fun
  | [d1, d2] => { results := [.lit (.bool false)], args := [d1, d2] }
  | _ => none }
def CdcSameWrongFalsely : Prop := cdcSameRow.holds Try.pinned (OpenSpec.ofChange cdcSameWrong)

/-- 'cellarerlaw20.StageBatch': WHATEVER THE INPUT: true; the input reads as it did. -/
def stageBatchSpec : ChangeSpec := { name := "stageBatch", fn := fun _ => fun
  | [d1, d2] => { results := [.lit (.bool true)], args := [d1, d2] }
  | _ => none }
def stageBatchRow : OpenClaim := { program := "ytafflcbcpbgloaa", sum := "794b8faf2dab89ed38803d3b803e954631e6621cf2fd46d834f92d56025749f8", func := "cellarer/cellarerlaw20.StageBatch", spec := "stageBatch", unfollowed := true, recurses := true, apart := false }
def StageBatchSaid : Prop := stageBatchRow.holds Try.pinned (OpenSpec.ofChange stageBatchSpec)

/-- ITS FALSE NEIGHBOUR: 'it returns false'. Refute it at one input. -/
def stageBatchWrong : ChangeSpec := { name := "stageBatch", fn := fun _ => fun
  | [d1, d2] => { results := [.lit (.bool false)], args := [d1, d2] }
  | _ => none }
def StageBatchWrongFalsely : Prop := stageBatchRow.holds Try.pinned (OpenSpec.ofChange stageBatchWrong)

/- THE SECOND FORM. 'bulk': how many values and letters a reading holds, each counted each time it is reached (what is shared counts as often as it is met; a slice's spare places count too). A statement '..UptoSaid' is the law's where the arguments, and the package variables that the reading takes, are together of bulk at most 1048576: NARROWER than '..Said'. Prove '..Said' where nothing that the law and all that it calls make is longer than what came in: it says more and counts as full. Else prove '..UptoSaid'. A law counts once. -/
mutual
def uptoBulk {H : Type} : DataW H → Nat
  | .lit (.string bytes) => bytes.length + 1
  | .lit _ => 1
  | .nil => 1
  | .ptr d => uptoBulk d + 1
  | .slice elems spare => uptoBulkAll elems + uptoBulkAll spare + 1
  | .agg parts => uptoBulkAll parts + 1
  | .iface _ d => uptoBulk d + 1
  | .map entries => uptoBulkEntries entries + 1
  | .held _ => 1
def uptoBulkAll {H : Type} : List (DataW H) → Nat
  | [] => 0
  | d :: r => uptoBulk d + uptoBulkAll r
def uptoBulkEntries {H : Type} : List (Lit × DataW H) → Nat
  | [] => 0
  | x :: r => uptoBulkEntry x + uptoBulkEntries r
def uptoBulkEntry {H : Type} : Lit × DataW H → Nat
  | (.string bytes, d) => bytes.length + uptoBulk d + 1
  | (_, d) => uptoBulk d + 1
 end
def uptoSmall : (H : Type) → List (DataW H) → Bool := fun _ ds => decide (uptoBulkAll ds ≤ 1048576)
def OpenSpec.upto (s : _root_.Go.ChangeSpec) : _root_.Go.OpenSpec := { _root_.Go.OpenSpec.ofChange s with cond := some uptoSmall }

/-- 'cellarerlaw04.CdcExact', WHERE WHAT IT READS IS OF BULK AT MOST 1048576: true; the input reads as it did. -/
def cdcExactUptoRow : OpenClaim := { program := "ytafflcbcpbgloaa", sum := "794b8faf2dab89ed38803d3b803e954631e6621cf2fd46d834f92d56025749f8", func := "cellarer/cellarerlaw04.CdcExact", spec := "cdcExact", apart := false, narrowed := true }
def CdcExactUptoSaid : Prop := cdcExactUptoRow.holds Try.pinned (OpenSpec.upto cdcExactSpec)

/-- 'cellarerlaw04.CdcWhole', WHERE WHAT IT READS IS OF BULK AT MOST 1048576: true; the input reads as it did. -/
def cdcWholeUptoRow : OpenClaim := { program := "ytafflcbcpbgloaa", sum := "794b8faf2dab89ed38803d3b803e954631e6621cf2fd46d834f92d56025749f8", func := "cellarer/cellarerlaw04.CdcWhole", spec := "cdcWhole", apart := false, narrowed := true }
def CdcWholeUptoSaid : Prop := cdcWholeUptoRow.holds Try.pinned (OpenSpec.upto cdcWholeSpec)

/-- 'cellarerlaw04.CdcStays', WHERE WHAT IT READS IS OF BULK AT MOST 1048576: true; the input reads as it did. -/
def cdcStaysUptoRow : OpenClaim := { program := "ytafflcbcpbgloaa", sum := "794b8faf2dab89ed38803d3b803e954631e6621cf2fd46d834f92d56025749f8", func := "cellarer/cellarerlaw04.CdcStays", spec := "cdcStays", apart := false, narrowed := true }
def CdcStaysUptoSaid : Prop := cdcStaysUptoRow.holds Try.pinned (OpenSpec.upto cdcStaysSpec)

/-- 'cellarerlaw04.CdcLong', WHERE WHAT IT READS IS OF BULK AT MOST 1048576: true; the input reads as it did. -/
def cdcLongUptoRow : OpenClaim := { program := "ytafflcbcpbgloaa", sum := "794b8faf2dab89ed38803d3b803e954631e6621cf2fd46d834f92d56025749f8", func := "cellarer/cellarerlaw04.CdcLong", spec := "cdcLong", apart := false, narrowed := true }
def CdcLongUptoSaid : Prop := cdcLongUptoRow.holds Try.pinned (OpenSpec.upto cdcLongSpec)

/-- 'cellarerlaw04.CdcShared', WHERE WHAT IT READS IS OF BULK AT MOST 1048576: true; the input reads as it did. -/
def cdcSharedUptoRow : OpenClaim := { program := "ytafflcbcpbgloaa", sum := "794b8faf2dab89ed38803d3b803e954631e6621cf2fd46d834f92d56025749f8", func := "cellarer/cellarerlaw04.CdcShared", spec := "cdcShared", apart := false, narrowed := true }
def CdcSharedUptoSaid : Prop := cdcSharedUptoRow.holds Try.pinned (OpenSpec.upto cdcSharedSpec)

/-- 'cellarerlaw04.CdcNext', WHERE WHAT IT READS IS OF BULK AT MOST 1048576: true; the input reads as it did. -/
def cdcNextUptoRow : OpenClaim := { program := "ytafflcbcpbgloaa", sum := "794b8faf2dab89ed38803d3b803e954631e6621cf2fd46d834f92d56025749f8", func := "cellarer/cellarerlaw04.CdcNext", spec := "cdcNext", apart := false, narrowed := true }
def CdcNextUptoSaid : Prop := cdcNextUptoRow.holds Try.pinned (OpenSpec.upto cdcNextSpec)

/-- 'cellarerlaw04.CdcSame', WHERE WHAT IT READS IS OF BULK AT MOST 1048576: true; the input reads as it did. -/
def cdcSameUptoRow : OpenClaim := { program := "ytafflcbcpbgloaa", sum := "794b8faf2dab89ed38803d3b803e954631e6621cf2fd46d834f92d56025749f8", func := "cellarer/cellarerlaw04.CdcSame", spec := "cdcSame", apart := false, narrowed := true }
def CdcSameUptoSaid : Prop := cdcSameUptoRow.holds Try.pinned (OpenSpec.upto cdcSameSpec)

/-- 'cellarerlaw20.StageBatch', WHERE WHAT IT READS IS OF BULK AT MOST 1048576: true; the input reads as it did. -/
def stageBatchUptoRow : OpenClaim := { program := "ytafflcbcpbgloaa", sum := "794b8faf2dab89ed38803d3b803e954631e6621cf2fd46d834f92d56025749f8", func := "cellarer/cellarerlaw20.StageBatch", spec := "stageBatch", unfollowed := true, recurses := true, apart := false, narrowed := true }
def StageBatchUptoSaid : Prop := stageBatchUptoRow.holds Try.pinned (OpenSpec.upto stageBatchSpec)

end Rows
end Go.Proofs.Ytafflcbcpbgloaa
