/-
  For every slice of bytes that is handed in, 'CdcNext' returns true and leaves its argument as it was. Conditions: none.
-/
import Derived.Test.YtafflcbcpbgloaaLawNext
import Derived.Test.YtafflcbcpbgloaaVmR
import Derived.Test.YtafflcbcpbgloaaRows
namespace Go.Proofs.Ytafflcbcpbgloaa
open Go.Vm Go.ChangeShapes Go.WideShapes
theorem Try.own0 : ownKnob Try.prog.godebug = none := by kernel_rfl
theorem Try.laidOut0 : laidOutB Try.prog = true := by kernel_rfl
theorem Try.cells5 : Try.prog.cellsOf 5 = 1 := by kernel_rfl
theorem Try.u5 : Try.prog.underlying 5 = some (.int .u8) := by kernel_rfl
theorem Try.u22 : Try.prog.underlying 22 = some (.slice 5) := by kernel_rfl
theorem Try.u4 : Try.prog.underlying 4 = some .bool := by kernel_rfl
theorem Try.rr22 : Try.prog.readableRec 22 = true ∧ 22 < Try.prog.types.size := ⟨by kernel_rfl, of_decide_eq_true (by kernel_rfl)⟩

namespace RNext
set_option maxRecDepth 100000 in
theorem lifted (os : Os) (started : os.Started) (H : Type) (enc : TypeId × Value → H) :
    ReturnsInHanded {} Try.checked os 8 .any (Rows.cdcNextSpec.pre6 enc Try.prog Try.f8 Rows.cdcNextRow.domain false) (Rows.cdcNextSpec.post enc Try.prog Try.f8 false true false false) := by
  refine law_lift (C := Try.checked) (t := 4) Try.own0 started (by kernel_rfl) Try.func8
    (ChangeSpec.witness6 (enc := enc) (C := Try.checked) false ⟨#[], #[.slice none 0 0], []⟩ 8 (by kernel_rfl) (by kernel_rfl) (by kernel_rfl) (by kernel_rfl))
    Try.laidOut0 (by rw [show Try.f8.params.toList = [22] from rfl]; intro t h; cases List.mem_singleton.1 h; exact Try.rr22) rfl rfl Try.u4 ?_ ?_
  · intro ds h
    match ds, h with
    | [d], _ => rfl
  · intro W base args ds ps hval hA
    have hA : DataW.TrodAll enc Try.prog W 0 (fun _ => true) true [22] args.toList ds ps := hA
    obtain ⟨v0, d0, hargs, rfl, h0⟩ := trodAll_one hA
    obtain rfl : args = #[v0] := by cases args; simp_all
    obtain ⟨l, l1, l2, l3⟩ := VR_bytes Try.u22 Try.u5 Try.cells5 (hval 0 22 v0 rfl rfl) h0
    exact ⟨[bys none l], by simp only [VRL]; exact ⟨l3, trivial⟩, lawNext l H0 l2 l1⟩

theorem over : Rows.cdcNextRow.holds Try.pinned (OpenSpec.ofChange Rows.cdcNextSpec) :=
  OpenClaim.holds_of_wide 8 Try.f8 rfl rfl rfl rfl rfl rfl rfl ⟨rfl, rfl, rfl, rfl, rfl⟩ rfl rfl rfl rfl rfl (by kernel_rfl) Try.func8 (by kernel_rfl)
    (of_decide_eq_true (by kernel_rfl)) (by unfold Func.isWrapper; first | (rw [if_pos (by decide +kernel)]; kernel_rfl) | (rw [if_neg (by decide +kernel)]; exact ⟨rfl, rfl⟩))
    (fun os started H enc _ => lifted os started H enc)

theorem proved : Rows.CdcNextSaid := over
#print axioms proved
end RNext
end Go.Proofs.Ytafflcbcpbgloaa
