import Derived.Test.YtafflcbcpbgloaaQ7VmZ
import Derived.Test.YtafflcbcpbgloaaQ7Types
set_option linter.unusedSimpArgs false
namespace Go.Proofs.Ytafflcbcpbgloaa
open Go.Vm Go.ChangeShapes Go.WideShapes
section
variable {H : Type} {enc : TypeId × Value → H} {W : World}
theorem ce5 : Try.prog.cellsOf 5 = 1 := by kernel_rfl
theorem rd5 : Rd enc Try.prog W 5 c_u8 gB := Rd_u8 u5
theorem rd22 : Rd enc Try.prog W 22 c_s_u8 (gL gB) := Rd.slice rd5 u22 ce5 (fun _ => rfl) (by decide)
theorem rr22 : Try.prog.readableRec 22 = true ∧ 22 < Try.prog.types.size := ⟨by kernel_rfl, of_decide_eq_true (by kernel_rfl)⟩
theorem own0 : ownKnob Try.prog.godebug = none := by kernel_rfl
theorem laidOut0 : laidOutB Try.prog = true := by kernel_rfl
end
end Go.Proofs.Ytafflcbcpbgloaa
