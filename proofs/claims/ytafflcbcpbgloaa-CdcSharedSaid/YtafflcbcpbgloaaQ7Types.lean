/-
  The types of plain data of this program, as cells; closed facts of the program's types, by computation.
-/
import Derived.Test.YtafflcbcpbgloaaQ7VmInt
import Derived.Test.YtafflcbcpbgloaaProg
set_option linter.unusedSimpArgs false
namespace Go.Proofs.Ytafflcbcpbgloaa
open Go.Vm
abbrev c_u8 (x : Int) : List AV := [.sc (.int .u8 x)]
abbrev c_s_u8 (x : List Int) : List AV := [.sl none 1 (List.map c_u8 x)]
theorem u4 : Try.prog.underlying 4 = some .bool := by kernel_rfl
theorem ld5 : ldT Try.prog 5 = some (false, 1) := by kernel_rfl
theorem ti5 : tInt Try.prog 5 = some .u8 := by kernel_rfl
theorem u5 : Try.prog.underlying 5 = some (.int .u8) := by kernel_rfl
theorem u9 : Try.prog.underlying 9 = some .string := by kernel_rfl
theorem ln22 : lnT Try.prog 22 = some true := by kernel_rfl
theorem el22 : elS Try.prog 22 = some 1 := by kernel_rfl
theorem et22 : ElT Try.prog 22 5 1 1 := ElT.of (by kernel_rfl) (by kernel_rfl) (by decide)
theorem ld22 : ldT Try.prog 22 = some (false, 1) := by kernel_rfl
theorem u22 : Try.prog.underlying 22 = some (.slice 5) := by kernel_rfl
theorem ln24 : lnT Try.prog 24 = some true := by kernel_rfl
theorem el24 : elS Try.prog 24 = some 1 := by kernel_rfl
theorem et24 : ElT Try.prog 24 22 1 24 := ElT.of (by kernel_rfl) (by kernel_rfl) (by decide)
theorem ti44 : tInt Try.prog 44 = some .u32 := by kernel_rfl
theorem mixed : Try.prog.follows .mixedOrders = true := by kernel_rfl
end Go.Proofs.Ytafflcbcpbgloaa
