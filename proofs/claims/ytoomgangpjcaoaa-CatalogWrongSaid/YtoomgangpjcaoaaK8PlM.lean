/-
  Plain laws: where a thing stands in a row; CatalogNew, CatalogLooks.
-/
import Derived.Test.YtoomgangpjcaoaaK8PlL
import Derived.Test.YtoomgangpjcaoaaK8Wa
import Derived.Test.YtoomgangpjcaoaaK8Types
import Derived.Test.YtoomgangpjcaoaaK8Wc
import Derived.Test.YtoomgangpjcaoaaK8We
import Derived.Test.YtoomgangpjcaoaaK8Wf
import Derived.Test.YtoomgangpjcaoaaK8Wg
import Derived.Test.YtoomgangpjcaoaaK8Wi
namespace Go.Proofs.Ytoomgangpjcaoaa
open Go.Vm

/-! ### CatalogNew -/
theorem m31 : M31 1000 = some true := by decide +kernel
/-! ### CatalogLooks -/
theorem good_chs {c : TCatalog} (hg : good c = true) : chsB c = true := by
  unfold good at hg
  simp only [Bool.and_eq_true] at hg
  exact hg.1.1.2.1
end Go.Proofs.Ytoomgangpjcaoaa
