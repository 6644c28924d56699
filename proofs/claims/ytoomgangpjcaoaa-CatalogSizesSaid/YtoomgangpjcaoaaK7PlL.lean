/-
  Plain laws: pools; the law PoolsExact.
-/
import Derived.Test.YtoomgangpjcaoaaK7PlK
set_option linter.unusedSimpArgs false
set_option linter.unusedVariables false
namespace Go.Proofs.Ytoomgangpjcaoaa
open Go.Vm

/-- A volume of a state where there is room. -/
def fits (c : TCatalog) (p need : Int) (r : List Int) (nt st : Int) (i : Nat) : Bool := match c.Vols[i]?, r[i]? with
  | some x, some z => x.Pool == p && (i : Int) != nt && x.State == st && decide (need ≤ z)
  | _, _ => false
end Go.Proofs.Ytoomgangpjcaoaa
