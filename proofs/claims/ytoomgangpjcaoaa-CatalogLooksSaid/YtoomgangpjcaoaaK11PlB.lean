/-
  Plain laws: what 'catalog.Check' and the page's 'Check' tell.
-/
import Derived.Test.YtoomgangpjcaoaaK11PlA
import Derived.Test.YtoomgangpjcaoaaK11Wd
import Derived.Test.YtoomgangpjcaoaaK11Wc
import Derived.Test.YtoomgangpjcaoaaK11Wf
import Derived.Test.YtoomgangpjcaoaaK11We
import Derived.Test.YtoomgangpjcaoaaK11Reads
set_option linter.unusedSimpArgs false
set_option linter.unusedVariables false
namespace Go.Proofs.Ytoomgangpjcaoaa
open Go.Vm

def inR (a b c : Int) : Bool := decide (b ≤ a) && decide (a ≤ c)
theorem m68 (F : Nat) (a b c : Int) : M68 F a b c = some (inR a b c) := by
  unfold M68 inR
  by_cases h : b ≤ a <;> simp [after, h]
theorem m59 (F : Nat) (a b c : Int) : M59 F a b c = some (inR a b c) := by
  unfold M59 inR
  by_cases h : b ≤ a <;> simp [after, h]

def aftB (a b : TLoc) : Bool := if a.Vol != b.Vol then decide (b.Vol < a.Vol) else if a.File != b.File then decide (b.File < a.File) else decide (b.Off < a.Off)
def locB (c : TCatalog) (l : List TLoc) (i : Nat) : Bool := match l[i]? with
  | none => true
  | some x => inR x.Vol 0 ((c.Vols.length : Int) - 1) && (match c.Vols[x.Vol.toNat]? with | none => false | some v => v.State == 2 && inR x.File 1 v.Files) && inR x.Off 0 16777215 && inR x.Len 13 8013 &&
      (i == 0 || (match l[i - 1]? with | none => true | some y => aftB x y))
def locsB (c : TCatalog) (l : List TLoc) : Bool := decide (l.length ≤ 200) && !(List.range l.length).any fun i => !locB c l i

end Go.Proofs.Ytoomgangpjcaoaa
