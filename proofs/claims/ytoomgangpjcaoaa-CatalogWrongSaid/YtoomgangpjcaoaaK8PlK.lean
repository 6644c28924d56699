/-
  Plain laws: what lies on a volume, what lives there.
-/
import Derived.Test.YtoomgangpjcaoaaK8PlJ
import Derived.Test.YtoomgangpjcaoaaK8Wg
import Derived.Test.YtoomgangpjcaoaaK8Wa
import Derived.Test.YtoomgangpjcaoaaK8Types
import Derived.Test.YtoomgangpjcaoaaK8Wc
set_option linter.unusedSimpArgs false
set_option linter.unusedVariables false
namespace Go.Proofs.Ytoomgangpjcaoaa
open Go.Vm

def onV (v : Int) (l : List TLoc) : Bool := l.any fun y => y.Vol == v
def it1 (x : TChunk) : TItem := { Kind := 1, Id := x.Id, Seq := 0, Of := 0, Off := 0, Len := 0 }
def it2 (x : TSnap) : TItem := { Kind := 2, Id := idZ, Seq := x.Seq, Of := 0, Off := 0, Len := 0 }
def it3 (x : TExp) : TItem := { Kind := 3, Id := idZ, Seq := x.Seq, Of := x.Of, Off := 0, Len := 0 }
def onL (c : TCatalog) (v : Int) : List TItem := (c.Chunks.filter fun x => onV v x.Locs).map it1 ++ (c.Snaps.filter fun x => onV v x.Locs).map it2 ++ (c.Exps.filter fun x => onV v x.Locs).map it3

def live (c : TCatalog) (v : Int) : Nat := ((onL c v).filter fun x => x.Kind != 1 || usedB c x.Id).length
end Go.Proofs.Ytoomgangpjcaoaa
