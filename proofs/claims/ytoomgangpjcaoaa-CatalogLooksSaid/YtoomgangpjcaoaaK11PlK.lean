/-
  Plain laws: what lies on a volume, what lives there.
-/
import Derived.Test.YtoomgangpjcaoaaK11PlJ
import Derived.Test.YtoomgangpjcaoaaK11Wg
import Derived.Test.YtoomgangpjcaoaaK11Wa
import Derived.Test.YtoomgangpjcaoaaK11Types
import Derived.Test.YtoomgangpjcaoaaK11Wc
set_option linter.unusedSimpArgs false
set_option linter.unusedVariables false
namespace Go.Proofs.Ytoomgangpjcaoaa
open Go.Vm

def onV (v : Int) (l : List TLoc) : Bool := l.any fun y => y.Vol == v
def it1 (x : TChunk) : TItem := { Kind := 1, Id := x.Id, Seq := 0, Of := 0, Off := 0, Len := 0 }
def it2 (x : TSnap) : TItem := { Kind := 2, Id := idZ, Seq := x.Seq, Of := 0, Off := 0, Len := 0 }
def it3 (x : TExp) : TItem := { Kind := 3, Id := idZ, Seq := x.Seq, Of := x.Of, Off := 0, Len := 0 }
def onL (c : TCatalog) (v : Int) : List TItem := (c.Chunks.filter fun x => onV v x.Locs).map it1 ++ (c.Snaps.filter fun x => onV v x.Locs).map it2 ++ (c.Exps.filter fun x => onV v x.Locs).map it3

def live (c : TCatalog) (v : Int) : Nat := ((onL c v).filter fun x => x.Kind != 1 || usedB c x.Id).length
/-- Places of a right catalog are on volumes. -/
theorem locs_in {c : TCatalog} {l : List TLoc} (h : locsB c l = true) : ∀ x ∈ l, 0 ≤ x.Vol ∧ x.Vol.toNat < c.Vols.length := by
  intro x hx
  obtain ⟨i, hi, rfl⟩ := List.getElem_of_mem hx
  unfold locsB at h
  simp only [Bool.and_eq_true, Bool.not_eq_true', List.any_eq_false, List.mem_range] at h
  have this : locB c l i = true := by simpa using h.2 i hi
  unfold locB at this
  rw [List.getElem?_eq_getElem hi] at this
  simp only [Bool.and_eq_true, inR, decide_eq_true_eq] at this
  obtain ⟨⟨⟨⟨⟨k1, k2⟩, -⟩, -⟩, -⟩, -⟩ := this
  omega
end Go.Proofs.Ytoomgangpjcaoaa
