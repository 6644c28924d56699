/-
  Plain laws: what lies on a volume, what lives there.
-/
import Derived.Test.YtoomgangpjcaoaaK7PlJ
import Derived.Test.YtoomgangpjcaoaaK7Wg
import Derived.Test.YtoomgangpjcaoaaK7Wa
import Derived.Test.YtoomgangpjcaoaaK7Types
import Derived.Test.YtoomgangpjcaoaaK7Wc
set_option linter.unusedSimpArgs false
set_option linter.unusedVariables false
namespace Go.Proofs.Ytoomgangpjcaoaa
open Go.Vm

def onV (v : Int) (l : List TLoc) : Bool := l.any fun y => y.Vol == v
def it1 (x : TChunk) : TItem := { Kind := 1, Id := x.Id, Seq := 0, Of := 0, Off := 0, Len := 0 }
def it2 (x : TSnap) : TItem := { Kind := 2, Id := idZ, Seq := x.Seq, Of := 0, Off := 0, Len := 0 }
def it3 (x : TExp) : TItem := { Kind := 3, Id := idZ, Seq := x.Seq, Of := x.Of, Off := 0, Len := 0 }
def onL (c : TCatalog) (v : Int) : List TItem := (c.Chunks.filter fun x => onV v x.Locs).map it1 ++ (c.Snaps.filter fun x => onV v x.Locs).map it2 ++ (c.Exps.filter fun x => onV v x.Locs).map it3

def live (c : TCatalog) (v : Int) : Nat := ((onL c v).filter fun x => x.Kind != 1 || usedB c x.Id).length
theorem good_locs {c : TCatalog} (hg : good c = true) : (∀ x ∈ c.Chunks, locsB c x.Locs = true) ∧ (∀ x ∈ c.Snaps, locsB c x.Locs = true) ∧ (∀ x ∈ c.Exps, locsB c x.Locs = true) := by
  unfold good chsB snsB exsB at hg
  simp only [Bool.and_eq_true, Bool.not_eq_true', List.any_eq_false, List.mem_range] at hg
  obtain ⟨⟨⟨⟨-, -⟩, h1, -⟩, h2, -⟩, h3, -⟩ := hg
  refine ⟨fun x hx => ?_, fun x hx => ?_, fun x hx => ?_⟩
  · obtain ⟨i, hi, rfl⟩ := List.getElem_of_mem hx
    have this : chB c i = true := by simpa using h1 i hi
    unfold chB at this
    rw [List.getElem?_eq_getElem hi] at this
    simp only [Bool.and_eq_true] at this
    exact this.1.2
  · obtain ⟨i, hi, rfl⟩ := List.getElem_of_mem hx
    have this : snB c i = true ∧ snC c i = true := by simpa using h2 i hi
    replace this := this.1
    unfold snB at this
    rw [List.getElem?_eq_getElem hi] at this
    simp only [Bool.and_eq_true] at this
    exact this.2
  · obtain ⟨i, hi, rfl⟩ := List.getElem_of_mem hx
    have this : exA c i = true ∧ exC c i = true := by simpa using h3 i hi
    replace this := this.1
    unfold exA at this
    rw [List.getElem?_eq_getElem hi] at this
    simp only [Bool.and_eq_true] at this
    exact this.2
end Go.Proofs.Ytoomgangpjcaoaa
