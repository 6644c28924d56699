/-
  Plain laws: where a thing stands in a row; CatalogNew, CatalogLooks.
-/
import Derived.Test.YtoomgangpjcaoaaK7PlL
import Derived.Test.YtoomgangpjcaoaaK7Wj
namespace Go.Proofs.Ytoomgangpjcaoaa
open Go.Vm

/-! ### CatalogNew -/
theorem m31 : M31 1000 = some true := by decide +kernel
/-! ### CatalogLooks -/
theorem snB_at {c : TCatalog} (hg : good c = true) {i : Nat} {s : TSnap} (hs : c.Snaps[i]? = some s) : snB c i = true ∧ plB c s.Man = true := by
  unfold good snsB at hg
  simp only [Bool.and_eq_true, Bool.not_eq_true', List.any_eq_false, List.mem_range] at hg
  obtain ⟨⟨⟨⟨-, -⟩, -, -⟩, h2, -⟩, -, -⟩ := hg
  have h := h2 i (List.getElem?_eq_some_iff.1 hs).1
  have h : snB c i = true ∧ snC c i = true := by simpa using h
  refine ⟨h.1, ?_⟩
  have := h.2
  unfold snC at this
  rw [hs] at this
  exact this
theorem chB_at {c : TCatalog} (hg : good c = true) {i : Nat} {x : TChunk} (hs : c.Chunks[i]? = some x) : chB c i = true := by
  unfold good chsB at hg
  simp only [Bool.and_eq_true, Bool.not_eq_true', List.any_eq_false, List.mem_range] at hg
  obtain ⟨⟨⟨⟨-, -⟩, h1, -⟩, -, -⟩, -, -⟩ := hg
  have h := h1 i (List.getElem?_eq_some_iff.1 hs).1
  simpa using h
theorem good_vols {c : TCatalog} (hg : good c = true) : c.Vols.all volB = true := by
  unfold good at hg
  simp only [Bool.and_eq_true] at hg
  exact hg.1.1.1.2.1
end Go.Proofs.Ytoomgangpjcaoaa
