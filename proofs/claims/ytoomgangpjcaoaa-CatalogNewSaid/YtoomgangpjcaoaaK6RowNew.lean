/-
  For every input, 'CatalogNew' returns true and leaves its arguments as they were. Conditions: none.
-/
import Derived.Test.YtoomgangpjcaoaaK6PlM
import Derived.Test.YtoomgangpjcaoaaK6Reads
import Derived.Test.YtoomgangpjcaoaaRows
namespace Go.Proofs.Ytoomgangpjcaoaa.RNew
open Go.Vm Go.ChangeShapes Go.WideShapes
set_option maxRecDepth 100000 in
theorem lifted (os : Os) (started : os.Started) (H : Type) (enc : TypeId × Value → H) :
    ReturnsInHanded {} Try.checked os 6 .any (Rows.catalogNewSpec.pre6 enc Try.prog Try.f6 Rows.catalogNewRow.domain false) (Rows.catalogNewSpec.post enc Try.prog Try.f6 false true false false) := by
  refine law_lift (C := Try.checked) (t := 4) own0 started (by kernel_rfl) Try.func6
    (ChangeSpec.witness6 (enc := enc) (C := Try.checked) false ⟨#[], #[.slice none 0 0], []⟩ 8 (by kernel_rfl) (by kernel_rfl) (by kernel_rfl) (by kernel_rfl))
    laidOut0 (by rw [show Try.f6.params.toList = [28] from rfl]; intro t h; simp only [List.mem_cons, List.not_mem_nil, or_false] at h; rcases h with rfl; exact rr28) rfl rfl u4 ?_ ?_
  · intro ds h
    match ds, h with
    | [d0], _ => rfl
  · intro W base args ds ps hval hA
    have hA : DataW.TrodAll enc Try.prog W 0 (fun _ => true) true [28] args.toList ds ps := hA
    obtain ⟨v0, vs0, d0, ds0, p0, q0, hargs, rfl, rfl, h0, r0⟩ := trodAll_cons hA
    obtain ⟨rfl, rfl, rfl⟩ := trodAll_nil r0
    obtain rfl : args = #[v0] := by cases args; simp_all
    obtain ⟨a0, g0, e0⟩ := Rd.one rd28 u28 (hval 0 28 v0 rfl rfl) h0
    exact ⟨_, by simp only [VRL]; exact ⟨e0, trivial⟩, (W6 H0 (catalog_new1 g0)).mono fun r h' q => q.1⟩

theorem over : Rows.catalogNewRow.holds Try.pinned (OpenSpec.ofChange Rows.catalogNewSpec) :=
  OpenClaim.holds_of_wide 6 Try.f6 rfl rfl rfl rfl rfl rfl rfl ⟨rfl, rfl, rfl, rfl, rfl⟩ rfl rfl rfl rfl rfl (by kernel_rfl) Try.func6 (by kernel_rfl)
    (of_decide_eq_true (by kernel_rfl)) (by unfold Func.isWrapper; first | (rw [if_pos (by decide +kernel)]; kernel_rfl) | (rw [if_neg (by decide +kernel)]; exact ⟨rfl, rfl⟩))
    (fun os started H enc _ => lifted os started H enc)

theorem proved : Rows.CatalogNewSaid := over
#print axioms proved
end Go.Proofs.Ytoomgangpjcaoaa.RNew
