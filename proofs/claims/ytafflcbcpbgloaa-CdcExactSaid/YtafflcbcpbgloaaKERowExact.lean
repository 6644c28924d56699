/-
  For every input, 'CdcExact' returns true and leaves its arguments as they were. Conditions: none.
-/
import Derived.Test.YtafflcbcpbgloaaKEP3
import Derived.Test.YtafflcbcpbgloaaRows
set_option linter.unusedSimpArgs false
set_option linter.unusedVariables false
namespace Go.Proofs.Ytafflcbcpbgloaa.RExact
open Go.Vm Go.ChangeShapes Go.WideShapes
set_option maxRecDepth 100000 in
theorem lifted (os : Os) (started : os.Started) (H : Type) (enc : TypeId × Value → H) :
    ReturnsInHanded {} Try.checked os 3 .any (Rows.cdcExactSpec.pre6 enc Try.prog Try.f3 Rows.cdcExactRow.domain false) (Rows.cdcExactSpec.post enc Try.prog Try.f3 false true false false) := by
  refine law_lift (C := Try.checked) (t := 4) own0 started (by kernel_rfl) Try.func3
    (ChangeSpec.witness6 (enc := enc) (C := Try.checked) false ⟨#[], #[.slice none 0 0], []⟩ 8 (by kernel_rfl) (by kernel_rfl) (by kernel_rfl) (by kernel_rfl))
    laidOut0 (by rw [show Try.f3.params.toList = [22] from rfl]; intro t h; simp only [List.mem_cons, List.not_mem_nil, or_false] at h; rcases h with rfl; exact rr22) rfl rfl u4 ?_ ?_
  · intro ds h
    match ds, h with
    | [d0], _ => rfl
  · intro W base args ds ps hval hA
    have hA : DataW.TrodAll enc Try.prog W 0 (fun _ => true) true [22] args.toList ds ps := hA
    obtain ⟨v0, vs0, d0, ds0, p0, q0, hargs, rfl, rfl, h0, r0⟩ := trodAll_cons hA
    obtain ⟨rfl, rfl, rfl⟩ := trodAll_nil r0
    obtain rfl : args = #[v0] := by cases args; simp_all
    obtain ⟨a0, g0, e0⟩ := Rd.one rd22 u22 (hval 0 22 v0 rfl rfl) h0
    exact ⟨_, by simp only [VRL]; exact ⟨e0, trivial⟩, (W3 H0 (cdc_exact3 g0)).mono fun r h' q => q.1⟩
theorem over : Rows.cdcExactRow.holds Try.pinned (OpenSpec.ofChange Rows.cdcExactSpec) :=
  OpenClaim.holds_of_wide 3 Try.f3 rfl rfl rfl rfl rfl rfl rfl ⟨rfl, rfl, rfl, rfl, rfl⟩ rfl rfl rfl rfl rfl (by kernel_rfl) Try.func3 (by kernel_rfl)
    (of_decide_eq_true (by kernel_rfl)) (by unfold Func.isWrapper; first | (rw [if_pos (by decide +kernel)]; kernel_rfl) | (rw [if_neg (by decide +kernel)]; exact ⟨rfl, rfl⟩))
    (fun os started H enc _ => lifted os started H enc)
theorem proved : Rows.CdcExactSaid := over
#print axioms proved
end Go.Proofs.Ytafflcbcpbgloaa.RExact
