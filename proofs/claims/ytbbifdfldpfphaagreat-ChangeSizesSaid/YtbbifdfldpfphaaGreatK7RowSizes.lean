/-
  For every input, 'ChangeSizes' returns true and leaves its arguments as they were. Conditions: none.
-/
import Derived.Test.YtbbifdfldpfphaaGreatK7P5
import Derived.Test.YtbbifdfldpfphaaGreatK7P3
import Derived.Test.YtbbifdfldpfphaaGreatRows
set_option linter.unusedSimpArgs false
set_option linter.unusedVariables false
set_option maxHeartbeats 4000000
set_option maxRecDepth 100000
namespace Go.Proofs.YtbbifdfldpfphaaGreat.RSizes
open Go.Vm Go.ChangeShapes Go.WideShapes
theorem lifted (os : Os) (started : os.Started) (H : Type) (enc : TypeId × Value → H) :
    ReturnsInHanded {} Tryz.checked os 10 .any (Rows.changeSizesSpec.pre6 enc Tryz.prog Tryz.f10 Rows.changeSizesRow.domain false) (Rows.changeSizesSpec.post enc Tryz.prog Tryz.f10 false true false false) := by
  refine wT (C := Tryz.checked) (t := 4) MD started (by kernel_rfl) Tryz.func10
    (ChangeSpec.witness6 (enc := enc) (C := Tryz.checked) false ⟨#[], #[.agg #[.int .i64 0, .int .i64 0, .string ByteArray.empty, .slice none 0 0, .slice none 0 0, .slice none 0 0, .int .i64 0, .int .i64 0, .slice none 0 0]], []⟩ 8 (by kernel_rfl) (by kernel_rfl) (by kernel_rfl) (by kernel_rfl))
    yG (by rw [show Tryz.f10.params.toList = [62] from rfl]; intro t h; simp only [List.mem_cons, List.not_mem_nil, or_false] at h; rcases h with rfl; exact MC) rfl rfl u4 ?_ ?_
  · intro ds h
    match ds, h with
    | [d0], _ => rfl
  · intro W base args ds ps hval hA
    have hA : DataW.TrodAll enc Tryz.prog W 0 (fun _ => true) true [62] args.toList ds ps := hA
    obtain ⟨v0, vs0, d0, ds0, p0, q0, hargs, rfl, rfl, h0, r0⟩ := trodAll_cons hA
    obtain ⟨rfl, rfl, rfl⟩ := trodAll_nil r0
    obtain rfl : args = #[v0] := by cases args; simp_all
    obtain ⟨a0, g0, e0⟩ := Rd.agg' MB (hval 0 62 v0 rfl rfl) h0 HO
    exact ⟨_, by simp only [bE]; exact ⟨e0, trivial⟩, (QT H0 (qW g0)).mono fun r h' q => q.1⟩
theorem over : Rows.changeSizesRow.holds Tryz.pinned (OpenSpec.ofChange Rows.changeSizesSpec) :=
  OpenClaim.holds_of_wide 10 Tryz.f10 rfl rfl rfl rfl rfl rfl rfl ⟨rfl, rfl, rfl, rfl, rfl⟩ rfl rfl rfl rfl rfl (by kernel_rfl) Tryz.func10 (by kernel_rfl)
    (of_decide_eq_true (by kernel_rfl)) (by unfold Func.isWrapper; first | (rw [if_pos (by decide +kernel)]; kernel_rfl) | (rw [if_neg (by decide +kernel)]; exact ⟨rfl, rfl⟩))
    (fun os started H enc _ => lifted os started H enc)
theorem proved : Rows.ChangeSizesSaid := over
#print axioms proved
end Go.Proofs.YtbbifdfldpfphaaGreat.RSizes
