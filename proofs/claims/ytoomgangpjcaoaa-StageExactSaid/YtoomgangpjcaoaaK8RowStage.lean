/-
  For every input, 'StageExact' returns true and leaves its arguments as they were. Conditions: none.
-/
import Derived.Test.YtoomgangpjcaoaaK8P6
import Derived.Test.YtoomgangpjcaoaaK8P4
import Derived.Test.YtoomgangpjcaoaaRows
set_option linter.unusedSimpArgs false
set_option linter.unusedVariables false
namespace Go.Proofs.Ytoomgangpjcaoaa.RStage
open Go.Vm Go.ChangeShapes Go.WideShapes
set_option maxRecDepth 100000 in
theorem lifted (os : Os) (started : os.Started) (H : Type) (enc : TypeId × Value → H) :
    ReturnsInHanded {} Try.checked os 9 .any (Rows.stageExactSpec.pre6 enc Try.prog Try.f9 Rows.stageExactRow.domain false) (Rows.stageExactSpec.post enc Try.prog Try.f9 false true false false) := by
  refine law_lift (C := Try.checked) (t := 4) own0 started (by kernel_rfl) Try.func9
    (ChangeSpec.witness6 (enc := enc) (C := Try.checked) false ⟨#[], #[.agg #[.int .i64 0, .slice none 0 0, .slice none 0 0, .slice none 0 0, .slice none 0 0], .int .i64 0, .int .i64 0], []⟩ 8 (by kernel_rfl) (by kernel_rfl) (by kernel_rfl) (by kernel_rfl))
    laidOut0 (by rw [show Try.f9.params.toList = [27, 3, 3] from rfl]; intro t h; simp only [List.mem_cons, List.not_mem_nil, or_false] at h; rcases h with rfl | rfl | rfl; exact rr27; exact rr3; exact rr3) rfl rfl u4 ?_ ?_
  · intro ds h
    match ds, h with
    | [d0, d1, d2], _ => rfl
  · intro W base args ds ps hval hA
    have hA : DataW.TrodAll enc Try.prog W 0 (fun _ => true) true [27, 3, 3] args.toList ds ps := hA
    obtain ⟨v0, vs0, d0, ds0, p0, q0, hargs, rfl, rfl, h0, r0⟩ := trodAll_cons hA
    obtain ⟨v1, vs1, d1, ds1, p1, q1, rfl, rfl, rfl, h1, r1⟩ := trodAll_cons r0
    obtain ⟨v2, vs2, d2, ds2, p2, q2, rfl, rfl, rfl, h2, r2⟩ := trodAll_cons r1
    obtain ⟨rfl, rfl, rfl⟩ := trodAll_nil r2
    obtain rfl : args = #[v0, v1, v2] := by cases args; simp_all
    obtain ⟨a0, g0, e0⟩ := Rd.agg' rd27 (hval 0 27 v0 rfl rfl) h0 sn27
    obtain ⟨a1, g1, e1⟩ := Rd.int (E := E0 W) (w := W) u3 (hval 1 3 v1 rfl rfl) h1
    obtain ⟨a2, g2, e2⟩ := Rd.int (E := E0 W) (w := W) u3 (hval 2 3 v2 rfl rfl) h2
    exact ⟨_, by simp only [VRL]; exact ⟨e0, e1, e2, trivial⟩, (W9 H0 (stage_exact3 g0 g1 g2)).mono fun r h' q => q.1⟩
theorem over : Rows.stageExactRow.holds Try.pinned (OpenSpec.ofChange Rows.stageExactSpec) :=
  OpenClaim.holds_of_wide 9 Try.f9 rfl rfl rfl rfl rfl rfl rfl ⟨rfl, rfl, rfl, rfl, rfl⟩ rfl rfl rfl rfl rfl (by kernel_rfl) Try.func9 (by kernel_rfl)
    (of_decide_eq_true (by kernel_rfl)) (by unfold Func.isWrapper; first | (rw [if_pos (by decide +kernel)]; kernel_rfl) | (rw [if_neg (by decide +kernel)]; exact ⟨rfl, rfl⟩))
    (fun os started H enc _ => lifted os started H enc)
theorem proved : Rows.StageExactSaid := over
#print axioms proved
end Go.Proofs.Ytoomgangpjcaoaa.RStage
