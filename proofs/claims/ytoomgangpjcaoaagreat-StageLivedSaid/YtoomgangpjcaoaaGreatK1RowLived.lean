/-
  For every input, 'StageLived' returns true and leaves its arguments as they were. Conditions: none.
-/
import Derived.Test.YtoomgangpjcaoaaGreatK1P9
import Derived.Test.YtoomgangpjcaoaaGreatK1P4
import Derived.Test.YtoomgangpjcaoaaGreatRows
set_option linter.unusedSimpArgs false
set_option linter.unusedVariables false
namespace Go.Proofs.YtoomgangpjcaoaaGreat.RLived
open Go.Vm Go.ChangeShapes Go.WideShapes
set_option maxRecDepth 100000 in
theorem lifted (os : Os) (started : os.Started) (H : Type) (enc : TypeId × Value → H) :
    ReturnsInHanded {} Tryz.checked os 3 .any (Rows.stageLivedSpec.pre6 enc Tryz.prog Tryz.f3 Rows.stageLivedRow.domain false) (Rows.stageLivedSpec.post enc Tryz.prog Tryz.f3 false true false false) := by
  refine law_lift (C := Tryz.checked) (t := 4) own0 started (by kernel_rfl) Tryz.func3
    (ChangeSpec.witness6 (enc := enc) (C := Tryz.checked) false ⟨#[], #[.slice none 0 0, .slice none 0 0], []⟩ 8 (by kernel_rfl) (by kernel_rfl) (by kernel_rfl) (by kernel_rfl))
    laidOut0 (by rw [show Tryz.f3.params.toList = [22, 23] from rfl]; intro t h; simp only [List.mem_cons, List.not_mem_nil, or_false] at h; rcases h with rfl | rfl; exact rr22; exact rr23) rfl rfl u4 ?_ ?_
  · intro ds h
    match ds, h with
    | [d0, d1], _ => rfl
  · intro W base args ds ps hval hA
    have hA : DataW.TrodAll enc Tryz.prog W 0 (fun _ => true) true [22, 23] args.toList ds ps := hA
    obtain ⟨v0, vs0, d0, ds0, p0, q0, hargs, rfl, rfl, h0, r0⟩ := trodAll_cons hA
    obtain ⟨v1, vs1, d1, ds1, p1, q1, rfl, rfl, rfl, h1, r1⟩ := trodAll_cons r0
    obtain ⟨rfl, rfl, rfl⟩ := trodAll_nil r1
    obtain rfl : args = #[v0, v1] := by cases args; simp_all
    obtain ⟨a0, g0, e0⟩ := Rd.one rd22 u22 (hval 0 22 v0 rfl rfl) h0
    obtain ⟨a1, g1, e1⟩ := Rd.one rd23 u23 (hval 1 23 v1 rfl rfl) h1
    exact ⟨_, by simp only [VRL]; exact ⟨e0, e1, trivial⟩, (W3 H0 (stage_lived2 g0 g1)).mono fun r h' q => q.1⟩
theorem over : Rows.stageLivedRow.holds Tryz.pinned (OpenSpec.ofChange Rows.stageLivedSpec) :=
  OpenClaim.holds_of_wide 3 Tryz.f3 rfl rfl rfl rfl rfl rfl rfl ⟨rfl, rfl, rfl, rfl, rfl⟩ rfl rfl rfl rfl rfl (by kernel_rfl) Tryz.func3 (by kernel_rfl)
    (of_decide_eq_true (by kernel_rfl)) (by unfold Func.isWrapper; first | (rw [if_pos (by decide +kernel)]; kernel_rfl) | (rw [if_neg (by decide +kernel)]; exact ⟨rfl, rfl⟩))
    (fun os started H enc _ => lifted os started H enc)
theorem proved : Rows.StageLivedSaid := over
#print axioms proved
end Go.Proofs.YtoomgangpjcaoaaGreat.RLived
