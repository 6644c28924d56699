/-
  For every input, 'StageCopies' returns true and leaves its arguments as they were. Conditions: none.
-/
import Derived.Test.YtbbifdfldpfphaaGreatK8P11
import Derived.Test.YtbbifdfldpfphaaGreatK8P4
import Derived.Test.YtbbifdfldpfphaaGreatRows
set_option linter.unusedSimpArgs false
set_option linter.unusedVariables false
set_option maxHeartbeats 4000000
set_option maxRecDepth 100000
namespace Go.Proofs.YtbbifdfldpfphaaGreat.RCopies
open Go.Vm Go.ChangeShapes Go.WideShapes
theorem lifted (os : Os) (started : os.Started) (H : Type) (enc : TypeId × Value → H) :
    ReturnsInHanded {} Tryz.checked os 4 .any (Rows.stageCopiesSpec.pre6 enc Tryz.prog Tryz.f4 Rows.stageCopiesRow.domain false) (Rows.stageCopiesSpec.post enc Tryz.prog Tryz.f4 false true false false) := by
  refine LK (C := Tryz.checked) (t := 4) aGG started (by kernel_rfl) Tryz.func4
    (ChangeSpec.witness6 (enc := enc) (C := Tryz.checked) false ⟨#[], #[.slice none 0 0, .slice none 0 0], []⟩ 8 (by kernel_rfl) (by kernel_rfl) (by kernel_rfl) (by kernel_rfl))
    M0 (by rw [show Tryz.f4.params.toList = [22, 23] from rfl]; intro t h; simp only [List.mem_cons, List.not_mem_nil, or_false] at h; rcases h with rfl | rfl; exact aGE; exact aGF) rfl rfl u4 ?_ ?_
  · intro ds h
    match ds, h with
    | [d0, d1], _ => rfl
  · intro W base args ds ps hval hA
    have hA : DataW.TrodAll enc Tryz.prog W 0 (fun _ => true) true [22, 23] args.toList ds ps := hA
    obtain ⟨v0, vs0, d0, ds0, p0, q0, hargs, rfl, rfl, h0, r0⟩ := trodAll_cons hA
    obtain ⟨v1, vs1, d1, ds1, p1, q1, rfl, rfl, rfl, h1, r1⟩ := trodAll_cons r0
    obtain ⟨rfl, rfl, rfl⟩ := trodAll_nil r1
    obtain rfl : args = #[v0, v1] := by cases args; simp_all
    obtain ⟨a0, g0, e0⟩ := Rd.one aF2 u22 (hval 0 22 v0 rfl rfl) h0
    obtain ⟨a1, g1, e1⟩ := Rd.one aGD u23 (hval 1 23 v1 rfl rfl) h1
    exact ⟨_, by simp only [cI]; exact ⟨e0, e1, trivial⟩, (W4 H0 (DG g0 g1)).mono fun r h' q => q.1⟩
theorem over : Rows.stageCopiesRow.holds Tryz.pinned (OpenSpec.ofChange Rows.stageCopiesSpec) :=
  OpenClaim.holds_of_wide 4 Tryz.f4 rfl rfl rfl rfl rfl rfl rfl ⟨rfl, rfl, rfl, rfl, rfl⟩ rfl rfl rfl rfl rfl (by kernel_rfl) Tryz.func4 (by kernel_rfl)
    (of_decide_eq_true (by kernel_rfl)) (by unfold Func.isWrapper; first | (rw [if_pos (by decide +kernel)]; kernel_rfl) | (rw [if_neg (by decide +kernel)]; exact ⟨rfl, rfl⟩))
    (fun os started H enc _ => lifted os started H enc)
theorem proved : Rows.StageCopiesSaid := over
#print axioms proved
end Go.Proofs.YtbbifdfldpfphaaGreat.RCopies
