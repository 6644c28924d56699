/-
  For every input, 'ChangeKeeps' returns true and leaves its arguments as they were. Conditions: none.
-/
import Derived.Test.YtbbifdfldpfphaaGreatK2P11
import Derived.Test.YtbbifdfldpfphaaGreatK2P4
import Derived.Test.YtbbifdfldpfphaaGreatRows
set_option linter.unusedSimpArgs false
set_option linter.unusedVariables false
set_option maxHeartbeats 4000000
set_option maxRecDepth 100000
namespace Go.Proofs.YtbbifdfldpfphaaGreat.RKeeps
open Go.Vm Go.ChangeShapes Go.WideShapes
theorem lifted (os : Os) (started : os.Started) (H : Type) (enc : TypeId × Value → H) :
    ReturnsInHanded {} Tryz.checked os 13 .any (Rows.changeKeepsSpec.pre6 enc Tryz.prog Tryz.f13 Rows.changeKeepsRow.domain false) (Rows.changeKeepsSpec.post enc Tryz.prog Tryz.f13 false true false false) := by
  refine LA (C := Tryz.checked) (t := 4) aED started (by kernel_rfl) Tryz.func13
    (ChangeSpec.witness6 (enc := enc) (C := Tryz.checked) false ⟨#[], #[.slice none 0 0, .slice none 0 0, .agg #[.int .i64 0, .int .i64 0, .int .i64 0, .slice none 0 0, .slice none 0 0]], []⟩ 8 (by kernel_rfl) (by kernel_rfl) (by kernel_rfl) (by kernel_rfl))
    MC (by rw [show Tryz.f13.params.toList = [22, 23, 67] from rfl]; intro t h; simp only [List.mem_cons, List.not_mem_nil, or_false] at h; rcases h with rfl | rfl | rfl; exact aEA; exact aEB; exact aEC) rfl rfl u4 ?_ ?_
  · intro ds h
    match ds, h with
    | [d0, d1, d2], _ => rfl
  · intro W base args ds ps hval hA
    have hA : DataW.TrodAll enc Tryz.prog W 0 (fun _ => true) true [22, 23, 67] args.toList ds ps := hA
    obtain ⟨v0, vs0, d0, ds0, p0, q0, hargs, rfl, rfl, h0, r0⟩ := trodAll_cons hA
    obtain ⟨v1, vs1, d1, ds1, p1, q1, rfl, rfl, rfl, h1, r1⟩ := trodAll_cons r0
    obtain ⟨v2, vs2, d2, ds2, p2, q2, rfl, rfl, rfl, h2, r2⟩ := trodAll_cons r1
    obtain ⟨rfl, rfl, rfl⟩ := trodAll_nil r2
    obtain rfl : args = #[v0, v1, v2] := by cases args; simp_all
    obtain ⟨a0, g0, e0⟩ := Rd.one aD0 u22 (hval 0 22 v0 rfl rfl) h0
    obtain ⟨a1, g1, e1⟩ := Rd.one aD9 u23 (hval 1 23 v1 rfl rfl) h1
    obtain ⟨a2, g2, e2⟩ := Rd.agg' YJ (hval 2 67 v2 rfl rfl) h2 YI
    exact ⟨_, by simp only [cW]; exact ⟨e0, e1, e2, trivial⟩, (W13 H0 (DD g0 g1 g2)).mono fun r h' q => q.1⟩
theorem over : Rows.changeKeepsRow.holds Tryz.pinned (OpenSpec.ofChange Rows.changeKeepsSpec) :=
  OpenClaim.holds_of_wide 13 Tryz.f13 rfl rfl rfl rfl rfl rfl rfl ⟨rfl, rfl, rfl, rfl, rfl⟩ rfl rfl rfl rfl rfl (by kernel_rfl) Tryz.func13 (by kernel_rfl)
    (of_decide_eq_true (by kernel_rfl)) (by unfold Func.isWrapper; first | (rw [if_pos (by decide +kernel)]; kernel_rfl) | (rw [if_neg (by decide +kernel)]; exact ⟨rfl, rfl⟩))
    (fun os started H enc _ => lifted os started H enc)
theorem proved : Rows.ChangeKeepsSaid := over
#print axioms proved
end Go.Proofs.YtbbifdfldpfphaaGreat.RKeeps
