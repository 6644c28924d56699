/-
  For every input, 'ChangeRound' returns true and leaves its arguments as they were. Conditions: none.
-/
import Derived.Test.YtbbifdfldpfphaaGreatK3P10
import Derived.Test.YtbbifdfldpfphaaGreatK3P4
import Derived.Test.YtbbifdfldpfphaaGreatRows
set_option linter.unusedSimpArgs false
set_option linter.unusedVariables false
set_option maxHeartbeats 4000000
set_option maxRecDepth 100000
namespace Go.Proofs.YtbbifdfldpfphaaGreat.RRound
open Go.Vm Go.ChangeShapes Go.WideShapes
theorem lifted (os : Os) (started : os.Started) (H : Type) (enc : TypeId × Value → H) :
    ReturnsInHanded {} Tryz.checked os 9 .any (Rows.changeRoundSpec.pre6 enc Tryz.prog Tryz.f9 Rows.changeRoundRow.domain false) (Rows.changeRoundSpec.post enc Tryz.prog Tryz.f9 false true false false) := by
  refine FK (C := Tryz.checked) (t := 4) UT started (by kernel_rfl) Tryz.func9
    (ChangeSpec.witness6 (enc := enc) (C := Tryz.checked) false ⟨#[], #[.slice none 0 0, .slice none 0 0, .int .i64 0], []⟩ 8 (by kernel_rfl) (by kernel_rfl) (by kernel_rfl) (by kernel_rfl))
    GW (by rw [show Tryz.f9.params.toList = [22, 23, 3] from rfl]; intro t h; simp only [List.mem_cons, List.not_mem_nil, or_false] at h; rcases h with rfl | rfl | rfl; exact UR; exact US; exact ZB) rfl rfl u4 ?_ ?_
  · intro ds h
    match ds, h with
    | [d0, d1, d2], _ => rfl
  · intro W base args ds ps hval hA
    have hA : DataW.TrodAll enc Tryz.prog W 0 (fun _ => true) true [22, 23, 3] args.toList ds ps := hA
    obtain ⟨v0, vs0, d0, ds0, p0, q0, hargs, rfl, rfl, h0, r0⟩ := trodAll_cons hA
    obtain ⟨v1, vs1, d1, ds1, p1, q1, rfl, rfl, rfl, h1, r1⟩ := trodAll_cons r0
    obtain ⟨v2, vs2, d2, ds2, p2, q2, rfl, rfl, rfl, h2, r2⟩ := trodAll_cons r1
    obtain ⟨rfl, rfl, rfl⟩ := trodAll_nil r2
    obtain rfl : args = #[v0, v1, v2] := by cases args; simp_all
    obtain ⟨a0, g0, e0⟩ := Rd.one UF XO (hval 0 22 v0 rfl rfl) h0
    obtain ⟨a1, g1, e1⟩ := Rd.one UQ XP (hval 1 23 v1 rfl rfl) h1
    obtain ⟨a2, g2, e2⟩ := Rd.int (E := E0 W) (w := W) u3 (hval 2 3 v2 rfl rfl) h2
    exact ⟨_, by simp only [cL]; exact ⟨e0, e1, e2, trivial⟩, (W9 H0 (zH g0 g1 g2)).mono fun r h' q => q.1⟩
theorem over : Rows.changeRoundRow.holds Tryz.pinned (OpenSpec.ofChange Rows.changeRoundSpec) :=
  OpenClaim.holds_of_wide 9 Tryz.f9 rfl rfl rfl rfl rfl rfl rfl ⟨rfl, rfl, rfl, rfl, rfl⟩ rfl rfl rfl rfl rfl (by kernel_rfl) Tryz.func9 (by kernel_rfl)
    (of_decide_eq_true (by kernel_rfl)) (by unfold Func.isWrapper; first | (rw [if_pos (by decide +kernel)]; kernel_rfl) | (rw [if_neg (by decide +kernel)]; exact ⟨rfl, rfl⟩))
    (fun os started H enc _ => lifted os started H enc)
theorem proved : Rows.ChangeRoundSaid := over
#print axioms proved
end Go.Proofs.YtbbifdfldpfphaaGreat.RRound
