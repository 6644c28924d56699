/-
  For every input, 'StageOrder' returns true and leaves its arguments as they were. Conditions: none.
-/
import Derived.Test.YtbbifdfldpfphaaGreatKAP11
import Derived.Test.YtbbifdfldpfphaaGreatKAP4
import Derived.Test.YtbbifdfldpfphaaGreatRows
set_option linter.unusedSimpArgs false
set_option linter.unusedVariables false
set_option maxHeartbeats 4000000
set_option maxRecDepth 100000
namespace Go.Proofs.YtbbifdfldpfphaaGreat.ROrder
open Go.Vm Go.ChangeShapes Go.WideShapes
theorem lifted (os : Os) (started : os.Started) (H : Type) (enc : TypeId × Value → H) :
    ReturnsInHanded {} Tryz.checked os 5 .any (Rows.stageOrderSpec.pre6 enc Tryz.prog Tryz.f5 Rows.stageOrderRow.domain false) (Rows.stageOrderSpec.post enc Tryz.prog Tryz.f5 false true false false) := by
  refine L4 (C := Tryz.checked) (t := 4) aGU started (by kernel_rfl) Tryz.func5
    (ChangeSpec.witness6 (enc := enc) (C := Tryz.checked) false ⟨#[], #[.slice none 0 0, .slice none 0 0, .int .i64 0, .int .i64 0, .int .i64 0], []⟩ 8 (by kernel_rfl) (by kernel_rfl) (by kernel_rfl) (by kernel_rfl))
    NJ (by rw [show Tryz.f5.params.toList = [22, 23, 3, 3, 3] from rfl]; intro t h; simp only [List.mem_cons, List.not_mem_nil, or_false] at h; rcases h with rfl | rfl | rfl | rfl | rfl; exact aGS; exact aGT; exact rr3; exact rr3; exact rr3) rfl rfl u4 ?_ ?_
  · intro ds h
    match ds, h with
    | [d0, d1, d2, d3, d4], _ => rfl
  · intro W base args ds ps hval hA
    have hA : DataW.TrodAll enc Tryz.prog W 0 (fun _ => true) true [22, 23, 3, 3, 3] args.toList ds ps := hA
    obtain ⟨v0, vs0, d0, ds0, p0, q0, hargs, rfl, rfl, h0, r0⟩ := trodAll_cons hA
    obtain ⟨v1, vs1, d1, ds1, p1, q1, rfl, rfl, rfl, h1, r1⟩ := trodAll_cons r0
    obtain ⟨v2, vs2, d2, ds2, p2, q2, rfl, rfl, rfl, h2, r2⟩ := trodAll_cons r1
    obtain ⟨v3, vs3, d3, ds3, p3, q3, rfl, rfl, rfl, h3, r3⟩ := trodAll_cons r2
    obtain ⟨v4, vs4, d4, ds4, p4, q4, rfl, rfl, rfl, h4, r4⟩ := trodAll_cons r3
    obtain ⟨rfl, rfl, rfl⟩ := trodAll_nil r4
    obtain rfl : args = #[v0, v1, v2, v3, v4] := by cases args; simp_all
    obtain ⟨a0, g0, e0⟩ := Rd.one aGJ u22 (hval 0 22 v0 rfl rfl) h0
    obtain ⟨a1, g1, e1⟩ := Rd.one aJG u23 (hval 1 23 v1 rfl rfl) h1
    obtain ⟨a2, g2, e2⟩ := Rd.int (E := E0 W) (w := W) u3 (hval 2 3 v2 rfl rfl) h2
    obtain ⟨a3, g3, e3⟩ := Rd.int (E := E0 W) (w := W) u3 (hval 3 3 v3 rfl rfl) h3
    obtain ⟨a4, g4, e4⟩ := Rd.int (E := E0 W) (w := W) u3 (hval 4 3 v4 rfl rfl) h4
    exact ⟨_, by simp only [cI]; exact ⟨e0, e1, e2, e3, e4, trivial⟩, (W5 H0 (DN g0 g1)).mono fun r h' q => q.1⟩
theorem over : Rows.stageOrderRow.holds Tryz.pinned (OpenSpec.ofChange Rows.stageOrderSpec) :=
  OpenClaim.holds_of_wide 5 Tryz.f5 rfl rfl rfl rfl rfl rfl rfl ⟨rfl, rfl, rfl, rfl, rfl⟩ rfl rfl rfl rfl rfl (by kernel_rfl) Tryz.func5 (by kernel_rfl)
    (of_decide_eq_true (by kernel_rfl)) (by unfold Func.isWrapper; first | (rw [if_pos (by decide +kernel)]; kernel_rfl) | (rw [if_neg (by decide +kernel)]; exact ⟨rfl, rfl⟩))
    (fun os started H enc _ => lifted os started H enc)
theorem proved : Rows.StageOrderSaid := over
#print axioms proved
end Go.Proofs.YtbbifdfldpfphaaGreat.ROrder
