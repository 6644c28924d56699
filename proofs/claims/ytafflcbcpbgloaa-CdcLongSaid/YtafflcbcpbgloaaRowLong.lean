/-
  For every input, 'CdcLong' returns true and leaves its arguments as they were. Conditions: none.
-/
import Derived.Test.YtafflcbcpbgloaaLawLong
import Derived.Test.YtafflcbcpbgloaaRowBase
namespace Go.Proofs.Ytafflcbcpbgloaa.RLong
open Go.Vm Go.ChangeShapes Go.WideShapes
set_option maxRecDepth 100000 in
theorem lifted (os : Os) (started : os.Started) (H : Type) (enc : TypeId × Value → H) :
    ReturnsInHanded {} Try.checked os 6 .any (Rows.cdcLongSpec.pre6 enc Try.prog Try.f6 Rows.cdcLongRow.domain false) (Rows.cdcLongSpec.post enc Try.prog Try.f6 false true false false) := by
  refine law_lift (C := Try.checked) (t := 4) Try.own0 started (by kernel_rfl) Try.func6
    (ChangeSpec.witness6 (enc := enc) (C := Try.checked) false ⟨#[], #[.int .i64 0, .int .u8 0], []⟩ 8 (by kernel_rfl) (by kernel_rfl) (by kernel_rfl) (by kernel_rfl))
    Try.laidOut0 (by rw [show Try.f6.params.toList = [3, 5] from rfl]; intro t h; simp only [List.mem_cons, List.not_mem_nil, or_false] at h; rcases h with rfl | rfl; exact Try.rr3; exact Try.rr5) rfl rfl Try.u4 ?_ ?_
  · intro ds h
    match ds, h with
    | [d0, d1], _ => rfl
  · intro W base args ds ps hval hA
    have hA : DataW.TrodAll enc Try.prog W 0 (fun _ => true) true [3, 5] args.toList ds ps := hA
    obtain ⟨v0, vs0, d0, ds0, p0, q0, hargs, rfl, rfl, h0, r0⟩ := trodAll_cons hA
    obtain ⟨v1, vs1, d1, ds1, p1, q1, rfl, rfl, rfl, h1, r1⟩ := trodAll_cons r0
    obtain ⟨rfl, rfl, rfl⟩ := trodAll_nil r1
    obtain rfl : args = #[v0, v1] := by cases args; simp_all
    obtain ⟨n0, e0, m0⟩ := VR_number (E := E0 W) Try.u3 (hval 0 3 v0 rfl rfl) h0
    obtain ⟨n1, e1, m1⟩ := VR_number (E := E0 W) Try.u5 (hval 1 5 v1 rfl rfl) h1
    exact ⟨[.sc (.int .i64 n0), .sc (.int .u8 n1)], by simp only [VRL]; exact ⟨e0, e1, trivial⟩, lawLong n0 n1 H0 m0 m1⟩

theorem over : Rows.cdcLongRow.holds Try.pinned (OpenSpec.ofChange Rows.cdcLongSpec) :=
  OpenClaim.holds_of_wide 6 Try.f6 rfl rfl rfl rfl rfl rfl rfl ⟨rfl, rfl, rfl, rfl, rfl⟩ rfl rfl rfl rfl rfl (by kernel_rfl) Try.func6 (by kernel_rfl)
    (of_decide_eq_true (by kernel_rfl)) (by unfold Func.isWrapper; first | (rw [if_pos (by decide +kernel)]; kernel_rfl) | (rw [if_neg (by decide +kernel)]; exact ⟨rfl, rfl⟩))
    (fun os started H enc _ => lifted os started H enc)

theorem proved : Rows.CdcLongSaid := over
#print axioms proved
end Go.Proofs.Ytafflcbcpbgloaa.RLong
