/-
  For every input, 'CdcSame' returns true and leaves its arguments as they were. Conditions: none.
-/
import Derived.Test.YtafflcbcpbgloaaLawSame
import Derived.Test.YtafflcbcpbgloaaRowBase
namespace Go.Proofs.Ytafflcbcpbgloaa.RSame
open Go.Vm Go.ChangeShapes Go.WideShapes
set_option maxRecDepth 100000 in
theorem lifted (os : Os) (started : os.Started) (H : Type) (enc : TypeId × Value → H) :
    ReturnsInHanded {} Try.checked os 9 .any (Rows.cdcSameSpec.pre6 enc Try.prog Try.f9 Rows.cdcSameRow.domain false) (Rows.cdcSameSpec.post enc Try.prog Try.f9 false true false false) := by
  refine law_lift (C := Try.checked) (t := 4) Try.own0 started (by kernel_rfl) Try.func9
    (ChangeSpec.witness6 (enc := enc) (C := Try.checked) false ⟨#[], #[.int .u8 0, .int .i64 0], []⟩ 8 (by kernel_rfl) (by kernel_rfl) (by kernel_rfl) (by kernel_rfl))
    Try.laidOut0 (by rw [show Try.f9.params.toList = [5, 3] from rfl]; intro t h; simp only [List.mem_cons, List.not_mem_nil, or_false] at h; rcases h with rfl | rfl; exact Try.rr5; exact Try.rr3) rfl rfl Try.u4 ?_ ?_
  · intro ds h
    match ds, h with
    | [d0, d1], _ => rfl
  · intro W base args ds ps hval hA
    have hA : DataW.TrodAll enc Try.prog W 0 (fun _ => true) true [5, 3] args.toList ds ps := hA
    obtain ⟨v0, vs0, d0, ds0, p0, q0, hargs, rfl, rfl, h0, r0⟩ := trodAll_cons hA
    obtain ⟨v1, vs1, d1, ds1, p1, q1, rfl, rfl, rfl, h1, r1⟩ := trodAll_cons r0
    obtain ⟨rfl, rfl, rfl⟩ := trodAll_nil r1
    obtain rfl : args = #[v0, v1] := by cases args; simp_all
    obtain ⟨n0, e0, m0⟩ := VR_number (E := E0 W) Try.u5 (hval 0 5 v0 rfl rfl) h0
    obtain ⟨n1, e1, m1⟩ := VR_number (E := E0 W) Try.u3 (hval 1 3 v1 rfl rfl) h1
    exact ⟨[.sc (.int .u8 n0), .sc (.int .i64 n1)], by simp only [VRL]; exact ⟨e0, e1, trivial⟩, lawSame n0 n1 H0 m0 m1⟩

theorem over : Rows.cdcSameRow.holds Try.pinned (OpenSpec.ofChange Rows.cdcSameSpec) :=
  OpenClaim.holds_of_wide 9 Try.f9 rfl rfl rfl rfl rfl rfl rfl ⟨rfl, rfl, rfl, rfl, rfl⟩ rfl rfl rfl rfl rfl (by kernel_rfl) Try.func9 (by kernel_rfl)
    (of_decide_eq_true (by kernel_rfl)) (by unfold Func.isWrapper; first | (rw [if_pos (by decide +kernel)]; kernel_rfl) | (rw [if_neg (by decide +kernel)]; exact ⟨rfl, rfl⟩))
    (fun os started H enc _ => lifted os started H enc)

theorem proved : Rows.CdcSameSaid := over
#print axioms proved
end Go.Proofs.Ytafflcbcpbgloaa.RSame
