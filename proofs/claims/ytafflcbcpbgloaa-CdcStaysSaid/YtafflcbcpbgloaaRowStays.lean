/-
  For every input, 'CdcStays' returns true and leaves its arguments as they were. Conditions: none.
-/
import Derived.Test.YtafflcbcpbgloaaLawStays
import Derived.Test.YtafflcbcpbgloaaRowBase
namespace Go.Proofs.Ytafflcbcpbgloaa.RStays
open Go.Vm Go.ChangeShapes Go.WideShapes
set_option maxRecDepth 100000 in
theorem lifted (os : Os) (started : os.Started) (H : Type) (enc : TypeId × Value → H) :
    ReturnsInHanded {} Try.checked os 5 .any (Rows.cdcStaysSpec.pre6 enc Try.prog Try.f5 Rows.cdcStaysRow.domain false) (Rows.cdcStaysSpec.post enc Try.prog Try.f5 false true false false) := by
  refine law_lift (C := Try.checked) (t := 4) Try.own0 started (by kernel_rfl) Try.func5
    (ChangeSpec.witness6 (enc := enc) (C := Try.checked) false ⟨#[], #[.slice none 0 0, .slice none 0 0], []⟩ 8 (by kernel_rfl) (by kernel_rfl) (by kernel_rfl) (by kernel_rfl))
    Try.laidOut0 (by rw [show Try.f5.params.toList = [22, 22] from rfl]; intro t h; simp only [List.mem_cons, List.not_mem_nil, or_false] at h; rcases h with rfl | rfl; exact Try.rr22; exact Try.rr22) rfl rfl Try.u4 ?_ ?_
  · intro ds h
    match ds, h with
    | [d0, d1], _ => rfl
  · intro W base args ds ps hval hA
    have hA : DataW.TrodAll enc Try.prog W 0 (fun _ => true) true [22, 22] args.toList ds ps := hA
    obtain ⟨v0, vs0, d0, ds0, p0, q0, hargs, rfl, rfl, h0, r0⟩ := trodAll_cons hA
    obtain ⟨v1, vs1, d1, ds1, p1, q1, rfl, rfl, rfl, h1, r1⟩ := trodAll_cons r0
    obtain ⟨rfl, rfl, rfl⟩ := trodAll_nil r1
    obtain rfl : args = #[v0, v1] := by cases args; simp_all
    obtain ⟨l0, b0, m0, e0⟩ := VR_bytes Try.u22 Try.u5 Try.cells5 (hval 0 22 v0 rfl rfl) h0
    obtain ⟨l1, b1, m1, e1⟩ := VR_bytes Try.u22 Try.u5 Try.cells5 (hval 1 22 v1 rfl rfl) h1
    exact ⟨[bys none l0, bys none l1], by simp only [VRL]; exact ⟨e0, e1, trivial⟩, lawStays l0 l1 H0 m0 b0 m1 b1⟩

theorem over : Rows.cdcStaysRow.holds Try.pinned (OpenSpec.ofChange Rows.cdcStaysSpec) :=
  OpenClaim.holds_of_wide 5 Try.f5 rfl rfl rfl rfl rfl rfl rfl ⟨rfl, rfl, rfl, rfl, rfl⟩ rfl rfl rfl rfl rfl (by kernel_rfl) Try.func5 (by kernel_rfl)
    (of_decide_eq_true (by kernel_rfl)) (by unfold Func.isWrapper; first | (rw [if_pos (by decide +kernel)]; kernel_rfl) | (rw [if_neg (by decide +kernel)]; exact ⟨rfl, rfl⟩))
    (fun os started H enc _ => lifted os started H enc)

theorem proved : Rows.CdcStaysSaid := over
#print axioms proved
end Go.Proofs.Ytafflcbcpbgloaa.RStays
