import Derived.Test.YtafflcbcpbgloaaCdcCut
set_option linter.unusedSimpArgs false
namespace Go.Proofs.Ytafflcbcpbgloaa
open Go.Vm
theorem nxt_abc : Cdc.nxtFrom 0 0 [97, 98, 99] = 3 := by decide
theorem cut_abc : Cdc.cut [97, 98, 99] = [[97, 98, 99]] := by
  rw [Cdc.cut_cons (by simp), Cdc.nxt, nxt_abc]
  simp [Cdc.cut_nil]

set_option maxRecDepth 100000 in
theorem wakes_any (h : Heap) : ACalls Try.prog 19 [] h (fun r h' => r = .sc (.bool true) ∧ h' = h) := by
  refine ACalls_of_AW Try.func19 rfl ?_; rw [Try.ntmps19]; simp (disch := omega) only [go_sem, bne_self_eq_false, ← List.map_drop, ← List.map_take, List.take_length, beq_self_eq_true, Int.reduceBEq, Int.reduceBNe, Int.reduceEq, eq_self, ↓reduceIte, reduceCtorEq, Nat.reduceAdd, Nat.reduceSub, Nat.reduceMul, Nat.reduceEqDiff, Int.toNat_natCast, Int.toNat_zero, Int.toNat_one, Int.reduceLE, Int.reduceLT, Nat.reduceLT, Nat.reduceLeDiff, Int.reduceToNat, Int.reduceNeg, Int.reducePow, Nat.min_def, Int.natCast_add, Int.natCast_mul, Int.cast_ofNat_Int, Int.natCast_one, Int.natCast_zero, Int.reduceAdd, Int.reduceMul, Int.reduceSub, IntKind.bits, List.length_map, wrap_u8_mod, wrap_u32_mod, wrap_u64_mod, wrap_i64_id]
  repeat (refine AW_k fun K1 H1 => ?_; refine AW_r ?_; simp (disch := omega) only [go_sem, bne_self_eq_false, ← List.map_drop, ← List.map_take, List.take_length, beq_self_eq_true, Int.reduceBEq, Int.reduceBNe, Int.reduceEq, eq_self, ↓reduceIte, reduceCtorEq, Nat.reduceAdd, Nat.reduceSub, Nat.reduceMul, Nat.reduceEqDiff, Int.toNat_natCast, Int.toNat_zero, Int.toNat_one, Int.reduceLE, Int.reduceLT, Nat.reduceLT, Nat.reduceLeDiff, Int.reduceToNat, Int.reduceNeg, Int.reducePow, Nat.min_def, Int.natCast_add, Int.natCast_mul, Int.cast_ofNat_Int, Int.natCast_one, Int.natCast_zero, Int.reduceAdd, Int.reduceMul, Int.reduceSub, IntKind.bits, List.length_map, wrap_u8_mod, wrap_u32_mod, wrap_u64_mod, wrap_i64_id]; refine H1 _ _ ?_; clear H1 K1)
  (refine AW_k fun K1 H1 => ?_; refine AW_r ?_; simp (disch := omega) only [go_sem, bne_self_eq_false, ← List.map_drop, ← List.map_take, List.take_length, beq_self_eq_true, Int.reduceBEq, Int.reduceBNe, Int.reduceEq, eq_self, ↓reduceIte, reduceCtorEq, Nat.reduceAdd, Nat.reduceSub, Nat.reduceMul, Nat.reduceEqDiff, Int.toNat_natCast, Int.toNat_zero, Int.toNat_one, Int.reduceLE, Int.reduceLT, Nat.reduceLT, Nat.reduceLeDiff, Int.reduceToNat, Int.reduceNeg, Int.reducePow, Nat.min_def, Int.natCast_add, Int.natCast_mul, Int.cast_ofNat_Int, Int.natCast_one, Int.natCast_zero, Int.reduceAdd, Int.reduceMul, Int.reduceSub, IntKind.bits, List.length_map, wrap_u8_mod, wrap_u32_mod, wrap_u64_mod, wrap_i64_id])
  refine AOps_plain rfl (AOp_litg rfl 8 Ty.et22 rfl (by decide) rfl rfl (fun n hn => ?_))
  refine aops_sound _ _ _ ?_
  simp (disch := omega) only [go_sem, bne_self_eq_false, ← List.map_drop, ← List.map_take, List.take_length, beq_self_eq_true, Int.reduceBEq, Int.reduceBNe, Int.reduceEq, eq_self, ↓reduceIte, reduceCtorEq, Nat.reduceAdd, Nat.reduceSub, Nat.reduceMul, Nat.reduceEqDiff, Int.toNat_natCast, Int.toNat_zero, Int.toNat_one, Int.reduceLE, Int.reduceLT, Nat.reduceLT, Nat.reduceLeDiff, Int.reduceToNat, Int.reduceNeg, Int.reducePow, Nat.min_def, Int.natCast_add, Int.natCast_mul, Int.cast_ofNat_Int, Int.natCast_one, Int.natCast_zero, Int.reduceAdd, Int.reduceMul, Int.reduceSub, IntKind.bits, List.length_map, wrap_u8_mod, wrap_u32_mod, wrap_u64_mod, wrap_i64_id]
  refine AOps_plain rfl (AOp_conv_own rfl Ty.et22.ut (by kernel_rfl) rfl (upd_same _ _ _) ?_)
  rw [upd_upd, show upd h (8, n) none = h from by rw [← hn]; exact upd_self h _]
  refine aops_sound _ _ _ ?_
  simp (disch := omega) only [go_sem, bne_self_eq_false, ← List.map_drop, ← List.map_take, List.take_length, beq_self_eq_true, Int.reduceBEq, Int.reduceBNe, Int.reduceEq, eq_self, ↓reduceIte, reduceCtorEq, Nat.reduceAdd, Nat.reduceSub, Nat.reduceMul, Nat.reduceEqDiff, Int.toNat_natCast, Int.toNat_zero, Int.toNat_one, Int.reduceLE, Int.reduceLT, Nat.reduceLT, Nat.reduceLeDiff, Int.reduceToNat, Int.reduceNeg, Int.reducePow, Nat.min_def, Int.natCast_add, Int.natCast_mul, Int.cast_ofNat_Int, Int.natCast_one, Int.natCast_zero, Int.reduceAdd, Int.reduceMul, Int.reduceSub, IntKind.bits, List.length_map, wrap_u8_mod, wrap_u32_mod, wrap_u64_mod, wrap_i64_id]
  refine AOps_call rfl rfl rfl (by kernel_rfl) ?_
  refine ACalls.mono (cut_any [97, 98, 99] h (by decide) (by decide)) ?_
  rintro x h' (⟨h1, -⟩ | ⟨-, rfl, rfl⟩)
  · simp at h1
  rw [cut_abc]
  refine aops_sound _ _ _ ?_
  simp (disch := omega) only [go_sem, bne_self_eq_false, ← List.map_drop, ← List.map_take, List.take_length, beq_self_eq_true, Int.reduceBEq, Int.reduceBNe, Int.reduceEq, eq_self, ↓reduceIte, reduceCtorEq, Nat.reduceAdd, Nat.reduceSub, Nat.reduceMul, Nat.reduceEqDiff, Int.toNat_natCast, Int.toNat_zero, Int.toNat_one, Int.reduceLE, Int.reduceLT, Nat.reduceLT, Nat.reduceLeDiff, Int.reduceToNat, Int.reduceNeg, Int.reducePow, Nat.min_def, Int.natCast_add, Int.natCast_mul, Int.cast_ofNat_Int, Int.natCast_one, Int.natCast_zero, Int.reduceAdd, Int.reduceMul, Int.reduceSub, IntKind.bits, List.length_map, wrap_u8_mod, wrap_u32_mod, wrap_u64_mod, wrap_i64_id]
  (refine H1 _ _ ?_; clear H1 K1)
  (refine AW_k fun K1 H1 => ?_; refine AW_r ?_; simp (disch := omega) only [go_sem, bne_self_eq_false, ← List.map_drop, ← List.map_take, List.take_length, beq_self_eq_true, Int.reduceBEq, Int.reduceBNe, Int.reduceEq, eq_self, ↓reduceIte, reduceCtorEq, Nat.reduceAdd, Nat.reduceSub, Nat.reduceMul, Nat.reduceEqDiff, Int.toNat_natCast, Int.toNat_zero, Int.toNat_one, Int.reduceLE, Int.reduceLT, Nat.reduceLT, Nat.reduceLeDiff, Int.reduceToNat, Int.reduceNeg, Int.reducePow, Nat.min_def, Int.natCast_add, Int.natCast_mul, Int.cast_ofNat_Int, Int.natCast_one, Int.natCast_zero, Int.reduceAdd, Int.reduceMul, Int.reduceSub, IntKind.bits, List.length_map, wrap_u8_mod, wrap_u32_mod, wrap_u64_mod, wrap_i64_id, List.map_cons, List.map_nil, eq_self, Int.reduceEq])
  refine AOps_plain rfl (AOp_str rfl Ty.et22.ut (by kernel_rfl) (by kernel_rfl) rfl (s := [97, 98, 99]) rfl ?_)
  refine aops_sound _ _ _ ?_
  simp (disch := omega) only [go_sem, bne_self_eq_false, ← List.map_drop, ← List.map_take, List.take_length, beq_self_eq_true, Int.reduceBEq, Int.reduceBNe, Int.reduceEq, eq_self, ↓reduceIte, reduceCtorEq, Nat.reduceAdd, Nat.reduceSub, Nat.reduceMul, Nat.reduceEqDiff, Int.toNat_natCast, Int.toNat_zero, Int.toNat_one, Int.reduceLE, Int.reduceLT, Nat.reduceLT, Nat.reduceLeDiff, Int.reduceToNat, Int.reduceNeg, Int.reducePow, Nat.min_def, Int.natCast_add, Int.natCast_mul, Int.cast_ofNat_Int, Int.natCast_one, Int.natCast_zero, Int.reduceAdd, Int.reduceMul, Int.reduceSub, IntKind.bits, List.length_map, wrap_u8_mod, wrap_u32_mod, wrap_u64_mod, wrap_i64_id]
  refine AOps_call rfl rfl rfl (by kernel_rfl) ?_
  refine ACalls.mono (ACalls_le (.cons (ALe.nil _ 1 0 (by simp [maxLen])) .nil) (next_any none [] _ (by decide) (by decide))) ?_
  rintro x h' ⟨rfl, rfl⟩
  refine aops_sound _ _ _ ?_
  simp (disch := omega) only [go_sem, bne_self_eq_false, ← List.map_drop, ← List.map_take, List.take_length, beq_self_eq_true, Int.reduceBEq, Int.reduceBNe, Int.reduceEq, eq_self, ↓reduceIte, reduceCtorEq, Nat.reduceAdd, Nat.reduceSub, Nat.reduceMul, Nat.reduceEqDiff, Int.toNat_natCast, Int.toNat_zero, Int.toNat_one, Int.reduceLE, Int.reduceLT, Nat.reduceLT, Nat.reduceLeDiff, Int.reduceToNat, Int.reduceNeg, Int.reducePow, Nat.min_def, Int.natCast_add, Int.natCast_mul, Int.cast_ofNat_Int, Int.natCast_one, Int.natCast_zero, Int.reduceAdd, Int.reduceMul, Int.reduceSub, IntKind.bits, List.length_map, wrap_u8_mod, wrap_u32_mod, wrap_u64_mod, wrap_i64_id, Cdc.nxtFrom]
  (refine H1 _ _ ?_; clear H1 K1)
  (refine AW_ret ?_; refine ⟨_, _, _, rfl, Sub.refl _, ALe.refl _ _, ?_⟩)
  exact ⟨rfl, rfl⟩
end Go.Proofs.Ytafflcbcpbgloaa
