import Derived.Test.YtafflcbcpbgloaaCdcNext
set_option linter.unusedSimpArgs false
namespace Go.Proofs.Ytafflcbcpbgloaa
open Go.Vm

theorem take_succ_eq {a b : List Nat} {k : Nat} (ha : k < a.length) (hb : k < b.length) (h : a.take k = b.take k) : a.take (k + 1) = b.take (k + 1) ↔ a.getD k 0 = b.getD k 0 := by
  rw [List.take_succ_eq_append_getElem ha, List.take_succ_eq_append_getElem hb, h]
  simp only [List.getD, List.getElem?_eq_getElem ha, List.getElem?_eq_getElem hb, Option.getD_some]
  exact ⟨fun e => List.cons.inj (List.append_cancel_left e) |>.1, fun e => by rw [e]⟩

set_option maxRecDepth 100000 in
theorem bytes_any (t1 t2 : Option Key) (a b : List Nat) (h : Heap) (ha : a.length ≤ 1000000000) : ACalls Try.prog 18 [bys t1 a, bys t2 b] h (fun r h' => r = .sc (.bool (decide (a = b))) ∧ h' = h) := by
  refine ACalls_of_AW Try.func18 rfl ?_; rw [Try.ntmps18]; simp (disch := omega) only [go_sem, bne_self_eq_false, ← List.map_drop, ← List.map_take, List.take_length, beq_self_eq_true, Int.reduceBEq, Int.reduceBNe, Int.reduceEq, eq_self, ↓reduceIte, reduceCtorEq, Nat.reduceAdd, Nat.reduceSub, Nat.reduceMul, Nat.reduceEqDiff, Int.toNat_natCast, Int.toNat_zero, Int.toNat_one, Int.reduceLE, Int.reduceLT, Nat.reduceLT, Nat.reduceLeDiff, Int.reduceToNat, Int.reduceNeg, Int.reducePow, Nat.min_def, Int.natCast_add, Int.natCast_mul, Int.cast_ofNat_Int, Int.natCast_one, Int.natCast_zero, Int.reduceAdd, Int.reduceMul, Int.reduceSub, IntKind.bits, List.length_map, wrap_u8_mod, wrap_u32_mod, wrap_u64_mod, wrap_i64_id]
  repeat (refine AW_k fun K1 H1 => ?_; refine AW_r ?_; simp (disch := omega) only [go_sem, bne_self_eq_false, ← List.map_drop, ← List.map_take, List.take_length, beq_self_eq_true, Int.reduceBEq, Int.reduceBNe, Int.reduceEq, eq_self, ↓reduceIte, reduceCtorEq, Nat.reduceAdd, Nat.reduceSub, Nat.reduceMul, Nat.reduceEqDiff, Int.toNat_natCast, Int.toNat_zero, Int.toNat_one, Int.reduceLE, Int.reduceLT, Nat.reduceLT, Nat.reduceLeDiff, Int.reduceToNat, Int.reduceNeg, Int.reducePow, Nat.min_def, Int.natCast_add, Int.natCast_mul, Int.cast_ofNat_Int, Int.natCast_one, Int.natCast_zero, Int.reduceAdd, Int.reduceMul, Int.reduceSub, IntKind.bits, List.length_map, wrap_u8_mod, wrap_u32_mod, wrap_u64_mod, wrap_i64_id]; refine H1 _ _ ?_; clear H1 K1)
  refine AW_k fun K1 H1 => ?_
  repeat (refine AW_k fun K2 H2 => ?_; refine AW_r ?_; simp (disch := omega) only [go_sem, bne_self_eq_false, ← List.map_drop, ← List.map_take, List.take_length, beq_self_eq_true, Int.reduceBEq, Int.reduceBNe, Int.reduceEq, eq_self, ↓reduceIte, reduceCtorEq, Nat.reduceAdd, Nat.reduceSub, Nat.reduceMul, Nat.reduceEqDiff, Int.toNat_natCast, Int.toNat_zero, Int.toNat_one, Int.reduceLE, Int.reduceLT, Nat.reduceLT, Nat.reduceLeDiff, Int.reduceToNat, Int.reduceNeg, Int.reducePow, Nat.min_def, Int.natCast_add, Int.natCast_mul, Int.cast_ofNat_Int, Int.natCast_one, Int.natCast_zero, Int.reduceAdd, Int.reduceMul, Int.reduceSub, IntKind.bits, List.length_map, wrap_u8_mod, wrap_u32_mod, wrap_u64_mod, wrap_i64_id]; refine H2 _ _ ?_; clear H2 K2)
  refine AW_if rfl (fun hne => ?_) (fun heq => ?_)
  · repeat (refine AW_k fun K2 H2 => ?_; refine AW_r ?_; simp (disch := omega) only [go_sem, bne_self_eq_false, ← List.map_drop, ← List.map_take, List.take_length, beq_self_eq_true, Int.reduceBEq, Int.reduceBNe, Int.reduceEq, eq_self, ↓reduceIte, reduceCtorEq, Nat.reduceAdd, Nat.reduceSub, Nat.reduceMul, Nat.reduceEqDiff, Int.toNat_natCast, Int.toNat_zero, Int.toNat_one, Int.reduceLE, Int.reduceLT, Nat.reduceLT, Nat.reduceLeDiff, Int.reduceToNat, Int.reduceNeg, Int.reducePow, Nat.min_def, Int.natCast_add, Int.natCast_mul, Int.cast_ofNat_Int, Int.natCast_one, Int.natCast_zero, Int.reduceAdd, Int.reduceMul, Int.reduceSub, IntKind.bits, List.length_map, wrap_u8_mod, wrap_u32_mod, wrap_u64_mod, wrap_i64_id]; refine H2 _ _ ?_; clear H2 K2)
    (refine AW_ret ?_; refine ⟨_, _, _, rfl, Sub.refl _, ALe.refl _ _, ?_⟩)
    refine ⟨?_, rfl⟩
    have : a ≠ b := by rintro rfl; simp at hne
    simp [this]
  · (refine AW_skip ?_; refine H1 _ _ ?_; clear H1 K1)
    have heq' : a.length = b.length := by simp at heq; omega
    refine AW_k fun K1 H1 => ?_
    repeat (refine AW_k fun K2 H2 => ?_; refine AW_r ?_; simp (disch := omega) only [go_sem, bne_self_eq_false, ← List.map_drop, ← List.map_take, List.take_length, beq_self_eq_true, Int.reduceBEq, Int.reduceBNe, Int.reduceEq, eq_self, ↓reduceIte, reduceCtorEq, Nat.reduceAdd, Nat.reduceSub, Nat.reduceMul, Nat.reduceEqDiff, Int.toNat_natCast, Int.toNat_zero, Int.toNat_one, Int.reduceLE, Int.reduceLT, Nat.reduceLT, Nat.reduceLeDiff, Int.reduceToNat, Int.reduceNeg, Int.reducePow, Nat.min_def, Int.natCast_add, Int.natCast_mul, Int.cast_ofNat_Int, Int.natCast_one, Int.natCast_zero, Int.reduceAdd, Int.reduceMul, Int.reduceSub, IntKind.bits, List.length_map, wrap_u8_mod, wrap_u32_mod, wrap_u64_mod, wrap_i64_id]; refine H2 _ _ ?_; clear H2 K2)
    refine AW_block ?_
    refine AW_loop_s 26 (fun k : Nat => [(0, bys t1 a), (1, bys t2 b), (5, .sc (.int .i64 k))]) (fun _ => h) (fun k => a.length - k)
      (fun k => k ≤ a.length ∧ a.take k = b.take k) 0 rfl ⟨Nat.zero_le _, by simp⟩ (by simp (disch := omega) only [go_sem, bne_self_eq_false, ← List.map_drop, ← List.map_take, List.take_length, beq_self_eq_true, Int.reduceBEq, Int.reduceBNe, Int.reduceEq, eq_self, ↓reduceIte, reduceCtorEq, Nat.reduceAdd, Nat.reduceSub, Nat.reduceMul, Nat.reduceEqDiff, Int.toNat_natCast, Int.toNat_zero, Int.toNat_one, Int.reduceLE, Int.reduceLT, Nat.reduceLT, Nat.reduceLeDiff, Int.reduceToNat, Int.reduceNeg, Int.reducePow, Nat.min_def, Int.natCast_add, Int.natCast_mul, Int.cast_ofNat_Int, Int.natCast_one, Int.natCast_zero, Int.reduceAdd, Int.reduceMul, Int.reduceSub, IntKind.bits, List.length_map, wrap_u8_mod, wrap_u32_mod, wrap_u64_mod, wrap_i64_id]) (Sub.refl h) ?_
    rintro k ⟨h1, h2⟩
    simp (disch := omega) only [go_sem, bne_self_eq_false, ← List.map_drop, ← List.map_take, List.take_length, beq_self_eq_true, Int.reduceBEq, Int.reduceBNe, Int.reduceEq, eq_self, ↓reduceIte, reduceCtorEq, Nat.reduceAdd, Nat.reduceSub, Nat.reduceMul, Nat.reduceEqDiff, Int.toNat_natCast, Int.toNat_zero, Int.toNat_one, Int.reduceLE, Int.reduceLT, Nat.reduceLT, Nat.reduceLeDiff, Int.reduceToNat, Int.reduceNeg, Int.reducePow, Nat.min_def, Int.natCast_add, Int.natCast_mul, Int.cast_ofNat_Int, Int.natCast_one, Int.natCast_zero, Int.reduceAdd, Int.reduceMul, Int.reduceSub, IntKind.bits, List.length_map, wrap_u8_mod, wrap_u32_mod, wrap_u64_mod, wrap_i64_id]
    refine AW_k fun K2 H2 => ?_
    repeat (refine AW_k fun K3 H3 => ?_; refine AW_r ?_; simp (disch := omega) only [go_sem, bne_self_eq_false, ← List.map_drop, ← List.map_take, List.take_length, beq_self_eq_true, Int.reduceBEq, Int.reduceBNe, Int.reduceEq, eq_self, ↓reduceIte, reduceCtorEq, Nat.reduceAdd, Nat.reduceSub, Nat.reduceMul, Nat.reduceEqDiff, Int.toNat_natCast, Int.toNat_zero, Int.toNat_one, Int.reduceLE, Int.reduceLT, Nat.reduceLT, Nat.reduceLeDiff, Int.reduceToNat, Int.reduceNeg, Int.reducePow, Nat.min_def, Int.natCast_add, Int.natCast_mul, Int.cast_ofNat_Int, Int.natCast_one, Int.natCast_zero, Int.reduceAdd, Int.reduceMul, Int.reduceSub, IntKind.bits, List.length_map, wrap_u8_mod, wrap_u32_mod, wrap_u64_mod, wrap_i64_id]; refine H3 _ _ ?_; clear H3 K3)
    refine AW_if rfl (fun hlt => ?_) (fun hge => ?_)
    · (refine AW_skip ?_; refine H2 _ _ ?_; clear H2 K2)
      have hka : k < a.length := by simp at hlt; omega
      have hkb : k < b.length := by omega
      have ht := take_succ_eq hka hkb h2
      have ga := by1_get a k hka
      have gb := by1_get b k hkb
      generalize a.getD k 0 = x at ht ga
      generalize hy : b.getD k 0 = y at ht gb
      refine AW_k fun K2 H2 => ?_
      refine AW_block ?_
      (refine AW_k fun K3 H3 => ?_; refine AW_region_aqs (by kernel_rfl) (by kernel_rfl) ?_; simp (disch := omega) only [go_sem, bne_self_eq_false, ← List.map_drop, ← List.map_take, List.take_length, beq_self_eq_true, Int.reduceBEq, Int.reduceBNe, Int.reduceEq, eq_self, ↓reduceIte, reduceCtorEq, Nat.reduceAdd, Nat.reduceSub, Nat.reduceMul, Nat.reduceEqDiff, Int.toNat_natCast, Int.toNat_zero, Int.toNat_one, Int.reduceLE, Int.reduceLT, Nat.reduceLT, Nat.reduceLeDiff, Int.reduceToNat, Int.reduceNeg, Int.reducePow, Nat.min_def, Int.natCast_add, Int.natCast_mul, Int.cast_ofNat_Int, Int.natCast_one, Int.natCast_zero, Int.reduceAdd, Int.reduceMul, Int.reduceSub, IntKind.bits, List.length_map, wrap_u8_mod, wrap_u32_mod, wrap_u64_mod, wrap_i64_id, ga, gb, Int.ofNat_lt, hka, hkb, Int.natCast_nonneg]; refine H3 _ _ ?_; clear H3 K3)
      refine AW_if rfl (fun hd => ?_) (fun hd => ?_)
      · repeat (refine AW_k fun K3 H3 => ?_; refine AW_r ?_; simp (disch := omega) only [go_sem, bne_self_eq_false, ← List.map_drop, ← List.map_take, List.take_length, beq_self_eq_true, Int.reduceBEq, Int.reduceBNe, Int.reduceEq, eq_self, ↓reduceIte, reduceCtorEq, Nat.reduceAdd, Nat.reduceSub, Nat.reduceMul, Nat.reduceEqDiff, Int.toNat_natCast, Int.toNat_zero, Int.toNat_one, Int.reduceLE, Int.reduceLT, Nat.reduceLT, Nat.reduceLeDiff, Int.reduceToNat, Int.reduceNeg, Int.reducePow, Nat.min_def, Int.natCast_add, Int.natCast_mul, Int.cast_ofNat_Int, Int.natCast_one, Int.natCast_zero, Int.reduceAdd, Int.reduceMul, Int.reduceSub, IntKind.bits, List.length_map, wrap_u8_mod, wrap_u32_mod, wrap_u64_mod, wrap_i64_id]; refine H3 _ _ ?_; clear H3 K3)
        (refine AW_ret ?_; refine ⟨_, _, _, rfl, Sub.refl _, ALe.refl _ _, ?_⟩)
        refine ⟨?_, rfl⟩
        have : a ≠ b := by
          rintro rfl
          have := ht.1 rfl
          simp [this] at hd
        simp [this]
      · refine AW_skip ?_
        simp only [Go.Vm.Seq, Blk, ↓reduceIte, Nat.reduceEqDiff, if_true, if_false]
        (refine H2 _ _ ?_; clear H2 K2)
        refine AW_r ?_
        simp (disch := omega) only [go_sem, bne_self_eq_false, ← List.map_drop, ← List.map_take, List.take_length, beq_self_eq_true, Int.reduceBEq, Int.reduceBNe, Int.reduceEq, eq_self, ↓reduceIte, reduceCtorEq, Nat.reduceAdd, Nat.reduceSub, Nat.reduceMul, Nat.reduceEqDiff, Int.toNat_natCast, Int.toNat_zero, Int.toNat_one, Int.reduceLE, Int.reduceLT, Nat.reduceLT, Nat.reduceLeDiff, Int.reduceToNat, Int.reduceNeg, Int.reducePow, Nat.min_def, Int.natCast_add, Int.natCast_mul, Int.cast_ofNat_Int, Int.natCast_one, Int.natCast_zero, Int.reduceAdd, Int.reduceMul, Int.reduceSub, IntKind.bits, List.length_map, wrap_u8_mod, wrap_u32_mod, wrap_u64_mod, wrap_i64_id]
        refine ⟨k + 1, ⟨by omega, ht.2 ?_⟩, by omega, Sub.refl h, by simp (disch := omega) only [go_sem, bne_self_eq_false, ← List.map_drop, ← List.map_take, List.take_length, beq_self_eq_true, Int.reduceBEq, Int.reduceBNe, Int.reduceEq, eq_self, ↓reduceIte, reduceCtorEq, Nat.reduceAdd, Nat.reduceSub, Nat.reduceMul, Nat.reduceEqDiff, Int.toNat_natCast, Int.toNat_zero, Int.toNat_one, Int.reduceLE, Int.reduceLT, Nat.reduceLT, Nat.reduceLeDiff, Int.reduceToNat, Int.reduceNeg, Int.reducePow, Nat.min_def, Int.natCast_add, Int.natCast_mul, Int.cast_ofNat_Int, Int.natCast_one, Int.natCast_zero, Int.reduceAdd, Int.reduceMul, Int.reduceSub, IntKind.bits, List.length_map, wrap_u8_mod, wrap_u32_mod, wrap_u64_mod, wrap_i64_id]⟩
        simp at hd; omega
    · refine AW_exit ?_
      simp only [Go.Vm.Seq, Blk, ↓reduceIte, Nat.reduceEqDiff, if_true, if_false]
      clear H2 K2
      (refine H1 _ _ ?_; clear H1 K1)
      repeat (refine AW_k fun K1 H1 => ?_; refine AW_r ?_; simp (disch := omega) only [go_sem, bne_self_eq_false, ← List.map_drop, ← List.map_take, List.take_length, beq_self_eq_true, Int.reduceBEq, Int.reduceBNe, Int.reduceEq, eq_self, ↓reduceIte, reduceCtorEq, Nat.reduceAdd, Nat.reduceSub, Nat.reduceMul, Nat.reduceEqDiff, Int.toNat_natCast, Int.toNat_zero, Int.toNat_one, Int.reduceLE, Int.reduceLT, Nat.reduceLT, Nat.reduceLeDiff, Int.reduceToNat, Int.reduceNeg, Int.reducePow, Nat.min_def, Int.natCast_add, Int.natCast_mul, Int.cast_ofNat_Int, Int.natCast_one, Int.natCast_zero, Int.reduceAdd, Int.reduceMul, Int.reduceSub, IntKind.bits, List.length_map, wrap_u8_mod, wrap_u32_mod, wrap_u64_mod, wrap_i64_id]; refine H1 _ _ ?_; clear H1 K1)
      (refine AW_ret ?_; refine ⟨_, _, _, rfl, Sub.refl _, ALe.refl _ _, ?_⟩)
      refine ⟨?_, rfl⟩
      have hk : k = a.length := by simp at hge; omega
      have : a = b := by
        rw [hk, List.take_length] at h2
        rw [heq', List.take_length] at h2
        exact h2
      simp [this]
end Go.Proofs.Ytafflcbcpbgloaa
