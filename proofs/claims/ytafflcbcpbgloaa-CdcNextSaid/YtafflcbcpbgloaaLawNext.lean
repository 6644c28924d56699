import Derived.Test.YtafflcbcpbgloaaCdcWakes
set_option linter.unusedSimpArgs false
namespace Go.Proofs.Ytafflcbcpbgloaa
open Go.Vm
theorem row_get (ls : List (List Nat)) (k : Nat) (h : k < ls.length) : (ls.map fun l => [AV.sl none 1 (l.map by1)]).getD k [] = [.sl none 1 ((ls.getD k []).map by1)] := by
  simp [List.getD, List.getElem?_eq_getElem h]

namespace Cdc
theorem cut_step {b : List Nat} {i a : Nat} (hi : i < (cut b).length) (hd : (cut b).drop i = cut (b.drop a)) :
    b.drop a ≠ [] ∧ (cut b).getD i [] = (b.drop a).take (nxtFrom 0 0 (b.drop a)) ∧ (cut b).drop (i + 1) = cut (b.drop (a + nxtFrom 0 0 (b.drop a))) := by
  have hne : b.drop a ≠ [] := by
    intro e
    rw [e, cut_nil] at hd
    have := congrArg List.length hd
    rw [List.length_drop, List.length_nil] at this
    omega
  rw [cut_cons hne, List.drop_eq_getElem_cons hi] at hd
  obtain ⟨h1, h2⟩ := List.cons.inj hd
  refine ⟨hne, ?_, ?_⟩
  · simp [List.getD, List.getElem?_eq_getElem hi, h1]
  · rw [h2, List.drop_drop]
end Cdc

set_option maxRecDepth 100000 in
theorem lawNext (b : List Nat) (h : Heap) (hm : b.length ≤ 9223372036854775807) (hb : ∀ z ∈ b, z < 256) : ACalls Try.prog 8 [bys none b] h (fun r _ => r = .sc (.bool true)) := by
  refine ACalls_of_AW Try.func8 rfl ?_; rw [Try.ntmps8]; simp (disch := omega) only [go_sem, bne_self_eq_false, ← List.map_drop, ← List.map_take, List.take_length, beq_self_eq_true, Int.reduceBEq, Int.reduceBNe, Int.reduceEq, eq_self, ↓reduceIte, reduceCtorEq, Nat.reduceAdd, Nat.reduceSub, Nat.reduceMul, Nat.reduceEqDiff, Int.toNat_natCast, Int.toNat_zero, Int.toNat_one, Int.reduceLE, Int.reduceLT, Nat.reduceLT, Nat.reduceLeDiff, Int.reduceToNat, Int.reduceNeg, Int.reducePow, Nat.min_def, Int.natCast_add, Int.natCast_mul, Int.cast_ofNat_Int, Int.natCast_one, Int.natCast_zero, Int.reduceAdd, Int.reduceMul, Int.reduceSub, IntKind.bits, List.length_map, wrap_u8_mod, wrap_u32_mod, wrap_u64_mod, wrap_i64_id]
  repeat (refine AW_k fun K1 H1 => ?_; refine AW_r ?_; simp (disch := omega) only [go_sem, bne_self_eq_false, ← List.map_drop, ← List.map_take, List.take_length, beq_self_eq_true, Int.reduceBEq, Int.reduceBNe, Int.reduceEq, eq_self, ↓reduceIte, reduceCtorEq, Nat.reduceAdd, Nat.reduceSub, Nat.reduceMul, Nat.reduceEqDiff, Int.toNat_natCast, Int.toNat_zero, Int.toNat_one, Int.reduceLE, Int.reduceLT, Nat.reduceLT, Nat.reduceLeDiff, Int.reduceToNat, Int.reduceNeg, Int.reducePow, Nat.min_def, Int.natCast_add, Int.natCast_mul, Int.cast_ofNat_Int, Int.natCast_one, Int.natCast_zero, Int.reduceAdd, Int.reduceMul, Int.reduceSub, IntKind.bits, List.length_map, wrap_u8_mod, wrap_u32_mod, wrap_u64_mod, wrap_i64_id]; refine H1 _ _ ?_; clear H1 K1)
  refine AW_k fun K1 H1 => ?_
  repeat (refine AW_k fun K2 H2 => ?_; refine AW_r ?_; simp (disch := omega) only [go_sem, bne_self_eq_false, ← List.map_drop, ← List.map_take, List.take_length, beq_self_eq_true, Int.reduceBEq, Int.reduceBNe, Int.reduceEq, eq_self, ↓reduceIte, reduceCtorEq, Nat.reduceAdd, Nat.reduceSub, Nat.reduceMul, Nat.reduceEqDiff, Int.toNat_natCast, Int.toNat_zero, Int.toNat_one, Int.reduceLE, Int.reduceLT, Nat.reduceLT, Nat.reduceLeDiff, Int.reduceToNat, Int.reduceNeg, Int.reducePow, Nat.min_def, Int.natCast_add, Int.natCast_mul, Int.cast_ofNat_Int, Int.natCast_one, Int.natCast_zero, Int.reduceAdd, Int.reduceMul, Int.reduceSub, IntKind.bits, List.length_map, wrap_u8_mod, wrap_u32_mod, wrap_u64_mod, wrap_i64_id]; refine H2 _ _ ?_; clear H2 K2)
  refine AW_if rfl (fun hlt => ?_) (fun hge => ?_)
  · repeat (refine AW_k fun K2 H2 => ?_; refine AW_r ?_; simp (disch := omega) only [go_sem, bne_self_eq_false, ← List.map_drop, ← List.map_take, List.take_length, beq_self_eq_true, Int.reduceBEq, Int.reduceBNe, Int.reduceEq, eq_self, ↓reduceIte, reduceCtorEq, Nat.reduceAdd, Nat.reduceSub, Nat.reduceMul, Nat.reduceEqDiff, Int.toNat_natCast, Int.toNat_zero, Int.toNat_one, Int.reduceLE, Int.reduceLT, Nat.reduceLT, Nat.reduceLeDiff, Int.reduceToNat, Int.reduceNeg, Int.reducePow, Nat.min_def, Int.natCast_add, Int.natCast_mul, Int.cast_ofNat_Int, Int.natCast_one, Int.natCast_zero, Int.reduceAdd, Int.reduceMul, Int.reduceSub, IntKind.bits, List.length_map, wrap_u8_mod, wrap_u32_mod, wrap_u64_mod, wrap_i64_id]; refine H2 _ _ ?_; clear H2 K2)
    (refine AW_ret ?_; refine ⟨_, _, _, rfl, Sub.refl _, ALe.refl _ _, ?_⟩)
    rfl
  · (refine AW_skip ?_; refine H1 _ _ ?_; clear H1 K1)
    simp at hge
    (refine AW_k fun K1 H1 => ?_; refine AW_r ?_; simp (disch := omega) only [go_sem, bne_self_eq_false, ← List.map_drop, ← List.map_take, List.take_length, beq_self_eq_true, Int.reduceBEq, Int.reduceBNe, Int.reduceEq, eq_self, ↓reduceIte, reduceCtorEq, Nat.reduceAdd, Nat.reduceSub, Nat.reduceMul, Nat.reduceEqDiff, Int.toNat_natCast, Int.toNat_zero, Int.toNat_one, Int.reduceLE, Int.reduceLT, Nat.reduceLT, Nat.reduceLeDiff, Int.reduceToNat, Int.reduceNeg, Int.reducePow, Nat.min_def, Int.natCast_add, Int.natCast_mul, Int.cast_ofNat_Int, Int.natCast_one, Int.natCast_zero, Int.reduceAdd, Int.reduceMul, Int.reduceSub, IntKind.bits, List.length_map, wrap_u8_mod, wrap_u32_mod, wrap_u64_mod, wrap_i64_id])
    refine AOps_call rfl rfl rfl (by kernel_rfl) ?_
    refine ACalls.mono (cut_any b h (by omega) hb) ?_
    rintro x h' (⟨h1, -⟩ | ⟨-, rfl, rfl⟩)
    · omega
    refine aops_sound _ _ _ ?_
    simp (disch := omega) only [go_sem, bne_self_eq_false, ← List.map_drop, ← List.map_take, List.take_length, beq_self_eq_true, Int.reduceBEq, Int.reduceBNe, Int.reduceEq, eq_self, ↓reduceIte, reduceCtorEq, Nat.reduceAdd, Nat.reduceSub, Nat.reduceMul, Nat.reduceEqDiff, Int.toNat_natCast, Int.toNat_zero, Int.toNat_one, Int.reduceLE, Int.reduceLT, Nat.reduceLT, Nat.reduceLeDiff, Int.reduceToNat, Int.reduceNeg, Int.reducePow, Nat.min_def, Int.natCast_add, Int.natCast_mul, Int.cast_ofNat_Int, Int.natCast_one, Int.natCast_zero, Int.reduceAdd, Int.reduceMul, Int.reduceSub, IntKind.bits, List.length_map, wrap_u8_mod, wrap_u32_mod, wrap_u64_mod, wrap_i64_id]
    (refine H1 _ _ ?_; clear H1 K1)
    refine AW_k fun K1 H1 => ?_
    repeat (refine AW_k fun K2 H2 => ?_; refine AW_r ?_; simp (disch := omega) only [go_sem, bne_self_eq_false, ← List.map_drop, ← List.map_take, List.take_length, beq_self_eq_true, Int.reduceBEq, Int.reduceBNe, Int.reduceEq, eq_self, ↓reduceIte, reduceCtorEq, Nat.reduceAdd, Nat.reduceSub, Nat.reduceMul, Nat.reduceEqDiff, Int.toNat_natCast, Int.toNat_zero, Int.toNat_one, Int.reduceLE, Int.reduceLT, Nat.reduceLT, Nat.reduceLeDiff, Int.reduceToNat, Int.reduceNeg, Int.reducePow, Nat.min_def, Int.natCast_add, Int.natCast_mul, Int.cast_ofNat_Int, Int.natCast_one, Int.natCast_zero, Int.reduceAdd, Int.reduceMul, Int.reduceSub, IntKind.bits, List.length_map, wrap_u8_mod, wrap_u32_mod, wrap_u64_mod, wrap_i64_id]; refine H2 _ _ ?_; clear H2 K2)
    refine AW_if rfl (fun e => by cases e) (fun _ => ?_)
    (refine AW_skip ?_; refine H1 _ _ ?_; clear H1 K1)
    repeat (refine AW_k fun K1 H1 => ?_; refine AW_r ?_; simp (disch := omega) only [go_sem, bne_self_eq_false, ← List.map_drop, ← List.map_take, List.take_length, beq_self_eq_true, Int.reduceBEq, Int.reduceBNe, Int.reduceEq, eq_self, ↓reduceIte, reduceCtorEq, Nat.reduceAdd, Nat.reduceSub, Nat.reduceMul, Nat.reduceEqDiff, Int.toNat_natCast, Int.toNat_zero, Int.toNat_one, Int.reduceLE, Int.reduceLT, Nat.reduceLT, Nat.reduceLeDiff, Int.reduceToNat, Int.reduceNeg, Int.reducePow, Nat.min_def, Int.natCast_add, Int.natCast_mul, Int.cast_ofNat_Int, Int.natCast_one, Int.natCast_zero, Int.reduceAdd, Int.reduceMul, Int.reduceSub, IntKind.bits, List.length_map, wrap_u8_mod, wrap_u32_mod, wrap_u64_mod, wrap_i64_id]; refine H1 _ _ ?_; clear H1 K1)
    refine AW_k fun K1 H1 => ?_
    repeat (refine AW_k fun K2 H2 => ?_; refine AW_r ?_; simp (disch := omega) only [go_sem, bne_self_eq_false, ← List.map_drop, ← List.map_take, List.take_length, beq_self_eq_true, Int.reduceBEq, Int.reduceBNe, Int.reduceEq, eq_self, ↓reduceIte, reduceCtorEq, Nat.reduceAdd, Nat.reduceSub, Nat.reduceMul, Nat.reduceEqDiff, Int.toNat_natCast, Int.toNat_zero, Int.toNat_one, Int.reduceLE, Int.reduceLT, Nat.reduceLT, Nat.reduceLeDiff, Int.reduceToNat, Int.reduceNeg, Int.reducePow, Nat.min_def, Int.natCast_add, Int.natCast_mul, Int.cast_ofNat_Int, Int.natCast_one, Int.natCast_zero, Int.reduceAdd, Int.reduceMul, Int.reduceSub, IntKind.bits, List.length_map, wrap_u8_mod, wrap_u32_mod, wrap_u64_mod, wrap_i64_id]; refine H2 _ _ ?_; clear H2 K2)
    refine AW_block ?_
    refine AW_loop_s 56 (fun s : Nat × Nat => [(0, bys none b), (3, rws none (Cdc.cut b)), (5, .sc (.int .i64 s.2)), (6, .sc (.int .i64 s.1))]) (fun s => h') (fun s => (Cdc.cut b).length - s.1)
      (fun s => s.1 ≤ (Cdc.cut b).length ∧ s.2 ≤ b.length ∧ (Cdc.cut b).drop s.1 = Cdc.cut (b.drop s.2)) (0, 0) rfl ⟨Nat.zero_le _, Nat.zero_le _, rfl⟩ (by simp (disch := omega) only [go_sem, bne_self_eq_false, ← List.map_drop, ← List.map_take, List.take_length, beq_self_eq_true, Int.reduceBEq, Int.reduceBNe, Int.reduceEq, eq_self, ↓reduceIte, reduceCtorEq, Nat.reduceAdd, Nat.reduceSub, Nat.reduceMul, Nat.reduceEqDiff, Int.toNat_natCast, Int.toNat_zero, Int.toNat_one, Int.reduceLE, Int.reduceLT, Nat.reduceLT, Nat.reduceLeDiff, Int.reduceToNat, Int.reduceNeg, Int.reducePow, Nat.min_def, Int.natCast_add, Int.natCast_mul, Int.cast_ofNat_Int, Int.natCast_one, Int.natCast_zero, Int.reduceAdd, Int.reduceMul, Int.reduceSub, IntKind.bits, List.length_map, wrap_u8_mod, wrap_u32_mod, wrap_u64_mod, wrap_i64_id]) (Sub.refl h') ?_
    rintro ⟨i, a⟩ ⟨h1, h2, h3⟩
    simp only at h1 h2 h3
    have hlen := Cdc.cut_len_le b
    simp (disch := omega) only [go_sem, bne_self_eq_false, ← List.map_drop, ← List.map_take, List.take_length, beq_self_eq_true, Int.reduceBEq, Int.reduceBNe, Int.reduceEq, eq_self, ↓reduceIte, reduceCtorEq, Nat.reduceAdd, Nat.reduceSub, Nat.reduceMul, Nat.reduceEqDiff, Int.toNat_natCast, Int.toNat_zero, Int.toNat_one, Int.reduceLE, Int.reduceLT, Nat.reduceLT, Nat.reduceLeDiff, Int.reduceToNat, Int.reduceNeg, Int.reducePow, Nat.min_def, Int.natCast_add, Int.natCast_mul, Int.cast_ofNat_Int, Int.natCast_one, Int.natCast_zero, Int.reduceAdd, Int.reduceMul, Int.reduceSub, IntKind.bits, List.length_map, wrap_u8_mod, wrap_u32_mod, wrap_u64_mod, wrap_i64_id]
    refine AW_k fun K2 H2 => ?_
    repeat (refine AW_k fun K3 H3 => ?_; refine AW_r ?_; simp (disch := omega) only [go_sem, bne_self_eq_false, ← List.map_drop, ← List.map_take, List.take_length, beq_self_eq_true, Int.reduceBEq, Int.reduceBNe, Int.reduceEq, eq_self, ↓reduceIte, reduceCtorEq, Nat.reduceAdd, Nat.reduceSub, Nat.reduceMul, Nat.reduceEqDiff, Int.toNat_natCast, Int.toNat_zero, Int.toNat_one, Int.reduceLE, Int.reduceLT, Nat.reduceLT, Nat.reduceLeDiff, Int.reduceToNat, Int.reduceNeg, Int.reducePow, Nat.min_def, Int.natCast_add, Int.natCast_mul, Int.cast_ofNat_Int, Int.natCast_one, Int.natCast_zero, Int.reduceAdd, Int.reduceMul, Int.reduceSub, IntKind.bits, List.length_map, wrap_u8_mod, wrap_u32_mod, wrap_u64_mod, wrap_i64_id]; refine H3 _ _ ?_; clear H3 K3)
    refine AW_if rfl (fun hlt => ?_) (fun hge' => ?_)
    · (refine AW_skip ?_; refine H2 _ _ ?_; clear H2 K2)
      simp at hlt
      have hi : i < (Cdc.cut b).length := by omega
      obtain ⟨s1, s2, s3⟩ := Cdc.cut_step hi h3
      have s4 := Cdc.nxt_gt s1 0 0
      have s5 := Cdc.nxt_le (b.drop a) 0 0
      have s6 : ∀ z ∈ b.drop a, z < 256 := fun z hz => hb z (List.mem_of_mem_drop hz)
      have s7 : (b.drop a).length = b.length - a := List.length_drop
      refine AW_k fun K2 H2 => ?_
      refine AW_block ?_
      (refine AW_k fun K3 H3 => ?_; refine AW_r ?_; simp (disch := omega) only [go_sem, bne_self_eq_false, ← List.map_drop, ← List.map_take, List.take_length, beq_self_eq_true, Int.reduceBEq, Int.reduceBNe, Int.reduceEq, eq_self, ↓reduceIte, reduceCtorEq, Nat.reduceAdd, Nat.reduceSub, Nat.reduceMul, Nat.reduceEqDiff, Int.toNat_natCast, Int.toNat_zero, Int.toNat_one, Int.reduceLE, Int.reduceLT, Nat.reduceLT, Nat.reduceLeDiff, Int.reduceToNat, Int.reduceNeg, Int.reducePow, Nat.min_def, Int.natCast_add, Int.natCast_mul, Int.cast_ofNat_Int, Int.natCast_one, Int.natCast_zero, Int.reduceAdd, Int.reduceMul, Int.reduceSub, IntKind.bits, List.length_map, wrap_u8_mod, wrap_u32_mod, wrap_u64_mod, wrap_i64_id])
      refine ⟨by omega, ?_⟩
      refine AOps_call rfl rfl rfl (by kernel_rfl) ?_
      refine ACalls.mono (next_any none (b.drop a) h' (by omega) s6) ?_
      rintro x h'' ⟨rfl, rfl⟩
      refine aops_sound _ _ _ ?_
      simp (disch := omega) only [go_sem, bne_self_eq_false, ← List.map_drop, ← List.map_take, List.take_length, beq_self_eq_true, Int.reduceBEq, Int.reduceBNe, Int.reduceEq, eq_self, ↓reduceIte, reduceCtorEq, Nat.reduceAdd, Nat.reduceSub, Nat.reduceMul, Nat.reduceEqDiff, Int.toNat_natCast, Int.toNat_zero, Int.toNat_one, Int.reduceLE, Int.reduceLT, Nat.reduceLT, Nat.reduceLeDiff, Int.reduceToNat, Int.reduceNeg, Int.reducePow, Nat.min_def, Int.natCast_add, Int.natCast_mul, Int.cast_ofNat_Int, Int.natCast_one, Int.natCast_zero, Int.reduceAdd, Int.reduceMul, Int.reduceSub, IntKind.bits, List.length_map, wrap_u8_mod, wrap_u32_mod, wrap_u64_mod, wrap_i64_id]
      (refine H3 _ _ ?_; clear H3 K3)
      have hr := row_get (Cdc.cut b) i hi
      rw [s2] at hr
      have s8 : (List.take (Cdc.nxtFrom 0 0 (b.drop a)) (b.drop a)).length = Cdc.nxtFrom 0 0 (b.drop a) := by rw [List.length_take, Nat.min_eq_left (by omega)]
      refine AW_k fun K3 H3 => ?_
      have s9 : ¬ ((Cdc.nxtFrom 0 0 (b.drop a) : Nat) : Int) < 1 := by omega
      (refine AW_k fun K4 H4 => ?_; refine AW_r ?_; simp (disch := omega) only [go_sem, bne_self_eq_false, ← List.map_drop, ← List.map_take, List.take_length, beq_self_eq_true, Int.reduceBEq, Int.reduceBNe, Int.reduceEq, eq_self, ↓reduceIte, reduceCtorEq, Nat.reduceAdd, Nat.reduceSub, Nat.reduceMul, Nat.reduceEqDiff, Int.toNat_natCast, Int.toNat_zero, Int.toNat_one, Int.reduceLE, Int.reduceLT, Nat.reduceLT, Nat.reduceLeDiff, Int.reduceToNat, Int.reduceNeg, Int.reducePow, Nat.min_def, Int.natCast_add, Int.natCast_mul, Int.cast_ofNat_Int, Int.natCast_one, Int.natCast_zero, Int.reduceAdd, Int.reduceMul, Int.reduceSub, IntKind.bits, List.length_map, wrap_u8_mod, wrap_u32_mod, wrap_u64_mod, wrap_i64_id, hr, s8, s9])
      refine ⟨by omega, ?_⟩
      (refine H4 _ _ ?_; clear H4 K4)
      refine AW_if rfl (fun e => by cases e) (fun _ => ?_)
      (refine AW_skip ?_; refine H3 _ _ ?_; clear H3 K3)
      refine AW_r ?_
      simp (disch := omega) only [go_sem, bne_self_eq_false, ← List.map_drop, ← List.map_take, List.take_length, beq_self_eq_true, Int.reduceBEq, Int.reduceBNe, Int.reduceEq, eq_self, ↓reduceIte, reduceCtorEq, Nat.reduceAdd, Nat.reduceSub, Nat.reduceMul, Nat.reduceEqDiff, Int.toNat_natCast, Int.toNat_zero, Int.toNat_one, Int.reduceLE, Int.reduceLT, Nat.reduceLT, Nat.reduceLeDiff, Int.reduceToNat, Int.reduceNeg, Int.reducePow, Nat.min_def, Int.natCast_add, Int.natCast_mul, Int.cast_ofNat_Int, Int.natCast_one, Int.natCast_zero, Int.reduceAdd, Int.reduceMul, Int.reduceSub, IntKind.bits, List.length_map, wrap_u8_mod, wrap_u32_mod, wrap_u64_mod, wrap_i64_id]
      (refine H2 _ _ ?_; clear H2 K2)
      refine AW_r ?_
      simp (disch := omega) only [go_sem, bne_self_eq_false, ← List.map_drop, ← List.map_take, List.take_length, beq_self_eq_true, Int.reduceBEq, Int.reduceBNe, Int.reduceEq, eq_self, ↓reduceIte, reduceCtorEq, Nat.reduceAdd, Nat.reduceSub, Nat.reduceMul, Nat.reduceEqDiff, Int.toNat_natCast, Int.toNat_zero, Int.toNat_one, Int.reduceLE, Int.reduceLT, Nat.reduceLT, Nat.reduceLeDiff, Int.reduceToNat, Int.reduceNeg, Int.reducePow, Nat.min_def, Int.natCast_add, Int.natCast_mul, Int.cast_ofNat_Int, Int.natCast_one, Int.natCast_zero, Int.reduceAdd, Int.reduceMul, Int.reduceSub, IntKind.bits, List.length_map, wrap_u8_mod, wrap_u32_mod, wrap_u64_mod, wrap_i64_id]
      refine ⟨(i + 1, a + Cdc.nxtFrom 0 0 (b.drop a)), ⟨by omega, by simp only; omega, s3⟩, by simp only; omega, Sub.refl _, by simp (disch := omega) only [go_sem, bne_self_eq_false, ← List.map_drop, ← List.map_take, List.take_length, beq_self_eq_true, Int.reduceBEq, Int.reduceBNe, Int.reduceEq, eq_self, ↓reduceIte, reduceCtorEq, Nat.reduceAdd, Nat.reduceSub, Nat.reduceMul, Nat.reduceEqDiff, Int.toNat_natCast, Int.toNat_zero, Int.toNat_one, Int.reduceLE, Int.reduceLT, Nat.reduceLT, Nat.reduceLeDiff, Int.reduceToNat, Int.reduceNeg, Int.reducePow, Nat.min_def, Int.natCast_add, Int.natCast_mul, Int.cast_ofNat_Int, Int.natCast_one, Int.natCast_zero, Int.reduceAdd, Int.reduceMul, Int.reduceSub, IntKind.bits, List.length_map, wrap_u8_mod, wrap_u32_mod, wrap_u64_mod, wrap_i64_id]⟩
    · simp at hge'
      have hi : i = (Cdc.cut b).length := by omega
      refine AW_exit ?_
      simp only [Go.Vm.Seq, Blk, ↓reduceIte, Nat.reduceEqDiff, if_true, if_false]
      clear H2 K2
      (refine H1 _ _ ?_; clear H1 K1)
      have he : b.drop a = [] := by
        rw [hi, List.drop_length] at h3
        exact Cdc.cut_empty.1 h3.symm
      have ha : a = b.length := by
        have := congrArg List.length he
        simp at this; omega
      subst ha
      (refine AW_k fun K1 H1 => ?_; refine AW_r ?_; simp (disch := omega) only [go_sem, bne_self_eq_false, ← List.map_drop, ← List.map_take, List.take_length, beq_self_eq_true, Int.reduceBEq, Int.reduceBNe, Int.reduceEq, eq_self, ↓reduceIte, reduceCtorEq, Nat.reduceAdd, Nat.reduceSub, Nat.reduceMul, Nat.reduceEqDiff, Int.toNat_natCast, Int.toNat_zero, Int.toNat_one, Int.reduceLE, Int.reduceLT, Nat.reduceLT, Nat.reduceLeDiff, Int.reduceToNat, Int.reduceNeg, Int.reducePow, Nat.min_def, Int.natCast_add, Int.natCast_mul, Int.cast_ofNat_Int, Int.natCast_one, Int.natCast_zero, Int.reduceAdd, Int.reduceMul, Int.reduceSub, IntKind.bits, List.length_map, wrap_u8_mod, wrap_u32_mod, wrap_u64_mod, wrap_i64_id])
      refine ⟨⟨by omega, Int.le_refl _, Int.le_refl _⟩, ?_⟩
      refine AOps_call rfl rfl rfl (by kernel_rfl) ?_
      rw [List.drop_length]
      refine ACalls.mono (next_any none [] _ (by decide) (by decide)) ?_
      rintro x h'' ⟨rfl, rfl⟩
      refine aops_sound _ _ _ ?_
      simp (disch := omega) only [go_sem, bne_self_eq_false, ← List.map_drop, ← List.map_take, List.take_length, beq_self_eq_true, Int.reduceBEq, Int.reduceBNe, Int.reduceEq, eq_self, ↓reduceIte, reduceCtorEq, Nat.reduceAdd, Nat.reduceSub, Nat.reduceMul, Nat.reduceEqDiff, Int.toNat_natCast, Int.toNat_zero, Int.toNat_one, Int.reduceLE, Int.reduceLT, Nat.reduceLT, Nat.reduceLeDiff, Int.reduceToNat, Int.reduceNeg, Int.reducePow, Nat.min_def, Int.natCast_add, Int.natCast_mul, Int.cast_ofNat_Int, Int.natCast_one, Int.natCast_zero, Int.reduceAdd, Int.reduceMul, Int.reduceSub, IntKind.bits, List.length_map, wrap_u8_mod, wrap_u32_mod, wrap_u64_mod, wrap_i64_id, Cdc.nxtFrom]
      refine AOps_call rfl rfl rfl (by kernel_rfl) ?_
      refine ACalls.mono (wakes_any _) ?_
      rintro x h'' ⟨rfl, rfl⟩
      refine aops_sound _ _ _ ?_
      simp (disch := omega) only [go_sem, bne_self_eq_false, ← List.map_drop, ← List.map_take, List.take_length, beq_self_eq_true, Int.reduceBEq, Int.reduceBNe, Int.reduceEq, eq_self, ↓reduceIte, reduceCtorEq, Nat.reduceAdd, Nat.reduceSub, Nat.reduceMul, Nat.reduceEqDiff, Int.toNat_natCast, Int.toNat_zero, Int.toNat_one, Int.reduceLE, Int.reduceLT, Nat.reduceLT, Nat.reduceLeDiff, Int.reduceToNat, Int.reduceNeg, Int.reducePow, Nat.min_def, Int.natCast_add, Int.natCast_mul, Int.cast_ofNat_Int, Int.natCast_one, Int.natCast_zero, Int.reduceAdd, Int.reduceMul, Int.reduceSub, IntKind.bits, List.length_map, wrap_u8_mod, wrap_u32_mod, wrap_u64_mod, wrap_i64_id]
      (refine H1 _ _ ?_; clear H1 K1)
      (refine AW_ret ?_; refine ⟨_, _, _, rfl, Sub.refl _, ALe.refl _ _, ?_⟩)
      rfl
end Go.Proofs.Ytafflcbcpbgloaa
