import Derived.Test.YtafflcbcpbgloaaTy
import Derived.Test.YtafflcbcpbgloaaCdcPlain
set_option linter.unusedSimpArgs false
namespace Go.Proofs.Ytafflcbcpbgloaa
open Go.Vm

def by1 (n : Nat) : List AV := [.sc (.int .u8 n)]
@[go_sem] def bys (tag : Option Key) (l : List Nat) : AV := .sl tag 1 (l.map by1)
theorem by1_get (zs : List Nat) (k : Nat) (h : k < zs.length) : (zs.map by1).getD k [] = [.sc (.int .u8 (zs.getD k 0))] := by
  simp [List.getD, List.getElem?_eq_getElem h, by1]

theorem getD_lt (zs : List Nat) (k : Nat) (hb : ∀ z ∈ zs, z < 256) (h : k < zs.length) : zs.getD k 0 < 256 := by
  simp only [List.getD, List.getElem?_eq_getElem h, Option.getD_some]
  exact hb _ (List.getElem_mem h)
set_option maxRecDepth 100000 in
theorem next_any (tag : Option Key) (zs : List Nat) (h : Heap) (hm : zs.length ≤ 1000000) (hb : ∀ z ∈ zs, z < 256) : ACalls Try.prog 15 [bys tag zs] h (fun r h' => r = .sc (.int .i64 (Cdc.nxtFrom 0 0 zs)) ∧ h' = h) := by
  refine ACalls_of_AW Try.func15 rfl ?_
  rw [Try.ntmps15]
  simp (disch := omega) only [go_sem, bne_self_eq_false, ← List.map_drop, ← List.map_take, List.take_length, beq_self_eq_true, Int.reduceBEq, Int.reduceBNe, Int.reduceEq, eq_self, ↓reduceIte, reduceCtorEq, Nat.reduceAdd, Nat.reduceSub, Nat.reduceMul, Nat.reduceEqDiff, Int.toNat_natCast, Int.toNat_zero, Int.toNat_one, Int.reduceLE, Int.reduceLT, Nat.reduceLT, Nat.reduceLeDiff, Int.reduceToNat, Int.reduceNeg, Int.reducePow, Nat.min_def, Int.natCast_add, Int.natCast_mul, Int.cast_ofNat_Int, Int.natCast_one, Int.natCast_zero, Int.reduceAdd, Int.reduceMul, Int.reduceSub, IntKind.bits, List.length_map, wrap_u8_mod, wrap_u32_mod, wrap_u64_mod, wrap_i64_id]
  repeat (refine AW_k fun K1 H1 => ?_; refine AW_r ?_; simp (disch := omega) only [go_sem, bne_self_eq_false, ← List.map_drop, ← List.map_take, List.take_length, beq_self_eq_true, Int.reduceBEq, Int.reduceBNe, Int.reduceEq, eq_self, ↓reduceIte, reduceCtorEq, Nat.reduceAdd, Nat.reduceSub, Nat.reduceMul, Nat.reduceEqDiff, Int.toNat_natCast, Int.toNat_zero, Int.toNat_one, Int.reduceLE, Int.reduceLT, Nat.reduceLT, Nat.reduceLeDiff, Int.reduceToNat, Int.reduceNeg, Int.reducePow, Nat.min_def, Int.natCast_add, Int.natCast_mul, Int.cast_ofNat_Int, Int.natCast_one, Int.natCast_zero, Int.reduceAdd, Int.reduceMul, Int.reduceSub, IntKind.bits, List.length_map, wrap_u8_mod, wrap_u32_mod, wrap_u64_mod, wrap_i64_id, List.length_map]; refine H1 _ _ ?_; clear H1 K1)
  refine AW_k fun K1 H1 => ?_
  repeat (refine AW_k fun K2 H2 => ?_; refine AW_r ?_; simp (disch := omega) only [go_sem, bne_self_eq_false, ← List.map_drop, ← List.map_take, List.take_length, beq_self_eq_true, Int.reduceBEq, Int.reduceBNe, Int.reduceEq, eq_self, ↓reduceIte, reduceCtorEq, Nat.reduceAdd, Nat.reduceSub, Nat.reduceMul, Nat.reduceEqDiff, Int.toNat_natCast, Int.toNat_zero, Int.toNat_one, Int.reduceLE, Int.reduceLT, Nat.reduceLT, Nat.reduceLeDiff, Int.reduceToNat, Int.reduceNeg, Int.reducePow, Nat.min_def, Int.natCast_add, Int.natCast_mul, Int.cast_ofNat_Int, Int.natCast_one, Int.natCast_zero, Int.reduceAdd, Int.reduceMul, Int.reduceSub, IntKind.bits, List.length_map, wrap_u8_mod, wrap_u32_mod, wrap_u64_mod, wrap_i64_id, List.length_map]; refine H2 _ _ ?_; clear H2 K2)
  refine AW_block ?_
  refine AW_loop_s 38 (fun s : Nat × Nat => [(0, bys tag zs), (3, .sc (.int .u32 s.2)), (7, bys tag zs), (8, .sc (.int .i64 zs.length)), (9, .sc (.int .i64 s.1))]) (fun _ => h) (fun s => zs.length - s.1)
    (fun s => s.1 ≤ zs.length ∧ s.2 < 4294967296 ∧ Cdc.nxtFrom 0 0 zs = Cdc.nxtFrom s.2 s.1 (zs.drop s.1)) (0, 0) rfl ⟨Nat.zero_le _, by omega, rfl⟩ (by simp (disch := omega) only [go_sem, bne_self_eq_false, ← List.map_drop, ← List.map_take, List.take_length, beq_self_eq_true, Int.reduceBEq, Int.reduceBNe, Int.reduceEq, eq_self, ↓reduceIte, reduceCtorEq, Nat.reduceAdd, Nat.reduceSub, Nat.reduceMul, Nat.reduceEqDiff, Int.toNat_natCast, Int.toNat_zero, Int.toNat_one, Int.reduceLE, Int.reduceLT, Nat.reduceLT, Nat.reduceLeDiff, Int.reduceToNat, Int.reduceNeg, Int.reducePow, Nat.min_def, Int.natCast_add, Int.natCast_mul, Int.cast_ofNat_Int, Int.natCast_one, Int.natCast_zero, Int.reduceAdd, Int.reduceMul, Int.reduceSub, IntKind.bits, List.length_map, wrap_u8_mod, wrap_u32_mod, wrap_u64_mod, wrap_i64_id]) (Sub.refl h) ?_
  rintro ⟨k, q⟩ ⟨h1, h2, h3⟩
  simp only at h1 h2 h3
  simp (disch := omega) only [go_sem, bne_self_eq_false, ← List.map_drop, ← List.map_take, List.take_length, beq_self_eq_true, Int.reduceBEq, Int.reduceBNe, Int.reduceEq, eq_self, ↓reduceIte, reduceCtorEq, Nat.reduceAdd, Nat.reduceSub, Nat.reduceMul, Nat.reduceEqDiff, Int.toNat_natCast, Int.toNat_zero, Int.toNat_one, Int.reduceLE, Int.reduceLT, Nat.reduceLT, Nat.reduceLeDiff, Int.reduceToNat, Int.reduceNeg, Int.reducePow, Nat.min_def, Int.natCast_add, Int.natCast_mul, Int.cast_ofNat_Int, Int.natCast_one, Int.natCast_zero, Int.reduceAdd, Int.reduceMul, Int.reduceSub, IntKind.bits, List.length_map, wrap_u8_mod, wrap_u32_mod, wrap_u64_mod, wrap_i64_id]
  repeat (refine AW_k fun K2 H2 => ?_; refine AW_r ?_; simp (disch := omega) only [go_sem, bne_self_eq_false, ← List.map_drop, ← List.map_take, List.take_length, beq_self_eq_true, Int.reduceBEq, Int.reduceBNe, Int.reduceEq, eq_self, ↓reduceIte, reduceCtorEq, Nat.reduceAdd, Nat.reduceSub, Nat.reduceMul, Nat.reduceEqDiff, Int.toNat_natCast, Int.toNat_zero, Int.toNat_one, Int.reduceLE, Int.reduceLT, Nat.reduceLT, Nat.reduceLeDiff, Int.reduceToNat, Int.reduceNeg, Int.reducePow, Nat.min_def, Int.natCast_add, Int.natCast_mul, Int.cast_ofNat_Int, Int.natCast_one, Int.natCast_zero, Int.reduceAdd, Int.reduceMul, Int.reduceSub, IntKind.bits, List.length_map, wrap_u8_mod, wrap_u32_mod, wrap_u64_mod, wrap_i64_id]; refine H2 _ _ ?_; clear H2 K2)
  refine AW_k fun K2 H2 => ?_
  refine AW_if rfl (fun hlt => ?_) (fun hge => ?_)
  · simp only [decide_eq_true_eq] at hlt
    have hlt' : k < zs.length := by omega
    refine AW_skip ?_
    refine H2 _ _ ?_
    clear H2 K2
    refine AW_k fun K2 H2 => ?_
    refine AW_block ?_
    (refine AW_k fun K3 H3 => ?_; refine AW_r ?_; simp (disch := omega) only [go_sem, bne_self_eq_false, ← List.map_drop, ← List.map_take, List.take_length, beq_self_eq_true, Int.reduceBEq, Int.reduceBNe, Int.reduceEq, eq_self, ↓reduceIte, reduceCtorEq, Nat.reduceAdd, Nat.reduceSub, Nat.reduceMul, Nat.reduceEqDiff, Int.toNat_natCast, Int.toNat_zero, Int.toNat_one, Int.reduceLE, Int.reduceLT, Nat.reduceLT, Nat.reduceLeDiff, Int.reduceToNat, Int.reduceNeg, Int.reducePow, Nat.min_def, Int.natCast_add, Int.natCast_mul, Int.cast_ofNat_Int, Int.natCast_one, Int.natCast_zero, Int.reduceAdd, Int.reduceMul, Int.reduceSub, IntKind.bits, List.length_map, wrap_u8_mod, wrap_u32_mod, wrap_u64_mod, wrap_i64_id, by1_get zs k hlt'])
    refine ⟨by omega, ?_⟩
    (refine H3 _ _ ?_; clear H3 K3)
    (refine AW_k fun K3 H3 => ?_; refine AW_r ?_; simp (disch := omega) only [go_sem, bne_self_eq_false, ← List.map_drop, ← List.map_take, List.take_length, beq_self_eq_true, Int.reduceBEq, Int.reduceBNe, Int.reduceEq, eq_self, ↓reduceIte, reduceCtorEq, Nat.reduceAdd, Nat.reduceSub, Nat.reduceMul, Nat.reduceEqDiff, Int.toNat_natCast, Int.toNat_zero, Int.toNat_one, Int.reduceLE, Int.reduceLT, Nat.reduceLT, Nat.reduceLeDiff, Int.reduceToNat, Int.reduceNeg, Int.reducePow, Nat.min_def, Int.natCast_add, Int.natCast_mul, Int.cast_ofNat_Int, Int.natCast_one, Int.natCast_zero, Int.reduceAdd, Int.reduceMul, Int.reduceSub, IntKind.bits, List.length_map, wrap_u8_mod, wrap_u32_mod, wrap_u64_mod, wrap_i64_id]; refine H3 _ _ ?_; clear H3 K3)
    (refine AW_k fun K3 H3 => ?_; refine AW_r ?_; simp (disch := omega) only [go_sem, bne_self_eq_false, ← List.map_drop, ← List.map_take, List.take_length, beq_self_eq_true, Int.reduceBEq, Int.reduceBNe, Int.reduceEq, eq_self, ↓reduceIte, reduceCtorEq, Nat.reduceAdd, Nat.reduceSub, Nat.reduceMul, Nat.reduceEqDiff, Int.toNat_natCast, Int.toNat_zero, Int.toNat_one, Int.reduceLE, Int.reduceLT, Nat.reduceLT, Nat.reduceLeDiff, Int.reduceToNat, Int.reduceNeg, Int.reducePow, Nat.min_def, Int.natCast_add, Int.natCast_mul, Int.cast_ofNat_Int, Int.natCast_one, Int.natCast_zero, Int.reduceAdd, Int.reduceMul, Int.reduceSub, IntKind.bits, List.length_map, wrap_u8_mod, wrap_u32_mod, wrap_u64_mod, wrap_i64_id]; refine H3 _ _ ?_; clear H3 K3)
    have hq := Cdc.nxt_drop q k zs k hlt'
    have hc := getD_lt zs k hb hlt'
    generalize zs.getD k 0 = c at *
    -- the new register
    have hreg : ((q : Int) * 2 % 4294967296 + ((c : Int) % 4294967296 + 1) % 4294967296 * 2654435761 % 4294967296) % 4294967296 = (Cdc.stepR q c : Nat) := by
      unfold Cdc.stepR; omega
    have hsh : ((Cdc.stepR q c : Nat) : Int).fdiv 268435456 = ((Cdc.stepR q c / 268435456 : Nat) : Int) := by
      rw [Int.fdiv_eq_ediv_of_nonneg _ (by omega)]; rfl
    have hlt2 : Cdc.stepR q c < 4294967296 := by unfold Cdc.stepR; omega
    by_cases hA : (64 : Int) ≤ (k : Int) + 1
    · (refine AW_k fun K3 H3 => ?_; refine AW_r ?_; simp (disch := omega) only [go_sem, bne_self_eq_false, ← List.map_drop, ← List.map_take, List.take_length, beq_self_eq_true, Int.reduceBEq, Int.reduceBNe, Int.reduceEq, eq_self, ↓reduceIte, reduceCtorEq, Nat.reduceAdd, Nat.reduceSub, Nat.reduceMul, Nat.reduceEqDiff, Int.toNat_natCast, Int.toNat_zero, Int.toNat_one, Int.reduceLE, Int.reduceLT, Nat.reduceLT, Nat.reduceLeDiff, Int.reduceToNat, Int.reduceNeg, Int.reducePow, Nat.min_def, Int.natCast_add, Int.natCast_mul, Int.cast_ofNat_Int, Int.natCast_one, Int.natCast_zero, Int.reduceAdd, Int.reduceMul, Int.reduceSub, IntKind.bits, List.length_map, wrap_u8_mod, wrap_u32_mod, wrap_u64_mod, wrap_i64_id, hA, hreg]; refine H3 _ _ ?_; clear H3 K3)
      refine AW_if rfl (fun _ => ?_) (fun e => by cases e)
      (refine AW_k fun K3 H3 => ?_; refine AW_r ?_; simp (disch := omega) only [go_sem, bne_self_eq_false, ← List.map_drop, ← List.map_take, List.take_length, beq_self_eq_true, Int.reduceBEq, Int.reduceBNe, Int.reduceEq, eq_self, ↓reduceIte, reduceCtorEq, Nat.reduceAdd, Nat.reduceSub, Nat.reduceMul, Nat.reduceEqDiff, Int.toNat_natCast, Int.toNat_zero, Int.toNat_one, Int.reduceLE, Int.reduceLT, Nat.reduceLT, Nat.reduceLeDiff, Int.reduceToNat, Int.reduceNeg, Int.reducePow, Nat.min_def, Int.natCast_add, Int.natCast_mul, Int.cast_ofNat_Int, Int.natCast_one, Int.natCast_zero, Int.reduceAdd, Int.reduceMul, Int.reduceSub, IntKind.bits, List.length_map, wrap_u8_mod, wrap_u32_mod, wrap_u64_mod, wrap_i64_id]; refine H3 _ _ ?_; clear H3 K3)
      refine AW_ret ?_
      refine ⟨_, _, h, rfl, Sub.refl h, ALe.refl h _, ?_, rfl⟩
      rw [h3, hq]
      have : Cdc.endsB (k + 1) (Cdc.stepR q c) = true := by simp [Cdc.endsB]; omega
      simp [this]
    · by_cases hB : (8 : Int) ≤ (k : Int) + 1
      · (refine AW_k fun K3 H3 => ?_; refine AW_r ?_; simp (disch := omega) only [go_sem, bne_self_eq_false, ← List.map_drop, ← List.map_take, List.take_length, beq_self_eq_true, Int.reduceBEq, Int.reduceBNe, Int.reduceEq, eq_self, ↓reduceIte, reduceCtorEq, Nat.reduceAdd, Nat.reduceSub, Nat.reduceMul, Nat.reduceEqDiff, Int.toNat_natCast, Int.toNat_zero, Int.toNat_one, Int.reduceLE, Int.reduceLT, Nat.reduceLT, Nat.reduceLeDiff, Int.reduceToNat, Int.reduceNeg, Int.reducePow, Nat.min_def, Int.natCast_add, Int.natCast_mul, Int.cast_ofNat_Int, Int.natCast_one, Int.natCast_zero, Int.reduceAdd, Int.reduceMul, Int.reduceSub, IntKind.bits, List.length_map, wrap_u8_mod, wrap_u32_mod, wrap_u64_mod, wrap_i64_id, hA, hB, hreg, hsh]; refine H3 _ _ ?_; clear H3 K3)
        refine AW_if rfl (fun e => ?_) (fun e => ?_)
        · (refine AW_k fun K3 H3 => ?_; refine AW_r ?_; simp (disch := omega) only [go_sem, bne_self_eq_false, ← List.map_drop, ← List.map_take, List.take_length, beq_self_eq_true, Int.reduceBEq, Int.reduceBNe, Int.reduceEq, eq_self, ↓reduceIte, reduceCtorEq, Nat.reduceAdd, Nat.reduceSub, Nat.reduceMul, Nat.reduceEqDiff, Int.toNat_natCast, Int.toNat_zero, Int.toNat_one, Int.reduceLE, Int.reduceLT, Nat.reduceLT, Nat.reduceLeDiff, Int.reduceToNat, Int.reduceNeg, Int.reducePow, Nat.min_def, Int.natCast_add, Int.natCast_mul, Int.cast_ofNat_Int, Int.natCast_one, Int.natCast_zero, Int.reduceAdd, Int.reduceMul, Int.reduceSub, IntKind.bits, List.length_map, wrap_u8_mod, wrap_u32_mod, wrap_u64_mod, wrap_i64_id]; refine H3 _ _ ?_; clear H3 K3)
          refine AW_ret ?_
          refine ⟨_, _, h, rfl, Sub.refl h, ALe.refl h _, ?_, rfl⟩
          rw [h3, hq]
          have : Cdc.endsB (k + 1) (Cdc.stepR q c) = true := by
            simp [Cdc.endsB] at e ⊢; omega
          simp [this]
        · refine AW_skip ?_
          simp only [Go.Vm.Seq, Blk, ↓reduceIte, Nat.reduceEqDiff, if_true, if_false]
          refine H2 _ _ ?_
          clear H2 K2
          refine AW_r ?_
          simp (disch := omega) only [go_sem, bne_self_eq_false, ← List.map_drop, ← List.map_take, List.take_length, beq_self_eq_true, Int.reduceBEq, Int.reduceBNe, Int.reduceEq, eq_self, ↓reduceIte, reduceCtorEq, Nat.reduceAdd, Nat.reduceSub, Nat.reduceMul, Nat.reduceEqDiff, Int.toNat_natCast, Int.toNat_zero, Int.toNat_one, Int.reduceLE, Int.reduceLT, Nat.reduceLT, Nat.reduceLeDiff, Int.reduceToNat, Int.reduceNeg, Int.reducePow, Nat.min_def, Int.natCast_add, Int.natCast_mul, Int.cast_ofNat_Int, Int.natCast_one, Int.natCast_zero, Int.reduceAdd, Int.reduceMul, Int.reduceSub, IntKind.bits, List.length_map, wrap_u8_mod, wrap_u32_mod, wrap_u64_mod, wrap_i64_id]
          refine ⟨(k + 1, Cdc.stepR q c), ⟨by simp only; omega, hlt2, ?_⟩, by simp only; omega, Sub.refl h, by simp (disch := omega) only [go_sem, bne_self_eq_false, ← List.map_drop, ← List.map_take, List.take_length, beq_self_eq_true, Int.reduceBEq, Int.reduceBNe, Int.reduceEq, eq_self, ↓reduceIte, reduceCtorEq, Nat.reduceAdd, Nat.reduceSub, Nat.reduceMul, Nat.reduceEqDiff, Int.toNat_natCast, Int.toNat_zero, Int.toNat_one, Int.reduceLE, Int.reduceLT, Nat.reduceLT, Nat.reduceLeDiff, Int.reduceToNat, Int.reduceNeg, Int.reducePow, Nat.min_def, Int.natCast_add, Int.natCast_mul, Int.cast_ofNat_Int, Int.natCast_one, Int.natCast_zero, Int.reduceAdd, Int.reduceMul, Int.reduceSub, IntKind.bits, List.length_map, wrap_u8_mod, wrap_u32_mod, wrap_u64_mod, wrap_i64_id]⟩
          rw [h3, hq]
          have : Cdc.endsB (k + 1) (Cdc.stepR q c) = false := by
            simp [Cdc.endsB] at e ⊢; omega
          simp [this]
      · (refine AW_k fun K3 H3 => ?_; refine AW_r ?_; simp (disch := omega) only [go_sem, bne_self_eq_false, ← List.map_drop, ← List.map_take, List.take_length, beq_self_eq_true, Int.reduceBEq, Int.reduceBNe, Int.reduceEq, eq_self, ↓reduceIte, reduceCtorEq, Nat.reduceAdd, Nat.reduceSub, Nat.reduceMul, Nat.reduceEqDiff, Int.toNat_natCast, Int.toNat_zero, Int.toNat_one, Int.reduceLE, Int.reduceLT, Nat.reduceLT, Nat.reduceLeDiff, Int.reduceToNat, Int.reduceNeg, Int.reducePow, Nat.min_def, Int.natCast_add, Int.natCast_mul, Int.cast_ofNat_Int, Int.natCast_one, Int.natCast_zero, Int.reduceAdd, Int.reduceMul, Int.reduceSub, IntKind.bits, List.length_map, wrap_u8_mod, wrap_u32_mod, wrap_u64_mod, wrap_i64_id, hA, hB, hreg]; refine H3 _ _ ?_; clear H3 K3)
        refine AW_if rfl (fun e => by cases e) (fun _ => ?_)
        refine AW_skip ?_
        simp only [Go.Vm.Seq, Blk, ↓reduceIte, Nat.reduceEqDiff, if_true, if_false]
        refine H2 _ _ ?_
        clear H2 K2
        refine AW_r ?_
        simp (disch := omega) only [go_sem, bne_self_eq_false, ← List.map_drop, ← List.map_take, List.take_length, beq_self_eq_true, Int.reduceBEq, Int.reduceBNe, Int.reduceEq, eq_self, ↓reduceIte, reduceCtorEq, Nat.reduceAdd, Nat.reduceSub, Nat.reduceMul, Nat.reduceEqDiff, Int.toNat_natCast, Int.toNat_zero, Int.toNat_one, Int.reduceLE, Int.reduceLT, Nat.reduceLT, Nat.reduceLeDiff, Int.reduceToNat, Int.reduceNeg, Int.reducePow, Nat.min_def, Int.natCast_add, Int.natCast_mul, Int.cast_ofNat_Int, Int.natCast_one, Int.natCast_zero, Int.reduceAdd, Int.reduceMul, Int.reduceSub, IntKind.bits, List.length_map, wrap_u8_mod, wrap_u32_mod, wrap_u64_mod, wrap_i64_id]
        refine ⟨(k + 1, Cdc.stepR q c), ⟨by simp only; omega, hlt2, ?_⟩, by simp only; omega, Sub.refl h, by simp (disch := omega) only [go_sem, bne_self_eq_false, ← List.map_drop, ← List.map_take, List.take_length, beq_self_eq_true, Int.reduceBEq, Int.reduceBNe, Int.reduceEq, eq_self, ↓reduceIte, reduceCtorEq, Nat.reduceAdd, Nat.reduceSub, Nat.reduceMul, Nat.reduceEqDiff, Int.toNat_natCast, Int.toNat_zero, Int.toNat_one, Int.reduceLE, Int.reduceLT, Nat.reduceLT, Nat.reduceLeDiff, Int.reduceToNat, Int.reduceNeg, Int.reducePow, Nat.min_def, Int.natCast_add, Int.natCast_mul, Int.cast_ofNat_Int, Int.natCast_one, Int.natCast_zero, Int.reduceAdd, Int.reduceMul, Int.reduceSub, IntKind.bits, List.length_map, wrap_u8_mod, wrap_u32_mod, wrap_u64_mod, wrap_i64_id]⟩
        rw [h3, hq]
        have : Cdc.endsB (k + 1) (Cdc.stepR q c) = false := by
          simp [Cdc.endsB]; omega
        simp [this]
  · simp only [decide_eq_false_iff_not] at hge
    refine AW_exit ?_
    simp only [Go.Vm.Seq, Blk, ↓reduceIte, Nat.reduceEqDiff, if_true, if_false]
    refine H1 _ _ ?_
    clear H1 K1 H2 K2
    repeat (refine AW_k fun K1 H1 => ?_; refine AW_r ?_; simp (disch := omega) only [go_sem, bne_self_eq_false, ← List.map_drop, ← List.map_take, List.take_length, beq_self_eq_true, Int.reduceBEq, Int.reduceBNe, Int.reduceEq, eq_self, ↓reduceIte, reduceCtorEq, Nat.reduceAdd, Nat.reduceSub, Nat.reduceMul, Nat.reduceEqDiff, Int.toNat_natCast, Int.toNat_zero, Int.toNat_one, Int.reduceLE, Int.reduceLT, Nat.reduceLT, Nat.reduceLeDiff, Int.reduceToNat, Int.reduceNeg, Int.reducePow, Nat.min_def, Int.natCast_add, Int.natCast_mul, Int.cast_ofNat_Int, Int.natCast_one, Int.natCast_zero, Int.reduceAdd, Int.reduceMul, Int.reduceSub, IntKind.bits, List.length_map, wrap_u8_mod, wrap_u32_mod, wrap_u64_mod, wrap_i64_id, List.length_map]; refine H1 _ _ ?_; clear H1 K1)
    refine AW_ret ?_
    refine ⟨_, _, h, rfl, Sub.refl h, ALe.refl h _, ?_, rfl⟩
    have : k = zs.length := by omega
    rw [h3, this]
    simp [Cdc.nxtFrom]
end Go.Proofs.Ytafflcbcpbgloaa
