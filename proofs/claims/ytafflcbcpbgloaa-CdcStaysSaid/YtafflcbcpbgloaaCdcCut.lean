import Derived.Test.YtafflcbcpbgloaaCdcClone
set_option linter.unusedSimpArgs false
namespace Go.Proofs.Ytafflcbcpbgloaa
open Go.Vm
namespace Cdc
theorem nxt_le (l : List Nat) : ∀ r n, nxtFrom r n l ≤ n + l.length := by
  induction l with
  | nil => intro r n; simp [nxtFrom]
  | cons c l ih =>
    intro r n
    simp only [nxtFrom, List.length_cons]
    split
    · omega
    · have := ih (stepR r c) (n + 1); omega
theorem nxt_ge (l : List Nat) : ∀ r n, n ≤ nxtFrom r n l := by
  induction l with
  | nil => intro r n; simp [nxtFrom]
  | cons c l ih =>
    intro r n
    simp only [nxtFrom]
    split
    · omega
    · have := ih (stepR r c) (n + 1); omega
theorem nxt_gt {l : List Nat} (h : l ≠ []) (r n : Nat) : n < nxtFrom r n l := by
  cases l with
  | nil => exact absurd rfl h
  | cons c l =>
    simp only [nxtFrom]
    split
    · omega
    · have := nxt_ge l (stepR r c) (n + 1); omega
theorem nxt_max (l : List Nat) : ∀ r n, n < 64 → nxtFrom r n l ≤ 64 := by
  induction l with
  | nil => intro r n h; simp only [nxtFrom]; omega
  | cons c l ih =>
    intro r n h
    simp only [nxtFrom]
    split
    · omega
    · rename_i e
      have : ¬ 64 ≤ n + 1 := by
        intro q; apply e; simp [endsB, q]
      exact ih _ _ (by omega)
theorem nxt_min (l : List Nat) : ∀ r n, nxtFrom r n l < 8 → nxtFrom r n l = n + l.length := by
  induction l with
  | nil => intro r n _; simp [nxtFrom]
  | cons c l ih =>
    intro r n h
    simp only [nxtFrom] at h ⊢
    split
    · rename_i e
      rw [if_pos e] at h
      simp [endsB] at e
      omega
    · rename_i e
      rw [if_neg e] at h
      rw [ih _ _ h]; simp only [List.length_cons]; omega

abbrev nxt (l : List Nat) : Nat := nxtFrom 0 0 l

def cut (l : List Nat) : List (List Nat) :=
  if h : l = [] then [] else
    have : 0 < l.length := List.length_pos_iff.2 h
    have : 0 < nxtFrom 0 0 l := nxt_gt h 0 0
    l.take (nxtFrom 0 0 l) :: cut (l.drop (nxtFrom 0 0 l))
termination_by l.length
decreasing_by rw [List.length_drop]; omega

theorem cut_nil : cut [] = [] := by rw [cut]; simp
theorem cut_cons {l : List Nat} (h : l ≠ []) : cut l = l.take (nxt l) :: cut (l.drop (nxt l)) := by rw [cut]; simp [h]

theorem cut_ind {P : List Nat → Prop} (h0 : P []) (h1 : ∀ l, l ≠ [] → P (l.drop (nxt l)) → P l) : ∀ l, P l := by
  intro l
  generalize hn : l.length = n
  induction n using Nat.strongRecOn generalizing l with
  | ind n ih =>
    by_cases e : l = []
    · rw [e]; exact h0
    · refine h1 l e (ih (l.drop (nxt l)).length ?_ _ rfl)
      have : 0 < l.length := List.length_pos_iff.2 e
      have : 0 < nxt l := nxt_gt e 0 0
      rw [List.length_drop]; omega

theorem cut_flat : ∀ l, (cut l).flatten = l := by
  refine cut_ind (by rw [cut_nil]; rfl) ?_
  intro l h ih
  rw [cut_cons h, List.flatten_cons, ih, List.take_append_drop]

theorem cut_empty {l : List Nat} : cut l = [] ↔ l = [] := by
  constructor
  · intro h
    by_cases e : l = []
    · exact e
    · rw [cut_cons e] at h; cases h
  · rintro rfl; exact cut_nil

theorem cut_len_le : ∀ l, (cut l).length ≤ l.length := by
  refine cut_ind (by rw [cut_nil]; simp) ?_
  intro l h ih
  rw [cut_cons h, List.length_cons]
  have : 0 < l.length := List.length_pos_iff.2 h
  have : 0 < nxt l := nxt_gt h 0 0
  rw [List.length_drop] at ih
  omega
end Cdc

theorem take_len_map {α β : Type} (f : α → β) (l : List α) : List.take l.length (List.map f l) = List.map f l := by
  rw [List.take_of_length_le (by simp)]
theorem upd_upd (h : Heap) (k : Key) (a b : Option Ent) : upd (upd h k a) k b = upd h k b := by
  funext x; unfold upd; split <;> rfl
@[go_sem] def rws (tag : Option Key) (ls : List (List Nat)) : AV := .sl tag 1 (ls.map fun l => [bys none l])

def Outs (h : Heap) (t : Option (Key)) (ls : List (List Nat)) (x : AV) (h' : Heap) : Prop :=
  match t with
  | none => ls = [] ∧ x = .sc (.slice none 0 0) ∧ h' = h
  | some k => h k = none ∧ x = rws (some k) ls ∧ h' = upd h k (some (.tok 22 1 ls.length))

def outX (t : Option Key) (ls : List (List Nat)) : AV := match t with
  | none => .sc (.slice none 0 0)
  | some k => rws (some k) ls
def outH (h : Heap) (t : Option Key) (ls : List (List Nat)) : Heap := match t with
  | none => h
  | some k => upd h k (some (.tok 22 1 ls.length))
@[go_sem] theorem outX_none (ls : List (List Nat)) : outX none ls = .sc (.slice none 0 0) := rfl
@[go_sem] theorem outX_some (k : Key) (ls : List (List Nat)) : outX (some k) ls = rws (some k) ls := rfl
@[go_sem] theorem outH_none (h : Heap) (ls : List (List Nat)) : outH h none ls = h := rfl
@[go_sem] theorem outH_some (h : Heap) (k : Key) (ls : List (List Nat)) : outH h (some k) ls = upd h k (some (.tok 22 1 ls.length)) := rfl

set_option maxRecDepth 100000 in
theorem cut_any (b : List Nat) (h : Heap) (hm : b.length ≤ 1000000) (hb : ∀ z ∈ b, z < 256) : ACalls Try.prog 12 [bys none b] h (fun r h' => (32768 < b.length ∧ r = .tup [.sc (.slice none 0 0), .sc (.int .i64 2)] ∧ h' = h) ∨ (b.length ≤ 32768 ∧ r = .tup [rws none (Cdc.cut b), .sc (.int .i64 0)] ∧ h' = h)) := by
  refine ACalls_of_AW Try.func12 rfl ?_; rw [Try.ntmps12]; simp (disch := omega) only [go_sem, bne_self_eq_false, ← List.map_drop, ← List.map_take, List.take_length, beq_self_eq_true, Int.reduceBEq, Int.reduceBNe, Int.reduceEq, eq_self, ↓reduceIte, reduceCtorEq, Nat.reduceAdd, Nat.reduceSub, Nat.reduceMul, Nat.reduceEqDiff, Int.toNat_natCast, Int.toNat_zero, Int.toNat_one, Int.reduceLE, Int.reduceLT, Nat.reduceLT, Nat.reduceLeDiff, Int.reduceToNat, Int.reduceNeg, Int.reducePow, Nat.min_def, Int.natCast_add, Int.natCast_mul, Int.cast_ofNat_Int, Int.natCast_one, Int.natCast_zero, Int.reduceAdd, Int.reduceMul, Int.reduceSub, IntKind.bits, List.length_map, wrap_u8_mod, wrap_u32_mod, wrap_u64_mod, wrap_i64_id]
  repeat (refine AW_k fun K1 H1 => ?_; refine AW_r ?_; (repeat (first | (refine aops_cons ?_; simp (disch := omega) only [go_sem, bne_self_eq_false, ← List.map_drop, ← List.map_take, List.take_length, beq_self_eq_true, Int.reduceBEq, Int.reduceBNe, Int.reduceEq, eq_self, ↓reduceIte, reduceCtorEq, Nat.reduceAdd, Nat.reduceSub, Nat.reduceMul, Nat.reduceEqDiff, Int.toNat_natCast, Int.toNat_zero, Int.toNat_one, Int.reduceLE, Int.reduceLT, Nat.reduceLT, Nat.reduceLeDiff, Int.reduceToNat, Int.reduceNeg, Int.reducePow, Nat.min_def, Int.natCast_add, Int.natCast_mul, Int.cast_ofNat_Int, Int.natCast_one, Int.natCast_zero, Int.reduceAdd, Int.reduceMul, Int.reduceSub, IntKind.bits, List.length_map, wrap_u8_mod, wrap_u32_mod, wrap_u64_mod, wrap_i64_id]) | (refine aqs_cons ?_; simp (disch := omega) only [go_sem, bne_self_eq_false, ← List.map_drop, ← List.map_take, List.take_length, beq_self_eq_true, Int.reduceBEq, Int.reduceBNe, Int.reduceEq, eq_self, ↓reduceIte, reduceCtorEq, Nat.reduceAdd, Nat.reduceSub, Nat.reduceMul, Nat.reduceEqDiff, Int.toNat_natCast, Int.toNat_zero, Int.toNat_one, Int.reduceLE, Int.reduceLT, Nat.reduceLT, Nat.reduceLeDiff, Int.reduceToNat, Int.reduceNeg, Int.reducePow, Nat.min_def, Int.natCast_add, Int.natCast_mul, Int.cast_ofNat_Int, Int.natCast_one, Int.natCast_zero, Int.reduceAdd, Int.reduceMul, Int.reduceSub, IntKind.bits, List.length_map, wrap_u8_mod, wrap_u32_mod, wrap_u64_mod, wrap_i64_id]) | (refine ⟨by omega, ?_⟩) | (refine aops_nil ?_; simp only [Go.Vm.Seq, Blk, ↓reduceIte, Nat.reduceEqDiff, if_true, if_false]) | (refine aqs_nil ?_; simp only [Go.Vm.Seq, Blk, ↓reduceIte, Nat.reduceEqDiff, if_true, if_false]))); refine H1 _ _ ?_; clear H1 K1)
  refine AW_k fun K1 H1 => ?_
  repeat (refine AW_k fun K2 H2 => ?_; refine AW_r ?_; (repeat (first | (refine aops_cons ?_; simp (disch := omega) only [go_sem, bne_self_eq_false, ← List.map_drop, ← List.map_take, List.take_length, beq_self_eq_true, Int.reduceBEq, Int.reduceBNe, Int.reduceEq, eq_self, ↓reduceIte, reduceCtorEq, Nat.reduceAdd, Nat.reduceSub, Nat.reduceMul, Nat.reduceEqDiff, Int.toNat_natCast, Int.toNat_zero, Int.toNat_one, Int.reduceLE, Int.reduceLT, Nat.reduceLT, Nat.reduceLeDiff, Int.reduceToNat, Int.reduceNeg, Int.reducePow, Nat.min_def, Int.natCast_add, Int.natCast_mul, Int.cast_ofNat_Int, Int.natCast_one, Int.natCast_zero, Int.reduceAdd, Int.reduceMul, Int.reduceSub, IntKind.bits, List.length_map, wrap_u8_mod, wrap_u32_mod, wrap_u64_mod, wrap_i64_id]) | (refine aqs_cons ?_; simp (disch := omega) only [go_sem, bne_self_eq_false, ← List.map_drop, ← List.map_take, List.take_length, beq_self_eq_true, Int.reduceBEq, Int.reduceBNe, Int.reduceEq, eq_self, ↓reduceIte, reduceCtorEq, Nat.reduceAdd, Nat.reduceSub, Nat.reduceMul, Nat.reduceEqDiff, Int.toNat_natCast, Int.toNat_zero, Int.toNat_one, Int.reduceLE, Int.reduceLT, Nat.reduceLT, Nat.reduceLeDiff, Int.reduceToNat, Int.reduceNeg, Int.reducePow, Nat.min_def, Int.natCast_add, Int.natCast_mul, Int.cast_ofNat_Int, Int.natCast_one, Int.natCast_zero, Int.reduceAdd, Int.reduceMul, Int.reduceSub, IntKind.bits, List.length_map, wrap_u8_mod, wrap_u32_mod, wrap_u64_mod, wrap_i64_id]) | (refine ⟨by omega, ?_⟩) | (refine aops_nil ?_; simp only [Go.Vm.Seq, Blk, ↓reduceIte, Nat.reduceEqDiff, if_true, if_false]) | (refine aqs_nil ?_; simp only [Go.Vm.Seq, Blk, ↓reduceIte, Nat.reduceEqDiff, if_true, if_false]))); refine H2 _ _ ?_; clear H2 K2)
  refine AW_if rfl (fun hlt => ?_) (fun hge => ?_)
  · repeat (refine AW_k fun K2 H2 => ?_; refine AW_r ?_; (repeat (first | (refine aops_cons ?_; simp (disch := omega) only [go_sem, bne_self_eq_false, ← List.map_drop, ← List.map_take, List.take_length, beq_self_eq_true, Int.reduceBEq, Int.reduceBNe, Int.reduceEq, eq_self, ↓reduceIte, reduceCtorEq, Nat.reduceAdd, Nat.reduceSub, Nat.reduceMul, Nat.reduceEqDiff, Int.toNat_natCast, Int.toNat_zero, Int.toNat_one, Int.reduceLE, Int.reduceLT, Nat.reduceLT, Nat.reduceLeDiff, Int.reduceToNat, Int.reduceNeg, Int.reducePow, Nat.min_def, Int.natCast_add, Int.natCast_mul, Int.cast_ofNat_Int, Int.natCast_one, Int.natCast_zero, Int.reduceAdd, Int.reduceMul, Int.reduceSub, IntKind.bits, List.length_map, wrap_u8_mod, wrap_u32_mod, wrap_u64_mod, wrap_i64_id]) | (refine aqs_cons ?_; simp (disch := omega) only [go_sem, bne_self_eq_false, ← List.map_drop, ← List.map_take, List.take_length, beq_self_eq_true, Int.reduceBEq, Int.reduceBNe, Int.reduceEq, eq_self, ↓reduceIte, reduceCtorEq, Nat.reduceAdd, Nat.reduceSub, Nat.reduceMul, Nat.reduceEqDiff, Int.toNat_natCast, Int.toNat_zero, Int.toNat_one, Int.reduceLE, Int.reduceLT, Nat.reduceLT, Nat.reduceLeDiff, Int.reduceToNat, Int.reduceNeg, Int.reducePow, Nat.min_def, Int.natCast_add, Int.natCast_mul, Int.cast_ofNat_Int, Int.natCast_one, Int.natCast_zero, Int.reduceAdd, Int.reduceMul, Int.reduceSub, IntKind.bits, List.length_map, wrap_u8_mod, wrap_u32_mod, wrap_u64_mod, wrap_i64_id]) | (refine ⟨by omega, ?_⟩) | (refine aops_nil ?_; simp only [Go.Vm.Seq, Blk, ↓reduceIte, Nat.reduceEqDiff, if_true, if_false]) | (refine aqs_nil ?_; simp only [Go.Vm.Seq, Blk, ↓reduceIte, Nat.reduceEqDiff, if_true, if_false]))); refine H2 _ _ ?_; clear H2 K2)
    (refine AW_ret ?_; refine ⟨_, _, _, rfl, Sub.refl _, ALe.refl _ _, ?_⟩)
    simp at hlt
    exact .inl ⟨by omega, rfl, rfl⟩
  · (refine AW_skip ?_; refine H1 _ _ ?_; clear H1 K1)
    simp at hge
    repeat (refine AW_k fun K1 H1 => ?_; refine AW_r ?_; (repeat (first | (refine aops_cons ?_; simp (disch := omega) only [go_sem, bne_self_eq_false, ← List.map_drop, ← List.map_take, List.take_length, beq_self_eq_true, Int.reduceBEq, Int.reduceBNe, Int.reduceEq, eq_self, ↓reduceIte, reduceCtorEq, Nat.reduceAdd, Nat.reduceSub, Nat.reduceMul, Nat.reduceEqDiff, Int.toNat_natCast, Int.toNat_zero, Int.toNat_one, Int.reduceLE, Int.reduceLT, Nat.reduceLT, Nat.reduceLeDiff, Int.reduceToNat, Int.reduceNeg, Int.reducePow, Nat.min_def, Int.natCast_add, Int.natCast_mul, Int.cast_ofNat_Int, Int.natCast_one, Int.natCast_zero, Int.reduceAdd, Int.reduceMul, Int.reduceSub, IntKind.bits, List.length_map, wrap_u8_mod, wrap_u32_mod, wrap_u64_mod, wrap_i64_id]) | (refine aqs_cons ?_; simp (disch := omega) only [go_sem, bne_self_eq_false, ← List.map_drop, ← List.map_take, List.take_length, beq_self_eq_true, Int.reduceBEq, Int.reduceBNe, Int.reduceEq, eq_self, ↓reduceIte, reduceCtorEq, Nat.reduceAdd, Nat.reduceSub, Nat.reduceMul, Nat.reduceEqDiff, Int.toNat_natCast, Int.toNat_zero, Int.toNat_one, Int.reduceLE, Int.reduceLT, Nat.reduceLT, Nat.reduceLeDiff, Int.reduceToNat, Int.reduceNeg, Int.reducePow, Nat.min_def, Int.natCast_add, Int.natCast_mul, Int.cast_ofNat_Int, Int.natCast_one, Int.natCast_zero, Int.reduceAdd, Int.reduceMul, Int.reduceSub, IntKind.bits, List.length_map, wrap_u8_mod, wrap_u32_mod, wrap_u64_mod, wrap_i64_id]) | (refine ⟨by omega, ?_⟩) | (refine aops_nil ?_; simp only [Go.Vm.Seq, Blk, ↓reduceIte, Nat.reduceEqDiff, if_true, if_false]) | (refine aqs_nil ?_; simp only [Go.Vm.Seq, Blk, ↓reduceIte, Nat.reduceEqDiff, if_true, if_false]))); refine H1 _ _ ?_; clear H1 K1)
    refine AW_k fun K1 H1 => ?_
    refine AW_block ?_
    refine AW_loop_s 25 (fun s : Option Key × List (List Nat) × List Nat => [(0, bys none s.2.2), (4, outX s.1 s.2.1)]) (fun s => outH h s.1 s.2.1) (fun s => s.2.2.length)
      (fun s => s.2.2.length ≤ b.length ∧ (∀ z ∈ s.2.2, z < 256) ∧ Cdc.cut b = s.2.1 ++ Cdc.cut s.2.2 ∧ s.2.1.length ≤ 1000000 - s.2.2.length ∧ (s.1 = none → s.2.1 = []) ∧ (∀ k, s.1 = some k → h k = none)) (none, [], b) rfl ⟨Nat.le_refl _, hb, rfl, by simp, fun _ => rfl, by simp⟩ (by simp (disch := omega) only [go_sem, bne_self_eq_false, ← List.map_drop, ← List.map_take, List.take_length, beq_self_eq_true, Int.reduceBEq, Int.reduceBNe, Int.reduceEq, eq_self, ↓reduceIte, reduceCtorEq, Nat.reduceAdd, Nat.reduceSub, Nat.reduceMul, Nat.reduceEqDiff, Int.toNat_natCast, Int.toNat_zero, Int.toNat_one, Int.reduceLE, Int.reduceLT, Nat.reduceLT, Nat.reduceLeDiff, Int.reduceToNat, Int.reduceNeg, Int.reducePow, Nat.min_def, Int.natCast_add, Int.natCast_mul, Int.cast_ofNat_Int, Int.natCast_one, Int.natCast_zero, Int.reduceAdd, Int.reduceMul, Int.reduceSub, IntKind.bits, List.length_map, wrap_u8_mod, wrap_u32_mod, wrap_u64_mod, wrap_i64_id]) (Sub.refl h) ?_
    rintro ⟨t, done, l⟩ ⟨h1, h2, h3, h4, h5, h6⟩
    simp only at h1 h2 h3 h4 h5 h6
    simp (disch := omega) only [go_sem, bne_self_eq_false, ← List.map_drop, ← List.map_take, List.take_length, beq_self_eq_true, Int.reduceBEq, Int.reduceBNe, Int.reduceEq, eq_self, ↓reduceIte, reduceCtorEq, Nat.reduceAdd, Nat.reduceSub, Nat.reduceMul, Nat.reduceEqDiff, Int.toNat_natCast, Int.toNat_zero, Int.toNat_one, Int.reduceLE, Int.reduceLT, Nat.reduceLT, Nat.reduceLeDiff, Int.reduceToNat, Int.reduceNeg, Int.reducePow, Nat.min_def, Int.natCast_add, Int.natCast_mul, Int.cast_ofNat_Int, Int.natCast_one, Int.natCast_zero, Int.reduceAdd, Int.reduceMul, Int.reduceSub, IntKind.bits, List.length_map, wrap_u8_mod, wrap_u32_mod, wrap_u64_mod, wrap_i64_id]
    refine AW_k fun K2 H2 => ?_
    repeat (refine AW_k fun K3 H3 => ?_; refine AW_r ?_; (repeat (first | (refine aops_cons ?_; simp (disch := omega) only [go_sem, bne_self_eq_false, ← List.map_drop, ← List.map_take, List.take_length, beq_self_eq_true, Int.reduceBEq, Int.reduceBNe, Int.reduceEq, eq_self, ↓reduceIte, reduceCtorEq, Nat.reduceAdd, Nat.reduceSub, Nat.reduceMul, Nat.reduceEqDiff, Int.toNat_natCast, Int.toNat_zero, Int.toNat_one, Int.reduceLE, Int.reduceLT, Nat.reduceLT, Nat.reduceLeDiff, Int.reduceToNat, Int.reduceNeg, Int.reducePow, Nat.min_def, Int.natCast_add, Int.natCast_mul, Int.cast_ofNat_Int, Int.natCast_one, Int.natCast_zero, Int.reduceAdd, Int.reduceMul, Int.reduceSub, IntKind.bits, List.length_map, wrap_u8_mod, wrap_u32_mod, wrap_u64_mod, wrap_i64_id]) | (refine aqs_cons ?_; simp (disch := omega) only [go_sem, bne_self_eq_false, ← List.map_drop, ← List.map_take, List.take_length, beq_self_eq_true, Int.reduceBEq, Int.reduceBNe, Int.reduceEq, eq_self, ↓reduceIte, reduceCtorEq, Nat.reduceAdd, Nat.reduceSub, Nat.reduceMul, Nat.reduceEqDiff, Int.toNat_natCast, Int.toNat_zero, Int.toNat_one, Int.reduceLE, Int.reduceLT, Nat.reduceLT, Nat.reduceLeDiff, Int.reduceToNat, Int.reduceNeg, Int.reducePow, Nat.min_def, Int.natCast_add, Int.natCast_mul, Int.cast_ofNat_Int, Int.natCast_one, Int.natCast_zero, Int.reduceAdd, Int.reduceMul, Int.reduceSub, IntKind.bits, List.length_map, wrap_u8_mod, wrap_u32_mod, wrap_u64_mod, wrap_i64_id]) | (refine ⟨by omega, ?_⟩) | (refine aops_nil ?_; simp only [Go.Vm.Seq, Blk, ↓reduceIte, Nat.reduceEqDiff, if_true, if_false]) | (refine aqs_nil ?_; simp only [Go.Vm.Seq, Blk, ↓reduceIte, Nat.reduceEqDiff, if_true, if_false]))); refine H3 _ _ ?_; clear H3 K3)
    refine AW_if rfl (fun hlt => ?_) (fun hge => ?_)
    · (refine AW_skip ?_; refine H2 _ _ ?_; clear H2 K2)
      have hl : l ≠ [] := by rintro rfl; simp at hlt
      have hn := Cdc.nxt_gt hl 0 0
      have hn' := Cdc.nxt_le l 0 0
      have hc := Cdc.cut_cons hl
      refine AW_block ?_
      (refine AW_k fun K2 H2 => ?_; refine AW_r ?_; (repeat (first | (refine aops_cons ?_; simp (disch := omega) only [go_sem, bne_self_eq_false, ← List.map_drop, ← List.map_take, List.take_length, beq_self_eq_true, Int.reduceBEq, Int.reduceBNe, Int.reduceEq, eq_self, ↓reduceIte, reduceCtorEq, Nat.reduceAdd, Nat.reduceSub, Nat.reduceMul, Nat.reduceEqDiff, Int.toNat_natCast, Int.toNat_zero, Int.toNat_one, Int.reduceLE, Int.reduceLT, Nat.reduceLT, Nat.reduceLeDiff, Int.reduceToNat, Int.reduceNeg, Int.reducePow, Nat.min_def, Int.natCast_add, Int.natCast_mul, Int.cast_ofNat_Int, Int.natCast_one, Int.natCast_zero, Int.reduceAdd, Int.reduceMul, Int.reduceSub, IntKind.bits, List.length_map, wrap_u8_mod, wrap_u32_mod, wrap_u64_mod, wrap_i64_id]) | (refine aqs_cons ?_; simp (disch := omega) only [go_sem, bne_self_eq_false, ← List.map_drop, ← List.map_take, List.take_length, beq_self_eq_true, Int.reduceBEq, Int.reduceBNe, Int.reduceEq, eq_self, ↓reduceIte, reduceCtorEq, Nat.reduceAdd, Nat.reduceSub, Nat.reduceMul, Nat.reduceEqDiff, Int.toNat_natCast, Int.toNat_zero, Int.toNat_one, Int.reduceLE, Int.reduceLT, Nat.reduceLT, Nat.reduceLeDiff, Int.reduceToNat, Int.reduceNeg, Int.reducePow, Nat.min_def, Int.natCast_add, Int.natCast_mul, Int.cast_ofNat_Int, Int.natCast_one, Int.natCast_zero, Int.reduceAdd, Int.reduceMul, Int.reduceSub, IntKind.bits, List.length_map, wrap_u8_mod, wrap_u32_mod, wrap_u64_mod, wrap_i64_id]) | (refine ⟨by omega, ?_⟩) | (refine aops_nil ?_; simp only [Go.Vm.Seq, Blk, ↓reduceIte, Nat.reduceEqDiff, if_true, if_false]) | (refine aqs_nil ?_; simp only [Go.Vm.Seq, Blk, ↓reduceIte, Nat.reduceEqDiff, if_true, if_false]))))
      refine AOps_call rfl rfl rfl (by kernel_rfl) ?_
      simp (disch := omega) only [go_sem, bne_self_eq_false, ← List.map_drop, ← List.map_take, List.take_length, beq_self_eq_true, Int.reduceBEq, Int.reduceBNe, Int.reduceEq, eq_self, ↓reduceIte, reduceCtorEq, Nat.reduceAdd, Nat.reduceSub, Nat.reduceMul, Nat.reduceEqDiff, Int.toNat_natCast, Int.toNat_zero, Int.toNat_one, Int.reduceLE, Int.reduceLT, Nat.reduceLT, Nat.reduceLeDiff, Int.reduceToNat, Int.reduceNeg, Int.reducePow, Nat.min_def, Int.natCast_add, Int.natCast_mul, Int.cast_ofNat_Int, Int.natCast_one, Int.natCast_zero, Int.reduceAdd, Int.reduceMul, Int.reduceSub, IntKind.bits, List.length_map, wrap_u8_mod, wrap_u32_mod, wrap_u64_mod, wrap_i64_id]
      refine (next_any none l (outH h t done) (by omega) h2).mono ?_
      rintro x h' ⟨rfl, rfl⟩
      (refine aops_sound _ _ _ ?_; (repeat (first | (refine aops_cons ?_; simp (disch := omega) only [go_sem, bne_self_eq_false, ← List.map_drop, ← List.map_take, List.take_length, beq_self_eq_true, Int.reduceBEq, Int.reduceBNe, Int.reduceEq, eq_self, ↓reduceIte, reduceCtorEq, Nat.reduceAdd, Nat.reduceSub, Nat.reduceMul, Nat.reduceEqDiff, Int.toNat_natCast, Int.toNat_zero, Int.toNat_one, Int.reduceLE, Int.reduceLT, Nat.reduceLT, Nat.reduceLeDiff, Int.reduceToNat, Int.reduceNeg, Int.reducePow, Nat.min_def, Int.natCast_add, Int.natCast_mul, Int.cast_ofNat_Int, Int.natCast_one, Int.natCast_zero, Int.reduceAdd, Int.reduceMul, Int.reduceSub, IntKind.bits, List.length_map, wrap_u8_mod, wrap_u32_mod, wrap_u64_mod, wrap_i64_id]) | (refine aqs_cons ?_; simp (disch := omega) only [go_sem, bne_self_eq_false, ← List.map_drop, ← List.map_take, List.take_length, beq_self_eq_true, Int.reduceBEq, Int.reduceBNe, Int.reduceEq, eq_self, ↓reduceIte, reduceCtorEq, Nat.reduceAdd, Nat.reduceSub, Nat.reduceMul, Nat.reduceEqDiff, Int.toNat_natCast, Int.toNat_zero, Int.toNat_one, Int.reduceLE, Int.reduceLT, Nat.reduceLT, Nat.reduceLeDiff, Int.reduceToNat, Int.reduceNeg, Int.reducePow, Nat.min_def, Int.natCast_add, Int.natCast_mul, Int.cast_ofNat_Int, Int.natCast_one, Int.natCast_zero, Int.reduceAdd, Int.reduceMul, Int.reduceSub, IntKind.bits, List.length_map, wrap_u8_mod, wrap_u32_mod, wrap_u64_mod, wrap_i64_id]) | (refine ⟨by omega, ?_⟩) | (refine aops_nil ?_; simp only [Go.Vm.Seq, Blk, ↓reduceIte, Nat.reduceEqDiff, if_true, if_false]) | (refine aqs_nil ?_; simp only [Go.Vm.Seq, Blk, ↓reduceIte, Nat.reduceEqDiff, if_true, if_false]))))
      (refine H2 _ _ ?_; clear H2 K2)
      have hcl := clone_frozen none (l.take (Cdc.nxtFrom 0 0 l)) (outH h t done) (by rw [List.length_take]; omega)
      (refine AW_k fun K2 H2 => ?_; refine AW_r ?_; (repeat (first | (refine aops_cons ?_; simp (disch := omega) only [go_sem, bne_self_eq_false, ← List.map_drop, ← List.map_take, List.take_length, beq_self_eq_true, Int.reduceBEq, Int.reduceBNe, Int.reduceEq, eq_self, ↓reduceIte, reduceCtorEq, Nat.reduceAdd, Nat.reduceSub, Nat.reduceMul, Nat.reduceEqDiff, Int.toNat_natCast, Int.toNat_zero, Int.toNat_one, Int.reduceLE, Int.reduceLT, Nat.reduceLT, Nat.reduceLeDiff, Int.reduceToNat, Int.reduceNeg, Int.reducePow, Nat.min_def, Int.natCast_add, Int.natCast_mul, Int.cast_ofNat_Int, Int.natCast_one, Int.natCast_zero, Int.reduceAdd, Int.reduceMul, Int.reduceSub, IntKind.bits, List.length_map, wrap_u8_mod, wrap_u32_mod, wrap_u64_mod, wrap_i64_id]) | (refine aqs_cons ?_; simp (disch := omega) only [go_sem, bne_self_eq_false, ← List.map_drop, ← List.map_take, List.take_length, beq_self_eq_true, Int.reduceBEq, Int.reduceBNe, Int.reduceEq, eq_self, ↓reduceIte, reduceCtorEq, Nat.reduceAdd, Nat.reduceSub, Nat.reduceMul, Nat.reduceEqDiff, Int.toNat_natCast, Int.toNat_zero, Int.toNat_one, Int.reduceLE, Int.reduceLT, Nat.reduceLT, Nat.reduceLeDiff, Int.reduceToNat, Int.reduceNeg, Int.reducePow, Nat.min_def, Int.natCast_add, Int.natCast_mul, Int.cast_ofNat_Int, Int.natCast_one, Int.natCast_zero, Int.reduceAdd, Int.reduceMul, Int.reduceSub, IntKind.bits, List.length_map, wrap_u8_mod, wrap_u32_mod, wrap_u64_mod, wrap_i64_id]) | (refine ⟨by omega, ?_⟩) | (refine aops_nil ?_; simp only [Go.Vm.Seq, Blk, ↓reduceIte, Nat.reduceEqDiff, if_true, if_false]) | (refine aqs_nil ?_; simp only [Go.Vm.Seq, Blk, ↓reduceIte, Nat.reduceEqDiff, if_true, if_false]))))
      refine AOps_call rfl rfl rfl (by kernel_rfl) ?_
      simp (disch := omega) only [go_sem, bne_self_eq_false, ← List.map_drop, ← List.map_take, List.take_length, beq_self_eq_true, Int.reduceBEq, Int.reduceBNe, Int.reduceEq, eq_self, ↓reduceIte, reduceCtorEq, Nat.reduceAdd, Nat.reduceSub, Nat.reduceMul, Nat.reduceEqDiff, Int.toNat_natCast, Int.toNat_zero, Int.toNat_one, Int.reduceLE, Int.reduceLT, Nat.reduceLT, Nat.reduceLeDiff, Int.reduceToNat, Int.reduceNeg, Int.reducePow, Nat.min_def, Int.natCast_add, Int.natCast_mul, Int.cast_ofNat_Int, Int.natCast_one, Int.natCast_zero, Int.reduceAdd, Int.reduceMul, Int.reduceSub, IntKind.bits, List.length_map, wrap_u8_mod, wrap_u32_mod, wrap_u64_mod, wrap_i64_id]
      refine ACalls.mono hcl ?_
      rintro x h' ⟨rfl, rfl⟩
      (refine aops_sound _ _ _ ?_; (repeat (first | (refine aops_cons ?_; simp (disch := omega) only [go_sem, bne_self_eq_false, ← List.map_drop, ← List.map_take, List.take_length, beq_self_eq_true, Int.reduceBEq, Int.reduceBNe, Int.reduceEq, eq_self, ↓reduceIte, reduceCtorEq, Nat.reduceAdd, Nat.reduceSub, Nat.reduceMul, Nat.reduceEqDiff, Int.toNat_natCast, Int.toNat_zero, Int.toNat_one, Int.reduceLE, Int.reduceLT, Nat.reduceLT, Nat.reduceLeDiff, Int.reduceToNat, Int.reduceNeg, Int.reducePow, Nat.min_def, Int.natCast_add, Int.natCast_mul, Int.cast_ofNat_Int, Int.natCast_one, Int.natCast_zero, Int.reduceAdd, Int.reduceMul, Int.reduceSub, IntKind.bits, List.length_map, wrap_u8_mod, wrap_u32_mod, wrap_u64_mod, wrap_i64_id]) | (refine aqs_cons ?_; simp (disch := omega) only [go_sem, bne_self_eq_false, ← List.map_drop, ← List.map_take, List.take_length, beq_self_eq_true, Int.reduceBEq, Int.reduceBNe, Int.reduceEq, eq_self, ↓reduceIte, reduceCtorEq, Nat.reduceAdd, Nat.reduceSub, Nat.reduceMul, Nat.reduceEqDiff, Int.toNat_natCast, Int.toNat_zero, Int.toNat_one, Int.reduceLE, Int.reduceLT, Nat.reduceLT, Nat.reduceLeDiff, Int.reduceToNat, Int.reduceNeg, Int.reducePow, Nat.min_def, Int.natCast_add, Int.natCast_mul, Int.cast_ofNat_Int, Int.natCast_one, Int.natCast_zero, Int.reduceAdd, Int.reduceMul, Int.reduceSub, IntKind.bits, List.length_map, wrap_u8_mod, wrap_u32_mod, wrap_u64_mod, wrap_i64_id]) | (refine ⟨by omega, ?_⟩) | (refine aops_nil ?_; simp only [Go.Vm.Seq, Blk, ↓reduceIte, Nat.reduceEqDiff, if_true, if_false]) | (refine aqs_nil ?_; simp only [Go.Vm.Seq, Blk, ↓reduceIte, Nat.reduceEqDiff, if_true, if_false]))))
      refine AOps_plain rfl (AOp_lit rfl Ty.et24 rfl (by decide) rfl rfl ?_)
      (refine aops_sound _ _ _ ?_; (repeat (first | (refine aops_cons ?_; simp (disch := omega) only [go_sem, bne_self_eq_false, ← List.map_drop, ← List.map_take, List.take_length, beq_self_eq_true, Int.reduceBEq, Int.reduceBNe, Int.reduceEq, eq_self, ↓reduceIte, reduceCtorEq, Nat.reduceAdd, Nat.reduceSub, Nat.reduceMul, Nat.reduceEqDiff, Int.toNat_natCast, Int.toNat_zero, Int.toNat_one, Int.reduceLE, Int.reduceLT, Nat.reduceLT, Nat.reduceLeDiff, Int.reduceToNat, Int.reduceNeg, Int.reducePow, Nat.min_def, Int.natCast_add, Int.natCast_mul, Int.cast_ofNat_Int, Int.natCast_one, Int.natCast_zero, Int.reduceAdd, Int.reduceMul, Int.reduceSub, IntKind.bits, List.length_map, wrap_u8_mod, wrap_u32_mod, wrap_u64_mod, wrap_i64_id]) | (refine aqs_cons ?_; simp (disch := omega) only [go_sem, bne_self_eq_false, ← List.map_drop, ← List.map_take, List.take_length, beq_self_eq_true, Int.reduceBEq, Int.reduceBNe, Int.reduceEq, eq_self, ↓reduceIte, reduceCtorEq, Nat.reduceAdd, Nat.reduceSub, Nat.reduceMul, Nat.reduceEqDiff, Int.toNat_natCast, Int.toNat_zero, Int.toNat_one, Int.reduceLE, Int.reduceLT, Nat.reduceLT, Nat.reduceLeDiff, Int.reduceToNat, Int.reduceNeg, Int.reducePow, Nat.min_def, Int.natCast_add, Int.natCast_mul, Int.cast_ofNat_Int, Int.natCast_one, Int.natCast_zero, Int.reduceAdd, Int.reduceMul, Int.reduceSub, IntKind.bits, List.length_map, wrap_u8_mod, wrap_u32_mod, wrap_u64_mod, wrap_i64_id]) | (refine ⟨by omega, ?_⟩) | (refine aops_nil ?_; simp only [Go.Vm.Seq, Blk, ↓reduceIte, Nat.reduceEqDiff, if_true, if_false]) | (refine aqs_nil ?_; simp only [Go.Vm.Seq, Blk, ↓reduceIte, Nat.reduceEqDiff, if_true, if_false]))))
      cases t with
      | none =>
        have hd := h5 rfl
        subst hd
        simp (disch := omega) only [go_sem, bne_self_eq_false, ← List.map_drop, ← List.map_take, List.take_length, beq_self_eq_true, Int.reduceBEq, Int.reduceBNe, Int.reduceEq, eq_self, ↓reduceIte, reduceCtorEq, Nat.reduceAdd, Nat.reduceSub, Nat.reduceMul, Nat.reduceEqDiff, Int.toNat_natCast, Int.toNat_zero, Int.toNat_one, Int.reduceLE, Int.reduceLT, Nat.reduceLT, Nat.reduceLeDiff, Int.reduceToNat, Int.reduceNeg, Int.reducePow, Nat.min_def, Int.natCast_add, Int.natCast_mul, Int.cast_ofNat_Int, Int.natCast_one, Int.natCast_zero, Int.reduceAdd, Int.reduceMul, Int.reduceSub, IntKind.bits, List.length_map, wrap_u8_mod, wrap_u32_mod, wrap_u64_mod, wrap_i64_id]
        refine AOps_plain rfl (AOp_append_nil rfl 7 Ty.et24 rfl (.inl rfl) (ys := [[.sl none 1 ((List.take (Cdc.nxtFrom 0 0 l) l).map by1)]]) rfl (by simp) (fun e => by cases e) (fun _ n hn1 => ?_))
        (refine aops_sound _ _ _ ?_; (repeat (first | (refine aops_cons ?_; simp (disch := omega) only [go_sem, bne_self_eq_false, ← List.map_drop, ← List.map_take, List.take_length, beq_self_eq_true, Int.reduceBEq, Int.reduceBNe, Int.reduceEq, eq_self, ↓reduceIte, reduceCtorEq, Nat.reduceAdd, Nat.reduceSub, Nat.reduceMul, Nat.reduceEqDiff, Int.toNat_natCast, Int.toNat_zero, Int.toNat_one, Int.reduceLE, Int.reduceLT, Nat.reduceLT, Nat.reduceLeDiff, Int.reduceToNat, Int.reduceNeg, Int.reducePow, Nat.min_def, Int.natCast_add, Int.natCast_mul, Int.cast_ofNat_Int, Int.natCast_one, Int.natCast_zero, Int.reduceAdd, Int.reduceMul, Int.reduceSub, IntKind.bits, List.length_map, wrap_u8_mod, wrap_u32_mod, wrap_u64_mod, wrap_i64_id]) | (refine aqs_cons ?_; simp (disch := omega) only [go_sem, bne_self_eq_false, ← List.map_drop, ← List.map_take, List.take_length, beq_self_eq_true, Int.reduceBEq, Int.reduceBNe, Int.reduceEq, eq_self, ↓reduceIte, reduceCtorEq, Nat.reduceAdd, Nat.reduceSub, Nat.reduceMul, Nat.reduceEqDiff, Int.toNat_natCast, Int.toNat_zero, Int.toNat_one, Int.reduceLE, Int.reduceLT, Nat.reduceLT, Nat.reduceLeDiff, Int.reduceToNat, Int.reduceNeg, Int.reducePow, Nat.min_def, Int.natCast_add, Int.natCast_mul, Int.cast_ofNat_Int, Int.natCast_one, Int.natCast_zero, Int.reduceAdd, Int.reduceMul, Int.reduceSub, IntKind.bits, List.length_map, wrap_u8_mod, wrap_u32_mod, wrap_u64_mod, wrap_i64_id]) | (refine ⟨by omega, ?_⟩) | (refine aops_nil ?_; simp only [Go.Vm.Seq, Blk, ↓reduceIte, Nat.reduceEqDiff, if_true, if_false]) | (refine aqs_nil ?_; simp only [Go.Vm.Seq, Blk, ↓reduceIte, Nat.reduceEqDiff, if_true, if_false]))))
        (refine H2 _ _ ?_; clear H2 K2)
        refine AW_r ?_
        (repeat (first | (refine aops_cons ?_; simp (disch := omega) only [go_sem, bne_self_eq_false, ← List.map_drop, ← List.map_take, List.take_length, beq_self_eq_true, Int.reduceBEq, Int.reduceBNe, Int.reduceEq, eq_self, ↓reduceIte, reduceCtorEq, Nat.reduceAdd, Nat.reduceSub, Nat.reduceMul, Nat.reduceEqDiff, Int.toNat_natCast, Int.toNat_zero, Int.toNat_one, Int.reduceLE, Int.reduceLT, Nat.reduceLT, Nat.reduceLeDiff, Int.reduceToNat, Int.reduceNeg, Int.reducePow, Nat.min_def, Int.natCast_add, Int.natCast_mul, Int.cast_ofNat_Int, Int.natCast_one, Int.natCast_zero, Int.reduceAdd, Int.reduceMul, Int.reduceSub, IntKind.bits, List.length_map, wrap_u8_mod, wrap_u32_mod, wrap_u64_mod, wrap_i64_id]) | (refine aqs_cons ?_; simp (disch := omega) only [go_sem, bne_self_eq_false, ← List.map_drop, ← List.map_take, List.take_length, beq_self_eq_true, Int.reduceBEq, Int.reduceBNe, Int.reduceEq, eq_self, ↓reduceIte, reduceCtorEq, Nat.reduceAdd, Nat.reduceSub, Nat.reduceMul, Nat.reduceEqDiff, Int.toNat_natCast, Int.toNat_zero, Int.toNat_one, Int.reduceLE, Int.reduceLT, Nat.reduceLT, Nat.reduceLeDiff, Int.reduceToNat, Int.reduceNeg, Int.reducePow, Nat.min_def, Int.natCast_add, Int.natCast_mul, Int.cast_ofNat_Int, Int.natCast_one, Int.natCast_zero, Int.reduceAdd, Int.reduceMul, Int.reduceSub, IntKind.bits, List.length_map, wrap_u8_mod, wrap_u32_mod, wrap_u64_mod, wrap_i64_id]) | (refine ⟨by omega, ?_⟩) | (refine aops_nil ?_; simp only [Go.Vm.Seq, Blk, ↓reduceIte, Nat.reduceEqDiff, if_true, if_false]) | (refine aqs_nil ?_; simp only [Go.Vm.Seq, Blk, ↓reduceIte, Nat.reduceEqDiff, if_true, if_false])))
        simp (disch := omega) only [go_sem, bne_self_eq_false, ← List.map_drop, ← List.map_take, List.take_length, beq_self_eq_true, Int.reduceBEq, Int.reduceBNe, Int.reduceEq, eq_self, ↓reduceIte, reduceCtorEq, Nat.reduceAdd, Nat.reduceSub, Nat.reduceMul, Nat.reduceEqDiff, Int.toNat_natCast, Int.toNat_zero, Int.toNat_one, Int.reduceLE, Int.reduceLT, Nat.reduceLT, Nat.reduceLeDiff, Int.reduceToNat, Int.reduceNeg, Int.reducePow, Nat.min_def, Int.natCast_add, Int.natCast_mul, Int.cast_ofNat_Int, Int.natCast_one, Int.natCast_zero, Int.reduceAdd, Int.reduceMul, Int.reduceSub, IntKind.bits, List.length_map, wrap_u8_mod, wrap_u32_mod, wrap_u64_mod, wrap_i64_id]
        refine ⟨(some (7, n), [l.take (Cdc.nxtFrom 0 0 l)], l.drop (Cdc.nxtFrom 0 0 l)), ⟨?_, ?_, ?_, ?_, by simp, ?_⟩, ?_, Sub.refl _, ?_⟩
        · simp only [List.length_drop]; omega
        · exact fun z hz => h2 z (List.mem_of_mem_drop hz)
        · rw [h3, hc]; rfl
        · simp only [List.length_drop, List.length_cons, List.length_nil]; omega
        · intro k hk; cases hk; exact hn1
        · simp only [List.length_drop]; omega
        · simp (disch := omega) only [go_sem, bne_self_eq_false, ← List.map_drop, ← List.map_take, List.take_length, beq_self_eq_true, Int.reduceBEq, Int.reduceBNe, Int.reduceEq, eq_self, ↓reduceIte, reduceCtorEq, Nat.reduceAdd, Nat.reduceSub, Nat.reduceMul, Nat.reduceEqDiff, Int.toNat_natCast, Int.toNat_zero, Int.toNat_one, Int.reduceLE, Int.reduceLT, Nat.reduceLT, Nat.reduceLeDiff, Int.reduceToNat, Int.reduceNeg, Int.reducePow, Nat.min_def, Int.natCast_add, Int.natCast_mul, Int.cast_ofNat_Int, Int.natCast_one, Int.natCast_zero, Int.reduceAdd, Int.reduceMul, Int.reduceSub, IntKind.bits, List.length_map, wrap_u8_mod, wrap_u32_mod, wrap_u64_mod, wrap_i64_id, List.map_cons, List.map_nil]
      | some k =>
        simp (disch := omega) only [go_sem, bne_self_eq_false, ← List.map_drop, ← List.map_take, List.take_length, beq_self_eq_true, Int.reduceBEq, Int.reduceBNe, Int.reduceEq, eq_self, ↓reduceIte, reduceCtorEq, Nat.reduceAdd, Nat.reduceSub, Nat.reduceMul, Nat.reduceEqDiff, Int.toNat_natCast, Int.toNat_zero, Int.toNat_one, Int.reduceLE, Int.reduceLT, Nat.reduceLT, Nat.reduceLeDiff, Int.reduceToNat, Int.reduceNeg, Int.reducePow, Nat.min_def, Int.natCast_add, Int.natCast_mul, Int.cast_ofNat_Int, Int.natCast_one, Int.natCast_zero, Int.reduceAdd, Int.reduceMul, Int.reduceSub, IntKind.bits, List.length_map, wrap_u8_mod, wrap_u32_mod, wrap_u64_mod, wrap_i64_id]
        refine AOps_plain rfl (AOp_append_tok rfl Ty.et24 rfl (by rw [upd_same, List.length_map, Nat.mul_one]) (ys := [[.sl none 1 ((List.take (Cdc.nxtFrom 0 0 l) l).map by1)]]) rfl ?_ ?_)
        · simp only [List.length_map, List.length_cons, List.length_nil]; omega
        (refine aops_sound _ _ _ ?_; (repeat (first | (refine aops_cons ?_; simp (disch := omega) only [go_sem, bne_self_eq_false, ← List.map_drop, ← List.map_take, List.take_length, beq_self_eq_true, Int.reduceBEq, Int.reduceBNe, Int.reduceEq, eq_self, ↓reduceIte, reduceCtorEq, Nat.reduceAdd, Nat.reduceSub, Nat.reduceMul, Nat.reduceEqDiff, Int.toNat_natCast, Int.toNat_zero, Int.toNat_one, Int.reduceLE, Int.reduceLT, Nat.reduceLT, Nat.reduceLeDiff, Int.reduceToNat, Int.reduceNeg, Int.reducePow, Nat.min_def, Int.natCast_add, Int.natCast_mul, Int.cast_ofNat_Int, Int.natCast_one, Int.natCast_zero, Int.reduceAdd, Int.reduceMul, Int.reduceSub, IntKind.bits, List.length_map, wrap_u8_mod, wrap_u32_mod, wrap_u64_mod, wrap_i64_id]) | (refine aqs_cons ?_; simp (disch := omega) only [go_sem, bne_self_eq_false, ← List.map_drop, ← List.map_take, List.take_length, beq_self_eq_true, Int.reduceBEq, Int.reduceBNe, Int.reduceEq, eq_self, ↓reduceIte, reduceCtorEq, Nat.reduceAdd, Nat.reduceSub, Nat.reduceMul, Nat.reduceEqDiff, Int.toNat_natCast, Int.toNat_zero, Int.toNat_one, Int.reduceLE, Int.reduceLT, Nat.reduceLT, Nat.reduceLeDiff, Int.reduceToNat, Int.reduceNeg, Int.reducePow, Nat.min_def, Int.natCast_add, Int.natCast_mul, Int.cast_ofNat_Int, Int.natCast_one, Int.natCast_zero, Int.reduceAdd, Int.reduceMul, Int.reduceSub, IntKind.bits, List.length_map, wrap_u8_mod, wrap_u32_mod, wrap_u64_mod, wrap_i64_id]) | (refine ⟨by omega, ?_⟩) | (refine aops_nil ?_; simp only [Go.Vm.Seq, Blk, ↓reduceIte, Nat.reduceEqDiff, if_true, if_false]) | (refine aqs_nil ?_; simp only [Go.Vm.Seq, Blk, ↓reduceIte, Nat.reduceEqDiff, if_true, if_false]))))
        (refine H2 _ _ ?_; clear H2 K2)
        refine AW_r ?_
        (repeat (first | (refine aops_cons ?_; simp (disch := omega) only [go_sem, bne_self_eq_false, ← List.map_drop, ← List.map_take, List.take_length, beq_self_eq_true, Int.reduceBEq, Int.reduceBNe, Int.reduceEq, eq_self, ↓reduceIte, reduceCtorEq, Nat.reduceAdd, Nat.reduceSub, Nat.reduceMul, Nat.reduceEqDiff, Int.toNat_natCast, Int.toNat_zero, Int.toNat_one, Int.reduceLE, Int.reduceLT, Nat.reduceLT, Nat.reduceLeDiff, Int.reduceToNat, Int.reduceNeg, Int.reducePow, Nat.min_def, Int.natCast_add, Int.natCast_mul, Int.cast_ofNat_Int, Int.natCast_one, Int.natCast_zero, Int.reduceAdd, Int.reduceMul, Int.reduceSub, IntKind.bits, List.length_map, wrap_u8_mod, wrap_u32_mod, wrap_u64_mod, wrap_i64_id]) | (refine aqs_cons ?_; simp (disch := omega) only [go_sem, bne_self_eq_false, ← List.map_drop, ← List.map_take, List.take_length, beq_self_eq_true, Int.reduceBEq, Int.reduceBNe, Int.reduceEq, eq_self, ↓reduceIte, reduceCtorEq, Nat.reduceAdd, Nat.reduceSub, Nat.reduceMul, Nat.reduceEqDiff, Int.toNat_natCast, Int.toNat_zero, Int.toNat_one, Int.reduceLE, Int.reduceLT, Nat.reduceLT, Nat.reduceLeDiff, Int.reduceToNat, Int.reduceNeg, Int.reducePow, Nat.min_def, Int.natCast_add, Int.natCast_mul, Int.cast_ofNat_Int, Int.natCast_one, Int.natCast_zero, Int.reduceAdd, Int.reduceMul, Int.reduceSub, IntKind.bits, List.length_map, wrap_u8_mod, wrap_u32_mod, wrap_u64_mod, wrap_i64_id]) | (refine ⟨by omega, ?_⟩) | (refine aops_nil ?_; simp only [Go.Vm.Seq, Blk, ↓reduceIte, Nat.reduceEqDiff, if_true, if_false]) | (refine aqs_nil ?_; simp only [Go.Vm.Seq, Blk, ↓reduceIte, Nat.reduceEqDiff, if_true, if_false])))
        simp (disch := omega) only [go_sem, bne_self_eq_false, ← List.map_drop, ← List.map_take, List.take_length, beq_self_eq_true, Int.reduceBEq, Int.reduceBNe, Int.reduceEq, eq_self, ↓reduceIte, reduceCtorEq, Nat.reduceAdd, Nat.reduceSub, Nat.reduceMul, Nat.reduceEqDiff, Int.toNat_natCast, Int.toNat_zero, Int.toNat_one, Int.reduceLE, Int.reduceLT, Nat.reduceLT, Nat.reduceLeDiff, Int.reduceToNat, Int.reduceNeg, Int.reducePow, Nat.min_def, Int.natCast_add, Int.natCast_mul, Int.cast_ofNat_Int, Int.natCast_one, Int.natCast_zero, Int.reduceAdd, Int.reduceMul, Int.reduceSub, IntKind.bits, List.length_map, wrap_u8_mod, wrap_u32_mod, wrap_u64_mod, wrap_i64_id]
        rw [upd_upd]
        refine ⟨(some k, done ++ [l.take (Cdc.nxtFrom 0 0 l)], l.drop (Cdc.nxtFrom 0 0 l)), ⟨?_, ?_, ?_, ?_, by simp, h6⟩, ?_, ?_, ?_⟩
        · simp only [List.length_drop]; omega
        · exact fun z hz => h2 z (List.mem_of_mem_drop hz)
        · rw [h3, hc]; simp
        · simp only [List.length_drop, List.length_append, List.length_cons, List.length_nil]; omega
        · simp only [List.length_drop]; omega
        · simp [outH]; exact Sub.refl _
        · simp (disch := omega) only [go_sem, bne_self_eq_false, ← List.map_drop, ← List.map_take, List.take_length, beq_self_eq_true, Int.reduceBEq, Int.reduceBNe, Int.reduceEq, eq_self, ↓reduceIte, reduceCtorEq, Nat.reduceAdd, Nat.reduceSub, Nat.reduceMul, Nat.reduceEqDiff, Int.toNat_natCast, Int.toNat_zero, Int.toNat_one, Int.reduceLE, Int.reduceLT, Nat.reduceLT, Nat.reduceLeDiff, Int.reduceToNat, Int.reduceNeg, Int.reducePow, Nat.min_def, Int.natCast_add, Int.natCast_mul, Int.cast_ofNat_Int, Int.natCast_one, Int.natCast_zero, Int.reduceAdd, Int.reduceMul, Int.reduceSub, IntKind.bits, List.length_map, wrap_u8_mod, wrap_u32_mod, wrap_u64_mod, wrap_i64_id, List.map_append, List.map_cons, List.map_nil]
    · simp at hge
      have hl : l = [] := by cases l with
        | nil => rfl
        | cons => simp at hge
      subst hl
      refine AW_exit ?_
      simp only [Go.Vm.Seq, Blk, ↓reduceIte, Nat.reduceEqDiff, if_true, if_false]
      clear H2 K2
      (refine H1 _ _ ?_; clear H1 K1)
      rw [Cdc.cut_nil, List.append_nil] at h3
      cases t with
      | none =>
        have hd := h5 rfl
        subst hd
        repeat (refine AW_k fun K1 H1 => ?_; refine AW_r ?_; (repeat (first | (refine aops_cons ?_; simp (disch := omega) only [go_sem, bne_self_eq_false, ← List.map_drop, ← List.map_take, List.take_length, beq_self_eq_true, Int.reduceBEq, Int.reduceBNe, Int.reduceEq, eq_self, ↓reduceIte, reduceCtorEq, Nat.reduceAdd, Nat.reduceSub, Nat.reduceMul, Nat.reduceEqDiff, Int.toNat_natCast, Int.toNat_zero, Int.toNat_one, Int.reduceLE, Int.reduceLT, Nat.reduceLT, Nat.reduceLeDiff, Int.reduceToNat, Int.reduceNeg, Int.reducePow, Nat.min_def, Int.natCast_add, Int.natCast_mul, Int.cast_ofNat_Int, Int.natCast_one, Int.natCast_zero, Int.reduceAdd, Int.reduceMul, Int.reduceSub, IntKind.bits, List.length_map, wrap_u8_mod, wrap_u32_mod, wrap_u64_mod, wrap_i64_id]) | (refine aqs_cons ?_; simp (disch := omega) only [go_sem, bne_self_eq_false, ← List.map_drop, ← List.map_take, List.take_length, beq_self_eq_true, Int.reduceBEq, Int.reduceBNe, Int.reduceEq, eq_self, ↓reduceIte, reduceCtorEq, Nat.reduceAdd, Nat.reduceSub, Nat.reduceMul, Nat.reduceEqDiff, Int.toNat_natCast, Int.toNat_zero, Int.toNat_one, Int.reduceLE, Int.reduceLT, Nat.reduceLT, Nat.reduceLeDiff, Int.reduceToNat, Int.reduceNeg, Int.reducePow, Nat.min_def, Int.natCast_add, Int.natCast_mul, Int.cast_ofNat_Int, Int.natCast_one, Int.natCast_zero, Int.reduceAdd, Int.reduceMul, Int.reduceSub, IntKind.bits, List.length_map, wrap_u8_mod, wrap_u32_mod, wrap_u64_mod, wrap_i64_id]) | (refine ⟨by omega, ?_⟩) | (refine aops_nil ?_; simp only [Go.Vm.Seq, Blk, ↓reduceIte, Nat.reduceEqDiff, if_true, if_false]) | (refine aqs_nil ?_; simp only [Go.Vm.Seq, Blk, ↓reduceIte, Nat.reduceEqDiff, if_true, if_false]))); refine H1 _ _ ?_; clear H1 K1)
        refine AW_ret ?_
        refine ⟨_, .tup [rws none (Cdc.cut b), .sc (.int .i64 0)], h, rfl, Sub.refl _, ?_, .inr ⟨by omega, rfl, rfl⟩⟩
        rw [h3]
        exact ALe.tup (.cons (ALe.nil h 1 0 (by simp [maxLen])) (.cons (ALe.refl _ _) .nil))
      | some k =>
        repeat (refine AW_k fun K1 H1 => ?_; refine AW_r ?_; (repeat (first | (refine aops_cons ?_; simp (disch := omega) only [go_sem, bne_self_eq_false, ← List.map_drop, ← List.map_take, List.take_length, beq_self_eq_true, Int.reduceBEq, Int.reduceBNe, Int.reduceEq, eq_self, ↓reduceIte, reduceCtorEq, Nat.reduceAdd, Nat.reduceSub, Nat.reduceMul, Nat.reduceEqDiff, Int.toNat_natCast, Int.toNat_zero, Int.toNat_one, Int.reduceLE, Int.reduceLT, Nat.reduceLT, Nat.reduceLeDiff, Int.reduceToNat, Int.reduceNeg, Int.reducePow, Nat.min_def, Int.natCast_add, Int.natCast_mul, Int.cast_ofNat_Int, Int.natCast_one, Int.natCast_zero, Int.reduceAdd, Int.reduceMul, Int.reduceSub, IntKind.bits, List.length_map, wrap_u8_mod, wrap_u32_mod, wrap_u64_mod, wrap_i64_id]) | (refine aqs_cons ?_; simp (disch := omega) only [go_sem, bne_self_eq_false, ← List.map_drop, ← List.map_take, List.take_length, beq_self_eq_true, Int.reduceBEq, Int.reduceBNe, Int.reduceEq, eq_self, ↓reduceIte, reduceCtorEq, Nat.reduceAdd, Nat.reduceSub, Nat.reduceMul, Nat.reduceEqDiff, Int.toNat_natCast, Int.toNat_zero, Int.toNat_one, Int.reduceLE, Int.reduceLT, Nat.reduceLT, Nat.reduceLeDiff, Int.reduceToNat, Int.reduceNeg, Int.reducePow, Nat.min_def, Int.natCast_add, Int.natCast_mul, Int.cast_ofNat_Int, Int.natCast_one, Int.natCast_zero, Int.reduceAdd, Int.reduceMul, Int.reduceSub, IntKind.bits, List.length_map, wrap_u8_mod, wrap_u32_mod, wrap_u64_mod, wrap_i64_id]) | (refine ⟨by omega, ?_⟩) | (refine aops_nil ?_; simp only [Go.Vm.Seq, Blk, ↓reduceIte, Nat.reduceEqDiff, if_true, if_false]) | (refine aqs_nil ?_; simp only [Go.Vm.Seq, Blk, ↓reduceIte, Nat.reduceEqDiff, if_true, if_false]))); refine H1 _ _ ?_; clear H1 K1)
        refine AW_ret ?_
        have hk := h6 k rfl
        refine ⟨_, .tup [rws none (Cdc.cut b), .sc (.int .i64 0)], h, rfl, (Sub.refl h).upd hk _, ?_, .inr ⟨by omega, rfl, rfl⟩⟩
        rw [h3]
        exact ALe.tup (.cons (ALe.freeze (notTok_none hk) 1 _) (.cons (ALe.refl _ _) .nil))
end Go.Proofs.Ytafflcbcpbgloaa
