import Derived.Test.YtafflcbcpbgloaaK7P2
import Derived.Test.YtafflcbcpbgloaaK7P1
set_option linter.unusedSimpArgs false
set_option linter.unusedVariables false
namespace Go.Proofs.Ytafflcbcpbgloaa
open Go.Vm
def chk {α : Type} (k : Nat) : Nat → List α → List (List α)
 | 0, _ => []
 | n + 1, l => if l.length = 0 then [] else l.take k :: chk k n (l.drop k)
theorem chk_flat {α : Type} {k : Nat} (hk : 0 < k) : ∀ (n : Nat) (l : List α), l.length ≤ n → (chk k n l).flatten = l
 | 0, l, h => by have : l = [] := List.length_eq_zero_iff.1 (by omega); subst this; rfl
 | n + 1, l, h => by
  unfold chk
  split
  ·rename_i h0
   have : l = [] := List.length_eq_zero_iff.1 h0
   subst this; rfl
  ·rename_i h0
   rw [List.flatten_cons, chk_flat hk n _ (by rw [List.length_drop]; omega), List.take_append_drop]
theorem chk_len {α : Type} {k : Nat} : ∀ (n : Nat) (l : List α), (chk k n l).length ≤ n
 | 0, l => by simp [chk]
 | n + 1, l => by
  unfold chk
  split
  ·simp
  ·rw [List.length_cons]; have := chk_len (k := k) n (l.drop k); omega
theorem chk_mem {α : Type} {k : Nat} : ∀ (n : Nat) (l : List α), ∀ x ∈ chk k n l, x.length ≤ l.length
 | 0, l, x, h => by simp [chk] at h
 | n + 1, l, x, h => by
  unfold chk at h
  split at h
  ·simp at h
  ·rcases List.mem_cons.1 h with rfl | h
   ·rw [List.length_take]; omega
   ·have := chk_mem n _ x h
    rw [List.length_drop] at this; omega
theorem slcw {α : Type} {l : List α} {i k : Nat} (h : i < l.length) : slc l (i : Int) (min ((i : Int) + (k : Int)) (l.length : Int)) = some ((l.drop i).take k) := by
 unfold slc
 rw [if_pos ⟨by omega, by omega, by omega⟩]
 have e : (min ((i : Int) + (k : Int)) (l.length : Int)).toNat = min (i + k) l.length := by omega
 have e2 : (i : Int).toNat = i := by omega
 rw [e, e2, List.drop_take]
 congr 1
 by_cases hk : i + k ≤ l.length
 ·congr 1; omega
 ·rw [List.take_of_length_le (by rw [List.length_drop]; omega), List.take_of_length_le (by rw [List.length_drop]; omega)]
theorem m27 {F : Nat} {l : List TItem} (h : l.length ≤ 1000000) : M27 F l = some l := by unfold M27; rw [app_some (by simp; omega)]; simp
theorem chk_loop {α ρ : Type} {l : List α} {k : Nat} {body : List (List α) × Int → Option (Lp (List (List α) × Int) ρ)} (hk : 0 < k) (hk2 : k ≤ 64)
    (hgo : ∀ (s : List (List α)) (i : Nat), i < l.length → s.length ≤ 1000 → body (s, (i : Int)) = some (.go (s ++ [(l.drop i).take k], ((i + k : Nat) : Int)))) (hbr : ∀ (s : List (List α)) (i : Nat), l.length ≤ i → i ≤ 1000 → body (s, (i : Int)) = some (.brk (s, (i : Int)))) (hl : l.length ≤ 300) :
    ∀ (n G : Nat) (s : List (List α)) (i : Nat), l.length - i ≤ n → i ≤ 1000 → n < G → s.length + n ≤ 1000 → ∃ j, loopM body G (s, (i : Int)) = some (.brk (s ++ chk k n (l.drop i), j))
  | n, 0, _, _, _, _, h, _ => by omega
  | n, G + 1, s, i, h1, h3, h2, h4 => by
    have hi : (l.drop i).length = l.length - i := List.length_drop
    unfold loopM
    by_cases h : i < l.length
    · rw [hgo s i h (by omega)]
      cases n with
      | zero => omega
      | succ n =>
        obtain ⟨j, e⟩ := chk_loop hk hk2 hgo hbr hl n G (s ++ [(l.drop i).take k]) (i + k) (by omega) (by omega) (by omega) (by simp; omega)
        refine ⟨j, ?_⟩
        show loopM body G _ = _
        rw [e]
        rw [show chk k (n + 1) (l.drop i) = (l.drop i).take k :: chk k n ((l.drop i).drop k) from by
          show (if (l.drop i).length = 0 then _ else _) = _
          rw [if_neg (by omega)], List.drop_drop]
        simp
    · rw [hbr s i (by omega) h3]
      refine ⟨(i : Int), ?_⟩
      have e : chk k n (l.drop i) = [] := by
        cases n with
        | zero => rfl
        | succ n => unfold chk; rw [if_pos (by omega)]
      rw [e, List.append_nil]
def k20 (p1 : Int) : Nat := (m20 p1).toNat
theorem k20_pos (p1 : Int) : 0 < k20 p1 ∧ k20 p1 ≤ 64 ∧ m20 p1 = (k20 p1 : Int) := by
 unfold k20 m20
 split
 ·decide
 ·rename_i h
  simp only [Bool.or_eq_true, decide_eq_true_eq, not_or] at h
  omega
theorem m20' {F : Nat} {l : List TItem} {p1 : Int} (hF : 1000 ≤ F) (hl : l.length ≤ 300) : M20 F l p1 = some (chk (k20 p1) l.length l) := by
 obtain ⟨hk, hk2, hm⟩ := k20_pos p1
 unfold M20 M28
 rw [hm]
 have hgo : ∀ (s : List (List TItem)) (i : Nat), i < l.length → s.length ≤ 1000 → M28_L0 l (k20 p1 : Int) (s20 F) s (i : Int) = some (.go (s ++ [(l.drop i).take (k20 p1)], ((i + k20 p1 : Nat) : Int))) := by
  intro s i h hs
  have hi : (l.drop i).length = l.length - i := List.length_drop
  unfold M28_L0
  rw [if_pos (by simpa using h)]
  have e1 : slc l (i : Int) (l.length : Int) = some (l.drop i) := by
   unfold slc
   rw [if_pos ⟨by omega, by omega, by omega⟩]
   have e2 : (i : Int).toNat = i := by omega
   have e3 : (l.length : Int).toNat = l.length := by omega
   rw [e2, e3, List.take_length]
  have e2 : IntKind.wrap .i64 ((i : Int) + min (k20 p1 : Int) ((l.drop i).length : Int)) = min ((i : Int) + (k20 p1 : Int)) (l.length : Int) := by
   rw [hi, wr (by omega) (by omega)]; omega
  have e3 : IntKind.wrap .i64 ((i : Int) + (k20 p1 : Int)) = ((i + k20 p1 : Nat) : Int) := by rw [wr (by omega) (by omega)]; omega
  have e4 : s20 F s ((l.drop i).take (k20 p1)) = some (s ++ [(l.drop i).take (k20 p1)]) := by
   unfold s20
   rw [m27 (by rw [List.length_take]; omega)]
   simp only [Option.bind_some]
   exact app_some (by simp; omega)
  simp only [e1, Option.bind_some, e2, slcw h, e4, e3]
  unfold grd
  rw [if_pos (by simp; omega)]
 have hbr : ∀ (s : List (List TItem)) (i : Nat), l.length ≤ i → i ≤ 1000 → M28_L0 l (k20 p1 : Int) (s20 F) s (i : Int) = some (.brk (s, (i : Int))) := by
  intro s i h _
  unfold M28_L0
  rw [if_neg (by simpa using h)]
 obtain ⟨j, e⟩ := chk_loop (ρ := List (List TItem)) (body := fun s => M28_L0 l (k20 p1 : Int) (s20 F) s.1 s.2) (l := l) hk hk2 hgo hbr hl l.length F [] 0 (by omega) (by omega) (by omega) (by simp; omega)
 have e' : loopM (fun s => M28_L0 l (k20 p1 : Int) (s20 F) s.1 s.2) F (([] : List (List TItem)), (0 : Int)) = _ := e
 rw [e']
 rfl
theorem m21 {F : Nat} {l : List TItem} {p1 : Int} (hF : 1000 ≤ F) (hl : l.length ≤ 300) : M21 F l p1 = some (chk (k20 p1) l.length l) := by
 obtain ⟨hk, hk2, hm⟩ := k20_pos p1
 have hgo : ∀ (s : List (List TItem)) (i : Nat), i < l.length → s.length ≤ 1000 → M21_L0 F l (k20 p1 : Int) s (i : Int) = some (.go (s ++ [(l.drop i).take (k20 p1)], ((i + k20 p1 : Nat) : Int))) := by
  intro s i h hs
  unfold M21_L0
  rw [if_pos (by simpa using h)]
  have e2 : IntKind.wrap .i64 ((i : Int) + (k20 p1 : Int)) = ((i + k20 p1 : Nat) : Int) := by rw [wr (by omega) (by omega)]; omega
  rw [e2]
  have e3 : (((i + k20 p1 : Nat) : Int)) = (i : Int) + (k20 p1 : Int) := by omega
  rw [e3, slcw h]
  simp only [Option.bind_some]
  rw [app_some (by simp; omega)]
  simp only [Option.bind_some, List.nil_append]
  rw [app_some (by simp; omega)]
  rfl
 have hbr : ∀ (s : List (List TItem)) (i : Nat), l.length ≤ i → i ≤ 1000 → M21_L0 F l (k20 p1 : Int) s (i : Int) = some (.brk (s, (i : Int))) := by
  intro s i h _
  unfold M21_L0
  rw [if_neg (by simpa using h)]
 obtain ⟨j, e⟩ := chk_loop (ρ := List (List TItem)) (body := fun s => M21_L0 F l (k20 p1 : Int) s.1 s.2) (l := l) hk hk2 hgo hbr hl l.length F [] 0 (by omega) (by omega) (by omega) (by simp; omega)
 have e' : loopM (fun s => M21_L0 F l (m20 p1) s.1 s.2) F (([] : List (List TItem)), (0 : Int)) = _ := hm ▸ e
 unfold M21
 by_cases c1 : p1 < 1
 ·have : m20 p1 = 64 := by simp [m20, c1]
  rw [this] at e'
  simp [c1, after_brk, e']
 ·by_cases c2 : 64 < p1
  ·have : m20 p1 = 64 := by simp [m20, c1, c2]
   rw [this] at e'
   simp [c1, c2, after_brk, e']
  ·have : m20 p1 = p1 := by simp [m20, c1, c2]
   rw [this] at e'
   simp [c1, c2, after_brk, e']
theorem m22 {F : Nat} {l : List TItem} (hF : 1000 ≤ F) (hl : l.length ≤ 300) : M22 F l l = some true := by
 unfold M22
 rw [if_neg (by simp)]
 have e : loopM (fun s => M22_L0 F l l s) F (0 : Int) = some (LF (ρ := Bool) (fun i : Nat => (i : Int)) (fun _ => false) (fun _ => false) l.length) := loop_ff (n := l.length) (fun i : Nat => (i : Int)) (fun _ => false) (fun _ => false) (by omega) rfl (fun i hi _ => by
  unfold M22_L0
  rw [wr1 (by omega)]
  simp [ix_nat, hi, after]) (fun _ => by unfold M22_L0; simp)
 rw [e, LF_none (fun _ _ => rfl)]
 rfl
theorem m23 : M23 1000 = some true := by decide +kernel
theorem stage_batch {l : List TItem} {n : Int} : M10 1000 l n = some true := by
 unfold M10
 by_cases c : (300 : Int) < (l.length : Int)
 ·simp [c]
 have hl : l.length ≤ 300 := by omega
 rw [if_neg (by simpa using c), app_some (by simp; omega)]
 simp only [Option.bind_some, List.nil_append]
 rw [m20' (Nat.le_refl _) hl, m21 (Nat.le_refl _) hl, m22 (Nat.le_refl _) hl]
 simp only [Option.bind_some]
 have hk := (k20_pos n).1
 have h1 := chk_flat hk l.length l (Nat.le_refl _)
 have h2 := chk_len (k := k20 n) l.length l
 have h3 := chk_mem (k := k20 n) l.length l
 generalize chk (k20 n) l.length l = x at h1 h2 h3
 have e : loopM (fun s => M10_L0 1000 x x s.1 s.2) 1000 (([] : List TItem), (0 : Int)) = some (LF (ρ := Bool) (fun i : Nat => ((x.take i).flatten, (i : Int))) (fun _ => false) (fun _ => false) x.length) := loop_ff (n := x.length) (fun i : Nat => ((x.take i).flatten, (i : Int))) (fun _ => false) (fun _ => false) (by omega) rfl (fun i hi _ => by
  show M10_L0 1000 x x (x.take i).flatten (i : Int) = _
  unfold M10_L0
  rw [if_pos (by simpa using hi), wr1 (by omega)]
  have hx : x[i]? = some x[i] := List.getElem?_eq_getElem hi
  have hm := h3 x[i] (List.getElem_mem hi)
  have hf : ((x.take i).flatten).length ≤ l.length := by
   have := congrArg List.length h1
   rw [← List.take_append_drop i x, List.flatten_append, List.length_append] at this
   omega
  simp only [ix_nat, hx, Option.bind_some]
  rw [m22 (Nat.le_refl _) (by omega)]
  simp only [Option.bind_some, Bool.not_true, Bool.false_eq_true, if_false]
  rw [app_some (by omega)]
  simp only [Option.bind_some]
  have ht : x.take (i + 1) = x.take i ++ [x[i]] := by rw [List.take_add_one, hx]; rfl
  show some (Lp.go ((x.take i).flatten ++ x[i], ((i + 1 : Nat) : Int))) = some (Lp.go ((x.take (i + 1)).flatten, ((i + 1 : Nat) : Int)))
  rw [ht, List.flatten_append]
  simp only [List.flatten_cons, List.flatten_nil, List.append_nil]) (fun _ => by
  show M10_L0 1000 x x (x.take x.length).flatten (x.length : Int) = _
  unfold M10_L0
  simp)
 rw [e, LF_none (fun _ _ => rfl), List.take_length, h1]
 simp only [after_brk, m22 (Nat.le_refl _) hl, m23, Option.bind_some, Bool.not_true, Bool.false_eq_true, if_false, bne_self_eq_false, if_true]
open Go.Vm Go.ChangeShapes Go.WideShapes
section
variable {H : Type} {enc : TypeId × Value → H} {W : World}
theorem ce51 : Try.prog.cellsOf 51 = 37 := by kernel_rfl
theorem ce3 : Try.prog.cellsOf 3 = 1 := by kernel_rfl
theorem rd3 : Rd enc Try.prog W 3 c_i64 gI := Rd_i64 u3
theorem ce49 : Try.prog.cellsOf 49 = 32 := by kernel_rfl
theorem ce5 : Try.prog.cellsOf 5 = 1 := by kernel_rfl
theorem rd49 : Rd enc Try.prog W 49 c_id (fun x : Id32 => gL gB x.1) := Rd.id u49 u5 ce5 ce49
def g_Item (x : TItem) : Prop := gI x.Kind ∧ (fun x : Id32 => gL gB x.1) x.Id ∧ gI x.Seq ∧ gI x.Of ∧ gI x.Off ∧ gI x.Len
theorem sn51 : strN Try.prog 51 = some 6 := by kernel_rfl
theorem rd51 : Rd enc Try.prog W 51 c_Item g_Item := by
 intro fuel cs x h
 obtain ⟨hl, hf⟩ := Rd.flds sn51 ce51 h
 obtain ⟨a0, g0, v0, w0⟩ := hf 0 0 1 tf51_0 ce3 rd3
 obtain ⟨a1, g1, v1, w1⟩ := hf 1 1 32 tf51_1 ce49 rd49
 obtain ⟨a2, g2, v2, w2⟩ := hf 2 33 1 tf51_2 ce3 rd3
 obtain ⟨a3, g3, v3, w3⟩ := hf 3 34 1 tf51_3 ce3 rd3
 obtain ⟨a4, g4, v4, w4⟩ := hf 4 35 1 tf51_4 ce3 rd3
 obtain ⟨a5, g5, v5, w5⟩ := hf 5 36 1 tf51_5 ce3 rd3
 obtain ⟨v, w⟩ := (Win.cons v0 w0 (Win.cons v1 w1 (Win.cons v2 w2 (Win.cons v3 w3 (Win.cons v4 w4 (Win.cons v5 w5 (Win.nil hl) rfl) rfl) rfl) rfl) rfl) rfl)
 exact ⟨⟨a0, a1, a2, a3, a4, a5⟩, ⟨g0, g1, g2, g3, g4, g5⟩, by simpa [c_Item, c_i64, c_i64, c_i64, c_i64, c_i64] using v, by simpa using w⟩
theorem rd39 : Rd enc Try.prog W 39 c_s_Item (gL g_Item) := Rd.slice rd51 u39 ce51 (fun x => by simp [c_Item, c_id]) (by decide)
theorem rr3 : Try.prog.readableRec 3 = true ∧ 3 < Try.prog.types.size := ⟨by kernel_rfl, of_decide_eq_true (by kernel_rfl)⟩
theorem rr39 : Try.prog.readableRec 39 = true ∧ 39 < Try.prog.types.size := ⟨by kernel_rfl, of_decide_eq_true (by kernel_rfl)⟩
theorem own0 : ownKnob Try.prog.godebug = none := by kernel_rfl
theorem laidOut0 : laidOutB Try.prog = true := by kernel_rfl
end
open Go.Vm
theorem stage_batch2 {l : List TItem} {n : Int} (_ : gL g_Item l) (_ : gI n) : M10 1000 l n = some true := stage_batch
end Go.Proofs.Ytafflcbcpbgloaa
