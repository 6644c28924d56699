/-
  Plain laws of the models' loops.
-/
import Derived.Test.YtoomgangpjcaoaaK7Types
namespace Go.Vm

theorem wr {n : Int} (h : -9223372036854775808 ≤ n) (h2 : n < 9223372036854775808) : IntKind.wrap .i64 n = n := by
  have e : IntKind.wrap .i64 n = (if decide (n % 18446744073709551616 ≥ 9223372036854775808) = true then n % 18446744073709551616 - 18446744073709551616 else n % 18446744073709551616) := rfl
  rw [e]
  simp only [decide_eq_true_eq]
  split <;> omega
theorem wr1 {i : Nat} (h : i < 1000000000) : IntKind.wrap .i64 ((i : Int) + 1) = ((i + 1 : Nat) : Int) := by rw [wr (by omega) (by omega)]; rfl
theorem wr_1 {i : Nat} (h : i < 1000000000) (h0 : 0 < i) : IntKind.wrap .i64 ((i : Int) - 1) = ((i - 1 : Nat) : Int) := by rw [wr (by omega) (by omega)]; omega
theorem ix_nat {α : Type} (l : List α) (i : Nat) : ix l (i : Int) = l[i]? := by simp [ix]
theorem ix_pos {α : Type} (l : List α) {i : Int} (h : 0 ≤ i) : ix l i = l[i.toNat]? := by simp [ix, h]
theorem app_some {α : Type} {xs ys : List α} (h : xs.length + ys.length ≤ 1000000000) : app xs ys = some (xs ++ ys) := by simp [app, h]

theorem after_ite {σ ρ : Type} (c : Prop) [Decidable c] (a b : Option (Lp σ ρ)) (k : σ → Option ρ) : after (if c then a else b) k = if c then after a k else after b k := by split <;> rfl
theorem after_brk {σ ρ : Type} (s : σ) (k : σ → Option ρ) : after (some (.brk s)) k = k s := rfl
theorem after_ret {σ ρ : Type} (r : ρ) (k : σ → Option ρ) : after (some (.ret r)) k = some r := rfl
theorem bind_ite' {α β : Type} (c : Prop) [Decidable c] (a b : Option α) (k : α → Option β) : (if c then a else b).bind k = if c then a.bind k else b.bind k := by split <;> rfl

/-- What a loop over the numbers below n comes to. -/
def LF {S ρ : Type} (emb : Nat → S) (p : Nat → Bool) (rv : Nat → ρ) (n : Nat) : Lp S ρ := match (List.range n).find? p with
  | none => .brk (emb n)
  | some i => .ret (rv i)

theorem loop_ffG {S ρ : Type} {body : S → Option (Lp S ρ)} (emb : Nat → S) (p : Nat → Bool) (rv : Nat → ρ) : ∀ (m k F : Nat), m < F →
    (∀ i, k ≤ i → i < k + m → (∀ j, j < i → k ≤ j → p j = false) → body (emb i) = some (if p i then .ret (rv i) else .go (emb (i + 1)))) → ((∀ j, k ≤ j → j < k + m → p j = false) → body (emb (k + m)) = some (.brk (emb (k + m)))) →
    loopM body F (emb k) = some (match (List.range' k m).find? p with | none => .brk (emb (k + m)) | some i => .ret (rv i))
  | 0, k, F + 1, _, _, he => by
    have := he (fun j h1 h2 => by omega)
    simp only [Nat.add_zero] at this
    simp [loopM, this]
  | m + 1, k, F + 1, hF, hb, he => by
    have h0 := hb k (Nat.le_refl _) (by omega) (fun j h1 h2 => by omega)
    rw [List.range'_succ, List.find?_cons]
    cases hp : p k with
    | true => simp [loopM, h0, hp]
    | false =>
      have := loop_ffG (body := body) emb p rv m (k + 1) F (by omega) (fun i h1 h2 h3 => hb i (by omega) (by omega) (fun j h4 h5 => by
        by_cases e : j = k
        · subst e; exact hp
        · exact h3 j h4 (by omega))) (fun h => by
        rw [show k + 1 + m = k + (m + 1) from by omega]
        exact he fun j h4 h5 => by
          by_cases e : j = k
          · subst e; exact hp
          · exact h j (by omega) (by omega))
      simp only [loopM, h0, hp]
      rw [if_neg (by simp)]
      simp only [this, show k + 1 + m = k + (m + 1) from by omega]

theorem loop_ff {S ρ : Type} {body : S → Option (Lp S ρ)} {n F : Nat} {s0 : S} (emb : Nat → S) (p : Nat → Bool) (rv : Nat → ρ) (hF : n < F) (h0 : s0 = emb 0)
    (hb : ∀ i, i < n → (∀ j, j < i → p j = false) → body (emb i) = some (if p i then .ret (rv i) else .go (emb (i + 1)))) (he : (∀ j, j < n → p j = false) → body (emb n) = some (.brk (emb n))) :
    loopM body F s0 = some (LF emb p rv n) := by
  subst h0
  have := loop_ffG (body := body) emb p rv n 0 F hF (fun i _ h2 h3 => hb i (by omega) fun j hj => h3 j hj (Nat.zero_le _)) (fun h => by simpa using he fun j hj => h j (Nat.zero_le _) (by omega))
  rw [this, LF, List.range_eq_range']
  simp

theorem LF_all {S ρ : Type} {emb : Nat → S} {p : Nat → Bool} {r : ρ} {n : Nat} : LF emb p (fun _ => r) n = if (List.range n).any p then .ret r else .brk (emb n) := by
  unfold LF
  split
  · rename_i h
    rw [if_neg]
    simp only [List.any_eq_true, not_exists, not_and]
    exact fun x hx => List.find?_eq_none.1 h x hx
  · rename_i i h
    rw [if_pos]
    exact List.any_eq_true.2 ⟨i, List.mem_of_find?_eq_some h, List.find?_some h⟩
end Go.Vm
