/-
  Plain laws of the models' loops.
-/
import Derived.Test.YtafflcbcpbgloaaQ7Types
namespace Go.Vm

theorem wr {n : Int} (h : -9223372036854775808 ≤ n) (h2 : n < 9223372036854775808) : IntKind.wrap .i64 n = n := by
  have e : IntKind.wrap .i64 n = (if decide (n % 18446744073709551616 ≥ 9223372036854775808) = true then n % 18446744073709551616 - 18446744073709551616 else n % 18446744073709551616) := rfl
  rw [e]
  simp only [decide_eq_true_eq]
  split <;> omega
theorem wr1 {i : Nat} (h : i < 1000000000) : IntKind.wrap .i64 ((i : Int) + 1) = ((i + 1 : Nat) : Int) := by rw [wr (by omega) (by omega)]; rfl
theorem wr_1 {i : Nat} (h : i < 1000000000) (h0 : 0 < i) : IntKind.wrap .i64 ((i : Int) - 1) = ((i - 1 : Nat) : Int) := by rw [wr (by omega) (by omega)]; omega
theorem ix_nat {α : Type} (l : List α) (i : Nat) : ix l (i : Int) = l[i]? := by simp [ix]
theorem ix_pos {α : Type} (l : List α) {i : Int} (h : 0 ≤ i) : ix l i = l[i.toNat]? := by simp [ix, h]
theorem app_some {α : Type} {xs ys : List α} (h : xs.length + ys.length ≤ 1000000000) : app xs ys = some (xs ++ ys) := by simp [app, h]

theorem after_brk {σ ρ : Type} (s : σ) (k : σ → Option ρ) : after (some (.brk s)) k = k s := rfl
end Go.Vm
