/-
  Sets: maps from strings or integers to true, made by the call.
-/
import Derived.Test.YtafflcbcpbgloaaQ7VmW
namespace Go.Vm

section
variable {P : Program} {E : Env} {h : Heap} {w : World}

end

/-! ### Sets -/

def kI (x : Int) : Value := .int .i64 x
/-- Keys of a kind: how they are held against each other. -/
structure KeyT (P : Program) (t : TypeId) {α : Type} [BEq α] (k : α → Value) : Prop where
  law : ∀ x y : α, (x == y) = true → x = y
  d : ∃ kd, P.underlying t = some kd ∧ (∀ x y, Instr.sameNow kd (k x) (k y) = some (x == y)) ∧ (∀ x b w, (Instr.checkKey b 10000 t (k x)).run P w = .ok () w)
  bits : ∀ x, Instr.sameBits 10000 (k x) (k x) = true
theorem sameBits_int (n : Nat) (x : Int) : Instr.sameBits n (.int .i64 x) (.int .i64 x) = true := by cases n <;> simp [Instr.sameBits]
theorem checkKey_int {P : Program} {t : TypeId} (ht : P.underlying t = some (.int .i64)) (n : Nat) (x : Int) (b : Bool) (w : World) : (Instr.checkKey b (n + 1) t (.int .i64 x)).run P w = .ok () w := by
  simp [Instr.checkKey, run_underlying ht]
theorem KeyT.int {P : Program} {t : TypeId} (ht : P.underlying t = some (.int .i64)) : KeyT P t kI :=
  ⟨fun x y h => by simpa using h, ⟨_, ht, fun x y => by simp only [Instr.sameNow, kI, if_true], fun x b w => checkKey_int ht 9999 x b w⟩, fun x => sameBits_int 10000 x⟩

section ops
variable {P : Program} {h h0 : Heap} {L : HL} {n : Nat} {kvs : KV} {ty : TypeId} {pos : String} {aft : Array Edge}

end ops
end Go.Vm
