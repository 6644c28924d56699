/-
  More operations: two truth values held against each other; two arrays of bytes.
-/
import Derived.Test.YtoomgangpjcaoaaK7VmL
import Derived.Stop.BytesEq
namespace Go.Vm
section ops
variable {P : Program} {o : Oper} {K : AV → Heap → Prop} {fr : Fr} {h : Heap}

def eqOp (op : BinOp) (a b : Bool) : Option Bool := match op with | .eql => some (a == b) | .neq => some (a != b) | _ => none

theorem AOp_beq {op : BinOp} {t u : TypeId} {x y : Operand} (hop : o.op = .binOp op t x y u) (ht : P.underlying t = some .bool) {a b r : Bool} (hx : ev fr x = .sc (.bool a)) (hy : ev fr y = .sc (.bool b)) (hr : eqOp op a b = some r)
    (hK : K (.sc (.bool r)) h) : AOp P o K fr h := by
  refine AOp_value (x := .sc (.bool r)) (fun E w ac _ hv => ?_) hK
  have vx := hv x (by rw [hop]; simp [Op.operands])
  have vy := hv y (by rw [hop]; simp [Op.operands])
  rw [hx] at vx; rw [hy] at vy
  simp only [VR] at vx vy
  refine ⟨.bool r, ?_, by simp only [VR]⟩
  have he : ∀ d, (Op.equalIn (d + 1) t (.bool a) (.bool b)).run P w = .ok (a == b) w := fun d => run_equalIn_bool' w d t a b ht
  simp only [execOp, hop, vx, vy]
  cases op <;> simp only [eqOp, Option.some.injEq, reduceCtorEq] at hr
  · subst hr
    simp [eqGuard, binOp, Op.equal, Op.maxDepth, he 9999]
  · subst hr
    simp [eqGuard, binOp, Op.equal, Op.maxDepth, he 9999]
    cases a <;> cases b <;> rfl
end ops
end Go.Vm
