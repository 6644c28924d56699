/-
  More operations: a slice held against nil, literals without elements, bytes to strings, make.
-/
import Derived.Test.YtoomgangpjcaoaaK7VmK
import Derived.Laws.Cover3
import Derived.Laws.BytesString
namespace Go.Vm

section ops
variable {P : Program} {o : Oper} {K : AV → Heap → Prop} {fr : Fr} {h : Heap}

/-- A slice held against nil. -/
theorem AOp_eqnil {t u : TypeId} {x : Operand} (hop : o.op = .binOp .eql t x (.const (.slice none 0 0)) u) (ht : (elS P t).isSome = true) {y : AV} (hx : ev fr x = y)
    (hy : (∃ tag sz xs, y = .sl tag sz xs ∧ ∀ b : Bool, (xs ≠ [] → b = false) → K (.sc (.bool b)) h) ∨ (y = .sc (.slice none 0 0) ∧ K (.sc (.bool true)) h) ∨ (y = .e0 ∧ ∀ b : Bool, K (.sc (.bool b)) h)) : AOp P o K fr h := by
  intro E w a r hv Nx Qx hn
  have vx := hv x (by rw [hop]; simp [Op.operands])
  rw [hx] at vx
  obtain ⟨s, hs⟩ := Option.isSome_iff_exists.1 ht
  obtain ⟨e, hu, _⟩ := elS_spec hs
  have run : ∀ q n c, a.eval x = .slice q n c → (execOp a.eval o).run P w = .ok (.value (.bool q.isNone)) w := by
    intro q n c he
    have h2 : a.eval (.const (.slice none 0 0)) = .slice none 0 0 := rfl
    simp only [execOp, hop, he, h2]
    have h3 : (binOp .eql t (.slice q n c) (.slice none 0 0)).run P w = .ok (.bool q.isNone) w := by
      simp only [binOp]
      simp [run_equal_slice_nil w t e q n c hu]
    simp [eqGuard, h3]
  unfold Oper.wp
  rcases hy with ⟨tag, sz, xs, rfl, hk⟩ | ⟨rfl, hk⟩ | ⟨rfl, hk⟩
  · have vx' := vx
    simp only [VR] at vx
    obtain ⟨q, cap, e1, _, _, h3, _⟩ := vx
    rw [run q _ cap e1]
    refine hn _ _ w E h (Keep.refl E w) r (by simp only [VR]) (hk q.isNone ?_)
    intro hne
    obtain ⟨g, oo, rfl, _⟩ := h3.resolve_left hne
    rfl
  · simp only [VR] at vx
    rw [run none 0 0 vx]
    exact hn _ _ w E h (Keep.refl E w) r (by simp only [VR]; rfl) hk
  · simp only [VR] at vx
    obtain ⟨q, e1⟩ := vx
    rw [run q 0 0 e1]
    exact hn _ _ w E h (Keep.refl E w) r (by simp only [VR]) (hk q.isNone)

/-- A slice literal without elements. -/
theorem AOp_lit0 {t e : TypeId} {sz b : Nat} (hop : o.op = .buildSlice t 0 #[]) (ht : ElT P t e sz b) (hK : K .e0 h) : AOp P o K fr h := by
  intro E w a r hv Nx Qx hn
  obtain ⟨cur, c1, c2⟩ := exec_lit (w := w) (a := a) hop ht (by simp) (by simp) (by simp)
  obtain ⟨E', e1, e2, e3⟩ := r.new_imm e (0, 0) cur
  unfold Oper.wp
  rw [c2]
  exact hn _ _ _ E' h e2 e3 (by simp only [VR]; exact ⟨_, rfl⟩) hK

end ops
end Go.Vm
