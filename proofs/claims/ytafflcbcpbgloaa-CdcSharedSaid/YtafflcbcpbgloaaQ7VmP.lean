/-
  Heaps in another order; calls that take an object by its pointer.
-/
import Derived.Test.YtafflcbcpbgloaaQ7VmZ
import Derived.Test.YtafflcbcpbgloaaQ7VmY
namespace Go.Vm

theorem upd_comm (h : Heap) {k k' : Key} (e e' : Option Ent) (hn : k ≠ k') : upd (upd h k e) k' e' = upd (upd h k' e') k e := by
  funext x
  unfold upd
  by_cases h1 : x = k
  · by_cases h2 : x = k'
    · exact absurd (h1.symm.trans h2) hn
    · simp [h1, hn]
  · simp [h1]

theorem HOk.co {h0 : Heap} {L : HL} {x : Option Key × Ent} (a : HOk h0 L) (b : HOk (hp h0 L) [x]) : HOk h0 (x :: L) := ⟨a, b.2⟩

theorem LeF.aops {P : Program} {ops : Array Oper} {l : List Oper} {K : Fr → Heap → Prop} {fr fr' : Fr} {h h' : Heap} (le : LeF fr' h' fr h) (k : AOps P ops l K fr' h') : AOps P ops l K fr h := by
  intro E w a r vv d Q hQ
  obtain ⟨E', k', r', v'⟩ := le E w _ r vv
  exact k E' w a r' v' d Q fun a' w' p => hQ _ _ (p.trans k')
/-- What holds at the end may be said in fewer words. -/
def LqE (Q : Exit → Fr → Heap → Prop) : Exit → Fr → Heap → Prop := fun e fr h => ∃ fr' h', LeF fr' h' fr h ∧ Q e fr' h'
theorem LqE.mk {Q : Exit → Fr → Heap → Prop} {e : Exit} {fr fr' : Fr} {h h' : Heap} (le : LeF fr' h' fr h) (q : Q e fr' h') : LqE Q e fr h := ⟨_, _, le, q⟩
end Go.Vm
