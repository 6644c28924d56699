/-
  A growing slice that begins as nil: one form for nil and for a growable array of its own.
-/
import Derived.Test.YtafflcbcpbgloaaQ7VmL
namespace Go.Vm

def own (t : Option Key) (sz : Nat) (xs : List (List AV)) : AV := match t with
  | none => .sc (.slice none 0 0)
  | some k => .sl (some k) sz xs
/-- What is known of the key. -/
structure OwnOk (h : Heap) (t : Option Key) (xs : List (List AV)) : Prop where
  nil : t = none → xs = []
  new : ∀ k, t = some k → h k = none

theorem OwnOk.none (h : Heap) : OwnOk h none [] := ⟨fun _ => rfl, fun _ e => (by cases e)⟩

theorem ALeL.put {h : Heap} {x y : AV} : ∀ (i : Nat) (fr : List AV), fr[i]? = some x → ALe h x y → ALeL h fr (fr.set i y)
  | _, [], e, _ => by simp at e
  | 0, z :: fr, e, hl => by
    simp only [List.getElem?_cons_zero, Option.some.injEq] at e
    subst e
    exact .cons hl (ALeL.refl h fr)
  | i + 1, z :: fr, e, hl => .cons (ALe.refl h z) (ALeL.put i fr (by simpa using e) hl)

section ops
variable {P : Program} {o : Oper} {K : AV → Heap → Prop} {fr : Fr} {h : Heap}

end ops
end Go.Vm
