/-
  A region that draws its order and writes: first all that is quiet and ready, then what has an effect, one by one.
-/
import Derived.Test.YtafflcbcpbgloaaQ7VmU
namespace Go.Vm

def aft (ops : Array Oper) (i j : Nat) : Bool := match ops[j]? with
  | some oj => oj.after.any fun e => Region.binds .any e && e.on == i
  | none => true

/-- What the heap holds there, if there is a place. -/
def At (h : Heap) (k : Option Key) (e : Ent) : Prop := ∀ q, k = some q → h q = some e
theorem At.s {h : Heap} {k : Key} {e : Ent} (a : At h (some k) e) : h k = some e := a k rfl
theorem At.of {h : Heap} {k : Key} {e : Ent} (a : h k = some e) : At h (some k) e := fun _ hq => by cases hq; exact a
/-- What quiet operations still to come read of the heap, and before which store. -/
def InvL : List (Nat × Option Key × Ent) → Array Bool → Heap → Prop
  | [], _, _ => True
  | (b, k, e) :: r, S, h => (S.getD b false = false → At h k e) ∧ InvL r S h

theorem getD_set_false {S : Array Bool} {b j : Nat} (h : (S.setIfInBounds j true).getD b false = false) : S.getD b false = false := by
  cases e : S.getD b false with
  | false => rfl
  | true => rw [getD_set_true e] at h; cases h
theorem InvL.mono {j : Nat} {S : Array Bool} {h : Heap} : ∀ {fs : List (Nat × Option Key × Ent)}, InvL fs S h → InvL fs (S.setIfInBounds j true) h
  | [], _ => trivial
  | (_, _, _) :: _, hi => ⟨fun e => hi.1 (getD_set_false e), hi.2.mono⟩
section game
variable {P : Program} {ops : Array Oper} {K : Fr → Heap → Prop} {fs : List (Nat × Option Key × Ent)}

variable {h : Heap} {n : Nat} {kvs : KV} {ty : TypeId} {pos : String} {aft' : Array Edge}

end game
end Go.Vm
