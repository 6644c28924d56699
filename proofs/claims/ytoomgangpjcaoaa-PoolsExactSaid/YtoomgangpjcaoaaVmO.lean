/-
  A growing slice that begins as nil: one form for nil and for a growable array of its own.
-/
import Derived.Test.YtoomgangpjcaoaaVmL
namespace Go.Vm

def own (t : Option Key) (sz : Nat) (xs : List (List AV)) : AV := match t with
  | none => .sc (.slice none 0 0)
  | some k => .sl (some k) sz xs
def ownH (h : Heap) (t : Option Key) (e sz n : Nat) : Heap := match t with
  | none => h
  | some k => upd h k (some (.tok e sz (n * sz)))
/-- What is known of the key. -/
structure OwnOk (h : Heap) (t : Option Key) (xs : List (List AV)) : Prop where
  nil : t = none → xs = []
  new : ∀ k, t = some k → h k = none

theorem OwnOk.none (h : Heap) : OwnOk h none [] := ⟨fun _ => rfl, fun _ e => (by cases e)⟩

theorem own_sub {h : Heap} {t : Option Key} {xs : List (List AV)} (ok : OwnOk h t xs) (e sz n : Nat) : Sub h (ownH h t e sz n) := by
  cases t with
  | none => exact Sub.refl h
  | some k => exact (Sub.refl h).upd (ok.new k rfl) _

theorem own_le {h : Heap} {t : Option Key} {xs : List (List AV)} (ok : OwnOk h t xs) (sz : Nat) : ALe h (own t sz xs) (.sl none sz xs) := by
  cases t with
  | none => rw [ok.nil rfl]; exact ALe.nil h sz 0 (by simp [maxLen])
  | some k => exact ALe.freeze (fun _ _ _ => by rw [ok.new k rfl]; simp) sz xs

theorem ALeL.put {h : Heap} {x y : AV} : ∀ (i : Nat) (fr : List AV), fr[i]? = some x → ALe h x y → ALeL h fr (fr.set i y)
  | _, [], e, _ => by simp at e
  | 0, z :: fr, e, hl => by
    simp only [List.getElem?_cons_zero, Option.some.injEq] at e
    subst e
    exact .cons hl (ALeL.refl h fr)
  | i + 1, z :: fr, e, hl => .cons (ALe.refl h z) (ALeL.put i fr (by simpa using e) hl)

section ops
variable {P : Program} {o : Oper} {K : AV → Heap → Prop} {fr : Fr} {h : Heap}

theorem AOp_append_own {s x : Operand} {ty e : TypeId} {sz b : Nat} (hop : o.op = .call { callee := .builtin .append, args := #[s, x], argTypes := #[ty, ty] }) (d : Nat) (ht : ElT P ty e sz b)
    {h0 : Heap} {t : Option Key} {xs ys : List (List AV)} (hs : ev fr s = own t sz xs) (hh : h = ownH h0 t e sz xs.length) (ok : OwnOk h0 t xs) (hx : srcOf h sz (ev fr x) = some ys) (hb : (xs.length + ys.length) * (b + 1) ≤ 140737488355328)
    (hK : ∀ t', OwnOk h0 t' (xs ++ ys) → K (own t' sz (xs ++ ys)) (ownH h0 t' e sz (xs ++ ys).length)) : AOp P o K fr h := by
  cases t with
  | none =>
    have hx0 := ok.nil rfl
    subst hx0
    have hh' : h = h0 := hh
    subst hh'
    refine AOp_append_nil hop d ht hs (.inl rfl) hx (by simpa using hb) (fun e => ?_) (fun e n hn => ?_)
    · subst e
      exact hK none ⟨fun _ => rfl, fun _ e => (by cases e)⟩
    · exact hK (some (d, n)) ⟨fun e => (by cases e), fun k e => (by cases e; exact hn)⟩
  | some k =>
    subst hh
    refine AOp_append_tok hop ht hs (upd_same _ _ _) hx hb ?_
    have h2 := hK (some k) ⟨fun e => (by cases e), fun k' e => ok.new k' e⟩
    have e : upd (ownH h0 (some k) e sz xs.length) k (some (.tok e sz ((xs ++ ys).length * sz))) = ownH h0 (some k) e sz (xs ++ ys).length := by
      funext q; simp only [ownH, upd]; split <;> rfl
    rw [e]
    exact h2
end ops
end Go.Vm
