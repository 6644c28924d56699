/-
  An object that is written no more: its cells stay from now on.
-/
import Derived.Test.YtafflcbcpbgloaaQ7VmL
namespace Go.Vm

/-- One value, when the object 'k' is written no more. -/
inductive Frz (k : Key) (cs : List AV) : AV → AV → Prop where
  | same (x : AV) : Frz k cs x x
  | view (off n sz : Nat) : 0 < sz → off + n * sz ≤ cs.length → Frz k cs (.view k off n) (.sl none sz (grp sz n (cs.drop off)))
inductive FrzL (k : Key) (cs : List AV) : List AV → List AV → Prop where
  | nil : FrzL k cs [] []
  | cons {x y : AV} {xs ys : List AV} : Frz k cs x y → FrzL k cs xs ys → FrzL k cs (x :: xs) (y :: ys)

theorem FrzL.refl (k : Key) (cs : List AV) : ∀ (xs : List AV), FrzL k cs xs xs
  | [] => .nil
  | x :: xs => .cons (.same x) (FrzL.refl k cs xs)
theorem FrzL.set (k : Key) (cs : List AV) {off n sz : Nat} (h0 : 0 < sz) (h1 : off + n * sz ≤ cs.length) : ∀ (i : Nat) (xs : List AV), xs[i]? = some (.view k off n) → FrzL k cs xs (xs.set i (.sl none sz (grp sz n (cs.drop off))))
  | _, [], h => by simp at h
  | 0, x :: xs, h => by
    simp only [List.getElem?_cons_zero, Option.some.injEq] at h
    subst h
    exact .cons (.view off n sz h0 h1) (FrzL.refl k cs xs)
  | i + 1, x :: xs, h => .cons (.same x) (FrzL.set k cs h0 h1 i xs (by simpa using h))

end Go.Vm
