/-
  Ids of 32 bytes; results in cells; struct values; comparing bytes.
-/
import Derived.Test.YtafflcbcpbgloaaQ7VmQ
import Derived.Laws.Externs
namespace Go.Vm

abbrev Id32 := {l : List Int // l.length = 32}
def c_id (x : Id32) : List AV := (List.range 32).map fun i => .sc (.int .u8 (x.1.getD i 0))
theorem c_id_map (x : Id32) : c_id x = x.1.map fun z => AV.sc (.int .u8 z) := by
  apply List.ext_getElem
  · simp [c_id, x.2]
  · intro i h1 h2
    simp only [c_id, List.getElem_map, List.getElem_range]
    have : i < x.1.length := by simpa using h2
    simp [List.getD, List.getElem?_eq_getElem this]

section
variable {P : Program} (w : World)
end

theorem VRL_ints {E : Env} {w : World} : ∀ {xs : List Int} {vs : List Value}, VRL E w (xs.map fun z => AV.sc (.int .u8 z)) vs → vs = xs.map (Value.int .u8)
  | [], [], _ => rfl
  | x :: xs, v :: vs, h => by
    simp only [List.map_cons, VRL, VR] at h
    rw [h.1, VRL_ints h.2]; rfl
  | [], _ :: _, h => by simp [VRL] at h
  | _ :: _, [], h => by simp [VRL] at h

section ops
variable {P : Program} {ops : Array Oper} {h h0 : Heap} {L : HL} {n : Nat} {kvs : KV} {l : List Oper} {ty : TypeId} {pos : String} {aft : Array Edge}

/-! ### Results in cells -/

theorem Ret.of1 {r : ResultVar} {Q : AV → Heap → Prop} {e : Exit} {h'' : Heap} {x y : AV} (he : e = .ret ∨ e = .normal) (hx : rsA P h (fm n kvs) r = some x) (hs : Sub h'' h) (hl : ALe h'' x y) (hq : Q y h'') : Ret P [r] Q e (fm n kvs) h := by
  rcases he with rfl | rfl <;> exact ⟨x, y, h'', hx, hs, hl, hq⟩
theorem Ret.of2 {r1 r2 : ResultVar} {Q : AV → Heap → Prop} {e : Exit} {h'' : Heap} {x1 x2 y1 y2 : AV} (he : e = .ret ∨ e = .normal) (hx1 : rsA P h (fm n kvs) r1 = some x1) (hx2 : rsA P h (fm n kvs) r2 = some x2) (hs : Sub h'' h) (hl1 : ALe h'' x1 y1) (hl2 : ALe h'' x2 y2) (hq : Q (.tup [y1, y2]) h'') : Ret P [r1, r2] Q e (fm n kvs) h := by
  have hx : resA P h (fm n kvs) [r1, r2] = some (.tup [x1, x2]) := by simp only [resA, rsL, hx1, hx2, Option.bind_some, Option.map_some]
  rcases he with rfl | rfl <;> exact ⟨_, _, h'', hx, hs, ALe.tup (.cons hl1 (.cons hl2 .nil)), hq⟩
theorem rsT (P : Program) (h : Heap) {t : Nat} (x : AV) (hx : lk n kvs t = x) : rsA P h (fm n kvs) (.tmp t) = some x := by rw [rsA_fm, hx]

/-! ### Struct values -/

end ops
end Go.Vm
