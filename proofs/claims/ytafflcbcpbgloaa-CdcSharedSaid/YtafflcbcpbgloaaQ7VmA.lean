/-
  Abstract values over the model's memory: what a value in memory stands for, and how that is kept from world to world.
-/
import Derived.Calls
import Derived.Laws.AppendOwn
import Derived.Below
namespace Go.Vm

abbrev Key := Nat × Nat

inductive AV where
  | any
  | sc (v : Value)
  | agg (xs : List AV)
  | tup (xs : List AV)
  | sl (tag : Option Key) (sz : Nat) (xs : List (List AV))
  | rp (tag : Option Key) (xs : List AV)
  | ptr (k : Key) (off : Nat)
  | view (k : Key) (off n : Nat)
  | fn (f : Fn) (caps : List AV)
  | ifc (t : TypeId) (x : AV)
  | e0
  | mpv (k : Key)
  | vw (k : Key) (n cap : Nat)
  deriving Inhabited

structure Tk where
  sz : Nat
  m : Nat
  cap : Nat
  b : Nat

structure Env where
  imm : Nat → Nat → Prop
  lock : Nat → Prop
  used : Key → Prop
  ob : Key → Option Nat
  tk : Key → Option Tk

def Env.prot (E : Env) (tag : Option Key) (g o : Nat) : Prop :=
  E.imm g o ∨ ∃ k t, tag = some k ∧ E.tk k = some t ∧ g = t.b ∧ o < t.m

mutual
def VR (E : Env) (w : World) : AV → Value → Prop
  | .any, _ => True
  | .sc x, v => v = x
  | .agg xs, v => ∃ cs : Array Value, v = .agg cs ∧ VRL E w xs cs.toList
  | .tup xs, v => ∃ cs : Array Value, v = .tuple cs ∧ VRL E w xs cs.toList
  | .sl tag sz xs, v => ∃ a cap, v = .slice a xs.length cap ∧ xs.length ≤ cap ∧ cap ≤ maxLen ∧
      (xs = [] ∨ ∃ g o, a = some ⟨g, o, none⟩ ∧ VRG E w tag g o xs) ∧ (∀ x ∈ xs, x.length = sz) ∧
      (∀ k, tag = some k → E.used k ∧ ∀ t, E.tk k = some t → xs.length * sz ≤ t.m ∧ (xs.length * sz = t.m → a = some ⟨t.b, 0, none⟩ ∧ cap = t.cap ∧ sz = t.sz))
  | .rp tag xs, v => ∃ g o, v = .pointer (some ⟨g, o, none⟩) ∧ VRM E w tag g o xs
  | .ptr k off, v => ∃ g, E.ob k = some g ∧ v = .pointer (some ⟨g, off, none⟩)
  | .view k off n, v => ∃ g cap, E.ob k = some g ∧ v = .slice (some ⟨g, off, none⟩) n cap ∧ n ≤ cap ∧ cap ≤ maxLen
  | .fn f caps, v => ∃ cs : Array Value, v = .func f #[] cs ∧ VRL E w caps cs.toList
  | .ifc t x, v => ∃ y, v = .iface t y ∧ VR E w x y
  | .e0, v => ∃ a, v = .slice a 0 0
  | .mpv k, v => ∃ g, E.ob k = some g ∧ v = .map (some g)
  | .vw k n cap, v => ∃ g, E.ob k = some g ∧ v = .slice (some ⟨g, 0, none⟩) n cap ∧ n ≤ cap ∧ cap ≤ maxLen
def VRL (E : Env) (w : World) : List AV → List Value → Prop
  | [], [] => True
  | x :: xs, v :: vs => VR E w x v ∧ VRL E w xs vs
  | _, _ => False
def VRM (E : Env) (w : World) (tag : Option Key) (g o : Nat) : List AV → Prop
  | [] => True
  | x :: xs => E.prot tag g o ∧ (∃ cv, w.cell? ⟨g, o, none⟩ = some cv ∧ cv.oneCell' = true ∧ VR E w x cv) ∧ VRM E w tag g (o + 1) xs
def VRG (E : Env) (w : World) (tag : Option Key) (g o : Nat) : List (List AV) → Prop
  | [] => True
  | x :: xs => VRM E w tag g o x ∧ VRG E w tag g (o + x.length) xs
end

end Go.Vm
namespace Go.Vm

structure Keep (E : Env) (w : World) (E' : Env) (w' : World) : Prop where
  imm : ∀ g o, E.imm g o → E'.imm g o ∧ w'.cell? ⟨g, o, none⟩ = w.cell? ⟨g, o, none⟩
  lockEq : ∀ g, E'.lock g ↔ E.lock g
  lock : ∀ g, E.lock g → w'.heap[g]? = w.heap[g]?
  used : ∀ k, E.used k → E'.used k
  ob : ∀ k g, E.ob k = some g → E'.ob k = some g
  tkc : ∀ k t, E.tk k = some t → ∀ o, o < t.m →
    (E'.imm t.b o ∨ ∃ t', E'.tk k = some t' ∧ t'.b = t.b ∧ o < t'.m) ∧ w'.cell? ⟨t.b, o, none⟩ = w.cell? ⟨t.b, o, none⟩
  tkf : ∀ k t', E'.tk k = some t' → E.used k → ∃ t, E.tk k = some t ∧ t.m ≤ t'.m ∧ (t.m = t'.m → t = t')
  os : w'.os = w.os
  tape : w'.tape = w.tape
  output : w'.output = w.output
  size : w.heap.size ≤ w'.heap.size

theorem Keep.refl (E : Env) (w : World) : Keep E w E w :=
  ⟨fun _ _ h => ⟨h, rfl⟩, fun _ => Iff.rfl, fun _ _ => rfl, fun _ h => h, fun _ _ h => h,
   fun _ t h _ ho => ⟨.inr ⟨t, h, rfl, ho⟩, rfl⟩, fun _ t h _ => ⟨t, h, Nat.le_refl _, fun _ => rfl⟩, rfl, rfl, rfl, Nat.le_refl _⟩

theorem Keep.trans {E E' E'' : Env} {w w' w'' : World} (h : Keep E w E' w') (k : Keep E' w' E'' w'') : Keep E w E'' w'' where
  imm g o hi := ⟨(k.imm g o (h.imm g o hi).1).1, (k.imm g o (h.imm g o hi).1).2.trans (h.imm g o hi).2⟩
  lockEq g := (k.lockEq g).trans (h.lockEq g)
  lock g hg := (k.lock g ((h.lockEq g).2 hg)).trans (h.lock g hg)
  used x hx := k.used x (h.used x hx)
  ob x g hx := k.ob x g (h.ob x g hx)
  tkc x t hx o ho := by
    obtain ⟨h1, h2⟩ := h.tkc x t hx o ho
    rcases h1 with h1 | ⟨t', h1, hb, hm⟩
    · exact ⟨.inl (k.imm _ _ h1).1, (k.imm _ _ h1).2.trans h2⟩
    · obtain ⟨h3, h4⟩ := k.tkc x t' h1 o hm
      rw [hb] at h3 h4
      refine ⟨?_, h4.trans h2⟩
      rcases h3 with h3 | ⟨t'', h3, hb', hm'⟩
      · exact .inl h3
      · exact .inr ⟨t'', h3, hb', hm'⟩
  tkf x t'' hx hu := by
    obtain ⟨t', h1, h2, h3⟩ := k.tkf x t'' hx (h.used x hu)
    obtain ⟨t, h4, h5, h6⟩ := h.tkf x t' h1 hu
    refine ⟨t, h4, Nat.le_trans h5 h2, fun e => ?_⟩
    have e1 : t.m = t'.m := by omega
    have e2 : t'.m = t''.m := by omega
    rw [h6 e1, h3 e2]
  os := k.os.trans h.os
  tape := k.tape.trans h.tape
  output := k.output.trans h.output
  size := Nat.le_trans h.size k.size

/-- What keeps values. -/
structure KeepV (E : Env) (w : World) (E' : Env) (w' : World) : Prop where
  imm : ∀ g o, E.imm g o → E'.imm g o ∧ w'.cell? ⟨g, o, none⟩ = w.cell? ⟨g, o, none⟩
  used : ∀ k, E.used k → E'.used k
  ob : ∀ k g, E.ob k = some g → E'.ob k = some g
  tkc : ∀ k t, E.tk k = some t → ∀ o, o < t.m →
    (E'.imm t.b o ∨ ∃ t', E'.tk k = some t' ∧ t'.b = t.b ∧ o < t'.m) ∧ w'.cell? ⟨t.b, o, none⟩ = w.cell? ⟨t.b, o, none⟩
  tkf : ∀ k t', E'.tk k = some t' → E.used k → ∃ t, E.tk k = some t ∧ t.m ≤ t'.m ∧ (t.m = t'.m → t = t')
theorem Keep.v {E E' : Env} {w w' : World} (h : Keep E w E' w') : KeepV E w E' w' := ⟨h.imm, h.used, h.ob, h.tkc, h.tkf⟩

theorem Env.prot_keep {E E' : Env} {w w' : World} (h : KeepV E w E' w') {tag : Option Key} {g o : Nat} (hp : E.prot tag g o) :
    E'.prot tag g o ∧ w'.cell? ⟨g, o, none⟩ = w.cell? ⟨g, o, none⟩ := by
  rcases hp with hp | ⟨k, t, rfl, ht, rfl, ho⟩
  · exact ⟨.inl (h.imm _ _ hp).1, (h.imm _ _ hp).2⟩
  · obtain ⟨h1, h2⟩ := h.tkc k t ht o ho
    refine ⟨?_, h2⟩
    rcases h1 with h1 | ⟨t', h1, hb, hm⟩
    · exact .inl h1
    · exact .inr ⟨k, t', rfl, h1, hb.symm, hm⟩

mutual
theorem VR_keepV {E E' : Env} {w w' : World} (h : KeepV E w E' w') : ∀ (x : AV) (v : Value), VR E w x v → VR E' w' x v
  | .any, _, _ => by simp only [VR]
  | .sc x, v, hv => by simpa only [VR] using hv
  | .agg xs, v, hv => by
    simp only [VR] at hv ⊢
    obtain ⟨cs, rfl, hc⟩ := hv
    exact ⟨cs, rfl, VRL_keepV h xs _ hc⟩
  | .tup xs, v, hv => by
    simp only [VR] at hv ⊢
    obtain ⟨cs, rfl, hc⟩ := hv
    exact ⟨cs, rfl, VRL_keepV h xs _ hc⟩
  | .sl tag sz xs, v, hv => by
    simp only [VR] at hv ⊢
    obtain ⟨a, cap, rfl, h1, h2, h3, h4, h5⟩ := hv
    refine ⟨a, cap, rfl, h1, h2, ?_, h4, ?_⟩
    · rcases h3 with h3 | ⟨g, o, rfl, h3⟩
      · exact .inl h3
      · exact .inr ⟨g, o, rfl, VRG_keepV h tag g o xs h3⟩
    · intro k hk
      obtain ⟨hu, ht⟩ := h5 k hk
      refine ⟨h.used k hu, fun t' ht' => ?_⟩
      obtain ⟨t, e1, e2, e3⟩ := h.tkf k t' ht' hu
      obtain ⟨f1, f2⟩ := ht t e1
      refine ⟨Nat.le_trans f1 e2, fun e => ?_⟩
      have e4 : t.m = t'.m := by omega
      rw [← e3 e4]
      exact f2 (by omega)
  | .rp tag xs, v, hv => by
    simp only [VR] at hv ⊢
    obtain ⟨g, o, rfl, hv⟩ := hv
    exact ⟨g, o, rfl, VRM_keepV h tag g o xs hv⟩
  | .ptr k off, v, hv => by
    simp only [VR] at hv ⊢
    obtain ⟨g, hg, rfl⟩ := hv
    exact ⟨g, h.ob _ _ hg, rfl⟩
  | .view k off n, v, hv => by
    simp only [VR] at hv ⊢
    obtain ⟨g, cap, hg, rfl, r⟩ := hv
    exact ⟨g, cap, h.ob _ _ hg, rfl, r⟩
  | .fn f caps, v, hv => by
    simp only [VR] at hv ⊢
    obtain ⟨cs, rfl, hc⟩ := hv
    exact ⟨cs, rfl, VRL_keepV h caps _ hc⟩
  | .ifc t x, v, hv => by
    simp only [VR] at hv ⊢
    obtain ⟨y, rfl, hy⟩ := hv
    exact ⟨y, rfl, VR_keepV h x y hy⟩
  | .e0, v, hv => by simpa only [VR] using hv
  | .mpv k, v, hv => by
    simp only [VR] at hv ⊢
    obtain ⟨g, hg, rfl⟩ := hv
    exact ⟨g, h.ob _ _ hg, rfl⟩
  | .vw k n cap, v, hv => by
    simp only [VR] at hv ⊢
    obtain ⟨g, hg, rfl, r⟩ := hv
    exact ⟨g, h.ob _ _ hg, rfl, r⟩
theorem VRL_keepV {E E' : Env} {w w' : World} (h : KeepV E w E' w') : ∀ (xs : List AV) (vs : List Value), VRL E w xs vs → VRL E' w' xs vs
  | [], [], _ => by simp only [VRL]
  | x :: xs, v :: vs, hv => by
    simp only [VRL] at hv ⊢
    exact ⟨VR_keepV h x v hv.1, VRL_keepV h xs vs hv.2⟩
  | [], _ :: _, hv => by simp only [VRL] at hv
  | _ :: _, [], hv => by simp only [VRL] at hv
theorem VRM_keepV {E E' : Env} {w w' : World} (h : KeepV E w E' w') (tag : Option Key) (g : Nat) : ∀ (o : Nat) (xs : List AV), VRM E w tag g o xs → VRM E' w' tag g o xs
  | _, [], _ => by simp only [VRM]
  | o, x :: xs, hv => by
    simp only [VRM] at hv ⊢
    obtain ⟨h1, ⟨cv, h2, h3, h4⟩, h5⟩ := hv
    obtain ⟨p1, p2⟩ := Env.prot_keep h h1
    exact ⟨p1, ⟨cv, p2.trans h2, h3, VR_keepV h x cv h4⟩, VRM_keepV h tag g (o + 1) xs h5⟩
theorem VRG_keepV {E E' : Env} {w w' : World} (h : KeepV E w E' w') (tag : Option Key) (g : Nat) : ∀ (o : Nat) (xs : List (List AV)), VRG E w tag g o xs → VRG E' w' tag g o xs
  | _, [], _ => by simp only [VRG]
  | o, x :: xs, hv => by
    simp only [VRG] at hv ⊢
    exact ⟨VRM_keepV h tag g o x hv.1, VRG_keepV h tag g _ xs hv.2⟩
end

theorem VR_keep {E E' : Env} {w w' : World} (h : Keep E w E' w') : ∀ (x : AV) (v : Value), VR E w x v → VR E' w' x v := VR_keepV h.v
theorem VRL_keep {E E' : Env} {w w' : World} (h : Keep E w E' w') : ∀ (xs : List AV) (vs : List Value), VRL E w xs vs → VRL E' w' xs vs := VRL_keepV h.v
end Go.Vm
