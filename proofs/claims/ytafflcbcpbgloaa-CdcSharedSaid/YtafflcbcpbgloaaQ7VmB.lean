/-
  The abstract heap, and how it stands to a world.
-/
import Derived.Test.YtafflcbcpbgloaaQ7VmA
namespace Go.Vm

inductive Ent where
  | obj (ty : TypeId) (cs : List AV)
  | tok (ty : TypeId) (sz m : Nat)
  | mp (es : List (Value × Value))

def Ent.isOb : Ent → Bool
  | .tok _ _ _ => false
  | _ => true

abbrev Heap := Key → Option Ent

def upd (h : Heap) (k : Key) (e : Option Ent) : Heap := fun k' => if k' = k then e else h k'

theorem upd_same (h : Heap) (k : Key) (e : Option Ent) : upd h k e k = e := by simp [upd]
theorem upd_ne (h : Heap) {k k' : Key} (e : Option Ent) (hn : k' ≠ k) : upd h k e k' = h k' := by simp [upd, hn]

/-- The block of a live entry. -/
def Env.at (E : Env) (h : Heap) (k : Key) (g : Nat) : Prop :=
  (∃ e, ∃ _ : e.isOb = true, h k = some e ∧ E.ob k = some g) ∨ (∃ ty sz m t, h k = some (.tok ty sz m) ∧ E.tk k = some t ∧ t.b = g)

structure Rel (E : Env) (h : Heap) (w : World) : Prop where
  obj : ∀ k ty cs, h k = some (.obj ty cs) → ∃ g cur, E.ob k = some g ∧ w.heap[g]? = some (.cells cur ty (0, 0)) ∧ VRL E w cs cur.toList ∧ (∀ v ∈ cur.toList, v.oneCell' = true)
  tok : ∀ k ty sz m, h k = some (.tok ty sz m) → ∃ t cur, E.tk k = some t ∧ t.sz = sz ∧ t.m = m ∧ w.heap[t.b]? = some (.cells cur ty (0, 0)) ∧ cur.size = t.cap * sz ∧ m ≤ cur.size ∧ t.cap ≤ maxLen
  tkh : ∀ k t, E.tk k = some t → ∃ ty, h k = some (.tok ty t.sz t.m)
  sep : ∀ k k' g, E.at h k g → E.at h k' g → k = k'
  dis : ∀ k g, E.at h k g → ¬ E.lock g ∧ ∀ o, ¬ E.imm g o
  hus : ∀ k e, h k = some e → E.used k
  obu : ∀ k g, E.ob k = some g → E.used k
  fre : ∀ d, ∃ G, ∀ n, G ≤ n → ¬ E.used (d, n)
  imb : ∀ g o, E.imm g o → ∃ v, w.cell? ⟨g, o, none⟩ = some v
  lkb : ∀ g, E.lock g → g < w.heap.size
  mp : ∀ k es, h k = some (.mp es) → ∃ g ents clk, E.ob k = some g ∧ w.heap[g]? = some (.map ents clk) ∧ ents.toList.map (fun e => (e.key, e.val)) = es

theorem Rel.at_lt {E : Env} {h : Heap} {w : World} (r : Rel E h w) {k : Key} {g : Nat} (ha : E.at h k g) : g < w.heap.size := by
  rcases ha with ⟨e, hb, h1, h2⟩ | ⟨ty, sz, m, t, h1, h2, rfl⟩
  · cases e with
    | obj ty cs =>
      obtain ⟨g', cur, e1, e2, _⟩ := r.obj k ty cs h1
      rw [h2] at e1; cases e1
      exact (Array.getElem?_eq_some_iff.1 e2).1
    | mp es =>
      obtain ⟨g', ents, clk, e1, e2, _⟩ := r.mp k es h1
      rw [h2] at e1; cases e1
      exact (Array.getElem?_eq_some_iff.1 e2).1
    | tok _ _ _ => cases hb
  · obtain ⟨t', cur, e1, _, _, e2, _⟩ := r.tok k ty sz m h1
    rw [h2] at e1; cases e1
    exact (Array.getElem?_eq_some_iff.1 e2).1

theorem block_of_cell {w : World} {g o : Nat} {v : Value} (h : w.cell? ⟨g, o, none⟩ = some v) : g < w.heap.size := by
  have := World.block_lt_of_cell? w _ h
  simpa using this

theorem cell_of_block {w w' : World} {g : Nat} (h : w'.heap[g]? = w.heap[g]?) (o : Nat) : w'.cell? ⟨g, o, none⟩ = w.cell? ⟨g, o, none⟩ :=
  World.cell?_of_block (a := ⟨g, o, none⟩) h

/-- Fewer entries. -/
theorem Rel.drop {E : Env} {h h' : Heap} {w : World} (r : Rel E h w) (hs : ∀ k e, h' k = some e → h k = some e) :
    ∃ E', Keep E w E' w ∧ Rel E' h' w := by
  refine ⟨{ E with
      imm := fun g o => E.imm g o ∨ ∃ k t, E.tk k = some t ∧ h' k = none ∧ g = t.b ∧ o < t.m
      tk := fun k => if (h' k).isSome then E.tk k else none }, ?_, ?_⟩
  · refine ⟨fun g o hi => ⟨.inl hi, rfl⟩, fun _ => Iff.rfl, fun _ _ => rfl, fun _ h => h, fun _ _ h => h, ?_, ?_, rfl, rfl, rfl, Nat.le_refl _⟩
    · intro k t ht o ho
      refine ⟨?_, rfl⟩
      cases hk : h' k with
      | none => exact .inl (.inr ⟨k, t, ht, hk, rfl, ho⟩)
      | some e => exact .inr ⟨t, by simp [hk, ht], rfl, ho⟩
    · intro k t' ht _
      simp only at ht
      split at ht
      · exact ⟨t', ht, Nat.le_refl _, fun _ => rfl⟩
      · cases ht
  · have key : Keep E w { E with
      imm := fun g o => E.imm g o ∨ ∃ k t, E.tk k = some t ∧ h' k = none ∧ g = t.b ∧ o < t.m
      tk := fun k => if (h' k).isSome then E.tk k else none } w := by
      refine ⟨fun g o hi => ⟨.inl hi, rfl⟩, fun _ => Iff.rfl, fun _ _ => rfl, fun _ h => h, fun _ _ h => h, ?_, ?_, rfl, rfl, rfl, Nat.le_refl _⟩
      · intro k t ht o ho
        refine ⟨?_, rfl⟩
        cases hk : h' k with
        | none => exact .inl (.inr ⟨k, t, ht, hk, rfl, ho⟩)
        | some e => exact .inr ⟨t, by simp [hk, ht], rfl, ho⟩
      · intro k t' ht _
        simp only at ht
        split at ht
        · exact ⟨t', ht, Nat.le_refl _, fun _ => rfl⟩
        · cases ht
    have at' : ∀ k g, Env.at { E with
      imm := fun g o => E.imm g o ∨ ∃ k t, E.tk k = some t ∧ h' k = none ∧ g = t.b ∧ o < t.m
      tk := fun k => if (h' k).isSome then E.tk k else none } h' k g → E.at h k g ∧ (h' k).isSome = true := by
      intro k g ha
      rcases ha with ⟨ty, cs, h1, h2⟩ | ⟨ty, sz, m, t, h1, h2, h3⟩
      · exact ⟨.inl ⟨ty, cs, hs _ _ h1, h2⟩, by simp [h1]⟩
      · simp only [h1, Option.isSome_some, if_true] at h2
        exact ⟨.inr ⟨ty, sz, m, t, hs _ _ h1, h2, h3⟩, by simp [h1]⟩
    constructor
    · intro k ty cs hk
      obtain ⟨g, cur, e1, e2, e3, e4⟩ := r.obj k ty cs (hs _ _ hk)
      exact ⟨g, cur, e1, e2, VRL_keep key _ _ e3, e4⟩
    · intro k ty sz m hk
      obtain ⟨t, cur, e1, e2⟩ := r.tok k ty sz m (hs _ _ hk)
      exact ⟨t, cur, by simp [hk, e1], e2⟩
    · intro k t hk
      simp only at hk
      split at hk
      · rename_i hsome
        obtain ⟨ty, e⟩ := r.tkh k t hk
        obtain ⟨e', he'⟩ := Option.isSome_iff_exists.1 hsome
        have := hs _ _ he'
        rw [e] at this
        cases this
        exact ⟨ty, he'⟩
      · cases hk
    · intro k k' g ha hb
      exact r.sep k k' g (at' _ _ ha).1 (at' _ _ hb).1
    · intro k g ha
      obtain ⟨h1, h2⟩ := r.dis k g (at' _ _ ha).1
      refine ⟨h1, fun o ho => ?_⟩
      rcases ho with ho | ⟨k', t, e1, e2, e3, _⟩
      · exact h2 o ho
      · obtain ⟨ty, e4⟩ := r.tkh k' t e1
        have : k = k' := r.sep k k' g (at' _ _ ha).1 (.inr ⟨ty, _, _, t, e4, e1, e3.symm⟩)
        subst this
        have := (at' _ _ ha).2
        rw [e2] at this
        cases this
    · exact fun k e hk => r.hus k e (hs _ _ hk)
    · exact r.obu
    · exact r.fre
    · intro g o ho
      rcases ho with ho | ⟨k', t, e1, e2, rfl, e4⟩
      · exact r.imb g o ho
      · obtain ⟨ty, e5⟩ := r.tkh k' t e1
        obtain ⟨t', cur, f1, f2, f3, f4, f5, f6, f7⟩ := r.tok _ _ _ _ e5
        rw [e1] at f1; cases f1
        have hlt : o < cur.size := by omega
        exact ⟨cur[o], by simp [World.cell?, f4, hlt]⟩
    · exact r.lkb
    · exact fun k es hk => r.mp k es (hs _ _ hk)

end Go.Vm
