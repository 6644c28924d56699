/-
  An object that is written no more: its cells stay from now on.
-/
import Derived.Test.YtoomgangpjcaoaaVmL
namespace Go.Vm

theorem Rel.freeze_obj {E : Env} {h : Heap} {w : World} (r : Rel E h w) {k : Key} {ty : TypeId} {cs : List AV} (hk : h k = some (.obj ty cs)) :
    ∃ E', Keep E w E' w ∧ Rel E' (upd h k none) w ∧ ∀ v off n sz, 0 < sz → off + n * sz ≤ cs.length → VR E w (.view k off n) v → VR E' w (.sl none sz (grp sz n (cs.drop off))) v := by
  obtain ⟨g, cur, g1, g2, g3, g4⟩ := r.obj _ _ _ hk
  have hat : E.at h k g := .inl ⟨_, rfl, hk, g1⟩
  obtain ⟨d1, d2⟩ := r.dis k g hat
  have hlen := VRL_length g3
  have hcell : ∀ o, w.cell? ⟨g, o, none⟩ = cur[o]? := by intro o; simp [World.cell?, g2]
  have key : Keep E w { E with imm := fun g' o => E.imm g' o ∨ (g' = g ∧ o < cs.length) } w := by
    refine ⟨fun g o hi => ⟨.inl hi, rfl⟩, fun _ => Iff.rfl, fun _ _ => rfl, fun _ h => h, fun _ _ h => h, ?_, fun _ t h _ => ⟨t, h, Nat.le_refl _, fun _ => rfl⟩, rfl, rfl, rfl, Nat.le_refl _⟩
    exact fun k t ht o ho => ⟨.inr ⟨t, ht, rfl, ho⟩, rfl⟩
  have at' : ∀ x g', Env.at { E with imm := fun g' o => E.imm g' o ∨ (g' = g ∧ o < cs.length) } (upd h k none) x g' → x ≠ k ∧ E.at h x g' := by
    intro x g' ha
    have hx : x ≠ k := by
      intro q; subst q
      rcases ha with ⟨_, _, q, _⟩ | ⟨_, _, _, _, q, _⟩ <;> (rw [upd_same] at q; cases q)
    refine ⟨hx, ?_⟩
    rcases ha with ⟨a1, b1, q1, q2⟩ | ⟨a1, b1, c1, t', q1, q2, q3⟩
    · rw [upd_ne _ _ hx] at q1; exact .inl ⟨a1, b1, q1, q2⟩
    · rw [upd_ne _ _ hx] at q1; exact .inr ⟨a1, b1, c1, t', q1, q2, q3⟩
  refine ⟨_, key, ⟨?_, ?_, ?_, ?_, ?_, ?_, r.obu, r.fre, ?_, r.lkb, ?_⟩, ?_⟩
  · intro x ty' cs' hx
    by_cases q : x = k
    · subst q; rw [upd_same] at hx; cases hx
    · rw [upd_ne _ _ q] at hx
      obtain ⟨g', cur', e1, e2, e3, e4⟩ := r.obj x ty' cs' hx
      exact ⟨g', cur', e1, e2, VRL_keep key _ _ e3, e4⟩
  · intro x ty' sz' m' hx
    by_cases q : x = k
    · subst q; rw [upd_same] at hx; cases hx
    · rw [upd_ne _ _ q] at hx
      exact r.tok x ty' sz' m' hx
  · intro x t hx
    obtain ⟨ty', e⟩ := r.tkh x t hx
    refine ⟨ty', ?_⟩
    have : x ≠ k := by intro q; subst q; rw [hk] at e; cases e
    rw [upd_ne _ _ this]; exact e
  · intro x x' g' ha hb
    exact r.sep x x' g' (at' _ _ ha).2 (at' _ _ hb).2
  · intro x g' ha
    obtain ⟨h1, h2⟩ := at' _ _ ha
    obtain ⟨h3, h4⟩ := r.dis x g' h2
    refine ⟨h3, fun o ho => ?_⟩
    rcases ho with ho | ⟨rfl, _⟩
    · exact h4 o ho
    · exact h1 (r.sep x k _ h2 hat)
  · intro x e hx
    by_cases q : x = k
    · subst q; rw [upd_same] at hx; cases hx
    · rw [upd_ne _ _ q] at hx; exact r.hus x e hx
  · intro g' o ho
    rcases ho with ho | ⟨rfl, ho⟩
    · exact r.imb g' o ho
    · have hlt : o < cur.size := by rw [← Array.length_toList]; omega
      exact ⟨cur[o], by rw [hcell, Array.getElem?_eq_getElem hlt]⟩
  · intro x es hx
    by_cases q : x = k
    · subst q; rw [upd_same] at hx; cases hx
    · rw [upd_ne _ _ q] at hx; exact r.mp x es hx
  · intro v off n sz hsz hb hv
    simp only [VR] at hv
    obtain ⟨g', cap, e1, rfl, e3, e4⟩ := hv
    rw [g1] at e1; cases e1
    have hb' : n * sz ≤ (cs.drop off).length := by rw [List.length_drop]; omega
    simp only [VR]
    refine ⟨some ⟨g, off, none⟩, cap, by rw [grp_length], by rw [grp_length]; exact e3, e4, .inr ⟨g, off, rfl, ?_⟩, grp_each hb', by simp⟩
    rw [VRG_flat, grp_flat hb']
    refine VRM_of_cells (vs := (cur.toList.drop off).take (n * sz)) (VRL_take _ (VRL_drop _ (VRL_keep key _ _ g3))) ?_ ?_
    · intro u hu
      exact g4 u (List.mem_of_mem_drop (List.mem_of_mem_take hu))
    · intro j u hj
      have hj1 : j < n * sz := by
        have := (List.getElem?_eq_some_iff.1 hj).1
        rw [List.length_take] at this; omega
      rw [List.getElem?_take_of_lt hj1, List.getElem?_drop] at hj
      refine ⟨by rw [hcell]; simpa using hj, .inl (.inr ⟨rfl, by omega⟩)⟩

/-- One value, when the object 'k' is written no more. -/
inductive Frz (k : Key) (cs : List AV) : AV → AV → Prop where
  | same (x : AV) : Frz k cs x x
  | view (off n sz : Nat) : 0 < sz → off + n * sz ≤ cs.length → Frz k cs (.view k off n) (.sl none sz (grp sz n (cs.drop off)))
inductive FrzL (k : Key) (cs : List AV) : List AV → List AV → Prop where
  | nil : FrzL k cs [] []
  | cons {x y : AV} {xs ys : List AV} : Frz k cs x y → FrzL k cs xs ys → FrzL k cs (x :: xs) (y :: ys)

theorem FrzL.refl (k : Key) (cs : List AV) : ∀ (xs : List AV), FrzL k cs xs xs
  | [] => .nil
  | x :: xs => .cons (.same x) (FrzL.refl k cs xs)
theorem FrzL.set (k : Key) (cs : List AV) {off n sz : Nat} (h0 : 0 < sz) (h1 : off + n * sz ≤ cs.length) : ∀ (i : Nat) (xs : List AV), xs[i]? = some (.view k off n) → FrzL k cs xs (xs.set i (.sl none sz (grp sz n (cs.drop off))))
  | _, [], h => by simp at h
  | 0, x :: xs, h => by
    simp only [List.getElem?_cons_zero, Option.some.injEq] at h
    subst h
    exact .cons (.view off n sz h0 h1) (FrzL.refl k cs xs)
  | i + 1, x :: xs, h => .cons (.same x) (FrzL.set k cs h0 h1 i xs (by simpa using h))

theorem AW_freeze {P : Program} {c : Code} {Q : Exit → Fr → Heap → Prop} {fr fr' : Fr} {h : Heap} {k : Key} {ty : TypeId} {cs : List AV} (hk : h k = some (.obj ty cs)) (hl : FrzL k cs fr fr') (hc : AW P c Q fr' (upd h k none)) : AW P c Q fr h := by
  intro E w a r v d
  obtain ⟨E', k', r', hz⟩ := r.freeze_obj hk
  refine wp_mono (hc E' w a r' ?_ d) fun _ _ _ p => p.trans k'
  have : ∀ {fr fr' : Fr}, FrzL k cs fr fr' → ∀ {vs : List Value}, VRL E w fr vs → VRL E' w fr' vs := by
    intro fr fr' hl
    induction hl with
    | nil => intro vs v; cases vs with
      | nil => simp only [VRL]
      | cons _ _ => simp only [VRL] at v
    | cons hx _ ih =>
      intro vs v
      cases vs with
      | nil => simp only [VRL] at v
      | cons u us =>
        simp only [VRL] at v ⊢
        refine ⟨?_, ih v.2⟩
        cases hx with
        | same => exact VR_keep k' _ _ v.1
        | view off n sz h0 h1 => exact hz u off n sz h0 h1 v.1
  exact this hl v
end Go.Vm
