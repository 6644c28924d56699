/-
  New blocks: objects, immutable cells, growable arrays; stores.
-/
import Derived.Test.YtafflcbcpbgloaaQ7VmF
import Derived.Laws.World
import Derived.Laws.AppendOwn
import Derived.Laws.Rows
namespace Go.Vm

section
variable {E : Env} {h : Heap} {w : World}

theorem Rel.tk_used (r : Rel E h w) {k : Key} {t : Tk} (ht : E.tk k = some t) : E.used k :=
  let ⟨_, e⟩ := r.tkh k t ht; r.hus k _ e

theorem Rel.tk_block (r : Rel E h w) {k : Key} {t : Tk} (ht : E.tk k = some t) : ∃ cur ty, w.heap[t.b]? = some (.cells cur ty (0, 0)) ∧ t.m ≤ cur.size := by
  obtain ⟨ty, e⟩ := r.tkh k t ht
  obtain ⟨t', cur, e1, e2, e3, e4, e5, e6, e7⟩ := r.tok _ _ _ _ e
  rw [ht] at e1; cases e1
  exact ⟨cur, ty, e4, e6⟩

theorem Rel.keep_ext (r : Rel E h w) {E' : Env} {w' : World} (hb : ∀ g, g < w.heap.size → w'.heap[g]? = w.heap[g]?) (hsz : w.heap.size ≤ w'.heap.size) (hos : w'.os = w.os) (htp : w'.tape = w.tape) (hout : w'.output = w.output)
    (himm : ∀ g o, E.imm g o → E'.imm g o) (hlock : E'.lock = E.lock) (hused : ∀ k, E.used k → E'.used k) (hob : ∀ k g, E.ob k = some g → E'.ob k = some g) (htk : ∀ k, E.used k → E'.tk k = E.tk k) : Keep E w E' w' where
  imm g o hi := ⟨himm g o hi, by obtain ⟨v, hv⟩ := r.imb g o hi; exact cell_of_block (hb g (block_of_cell hv)) o⟩
  lockEq g := by rw [hlock]
  lock g hg := hb g (r.lkb g hg)
  used := hused
  ob := hob
  tkc k t ht o ho := by
    obtain ⟨cur, ty, e1, e2⟩ := r.tk_block ht
    refine ⟨.inr ⟨t, by rw [htk k (r.tk_used ht)]; exact ht, rfl, ho⟩, cell_of_block (hb _ (Array.getElem?_eq_some_iff.1 e1).1) o⟩
  tkf k t' ht' hu := ⟨t', by rw [← htk k hu]; exact ht', Nat.le_refl _, fun _ => rfl⟩
  os := hos
  tape := htp
  output := hout
  size := hsz

theorem Rel.fresh (r : Rel E h w) (d : Nat) : ∃ n, ¬ E.used (d, n) := by
  obtain ⟨G, hG⟩ := r.fre d
  exact ⟨G, hG G (Nat.le_refl _)⟩

theorem Rel.unused_none (r : Rel E h w) {k : Key} (hk : ¬ E.used k) : h k = none := by
  cases e : h k with
  | none => rfl
  | some x => exact absurd (r.hus k x e) hk

theorem fre_add (r : Rel E h w) (k : Key) (d : Nat) : ∃ G, ∀ n, G ≤ n → ¬ (((d, n) : Key) = k ∨ E.used (d, n)) := by
  obtain ⟨G, hG⟩ := r.fre d
  refine ⟨max G (k.2 + 1), fun n hn => ?_⟩
  rintro (e | e)
  · have : n = k.2 := by rw [← e]
    omega
  · exact hG n (by omega) e

/-- New cells that nobody writes. -/
theorem Rel.new_imm (r : Rel E h w) (ty : TypeId) (fz : Nat × Nat) (cur : Array Value) :
    ∃ E', (∀ o, o < cur.size → E'.imm w.heap.size o) ∧ Keep E w E' (w.alloc (.cells cur ty fz)) ∧ Rel E' h (w.alloc (.cells cur ty fz)) := by
  let E' : Env := { E with imm := fun g o => E.imm g o ∨ (g = w.heap.size ∧ o < cur.size) }
  have hkeep : Keep E w E' (w.alloc (.cells cur ty fz)) :=
    r.keep_ext (fun g hg => heap_alloc_old w _ g hg) (by simp) rfl rfl rfl (fun _ _ h => .inl h) rfl (fun _ h => h) (fun _ _ h => h) (fun _ _ => rfl)
  refine ⟨E', fun o ho => .inr ⟨rfl, ho⟩, hkeep, ?_⟩
  constructor
  · intro x ty' cs' hx
    obtain ⟨g, cur', e1, e2, e3, e4⟩ := r.obj x ty' cs' hx
    exact ⟨g, cur', e1, by rw [heap_alloc_old w _ g (Array.getElem?_eq_some_iff.1 e2).1]; exact e2, VRL_keep hkeep _ _ e3, e4⟩
  · intro x ty' sz m hx
    obtain ⟨t, cur', e1, e2, e3, e4, e5⟩ := r.tok x ty' sz m hx
    exact ⟨t, cur', e1, e2, e3, by rw [heap_alloc_old w _ _ (Array.getElem?_eq_some_iff.1 e4).1]; exact e4, e5⟩
  · exact r.tkh
  · exact r.sep
  · intro x g hx
    obtain ⟨h1, h2⟩ := r.dis x g hx
    refine ⟨h1, fun o ho => ?_⟩
    rcases ho with ho | ⟨rfl, _⟩
    · exact h2 o ho
    · have := r.at_lt hx; omega
  · exact r.hus
  · exact r.obu
  · exact r.fre
  · intro g o ho
    rcases ho with ho | ⟨rfl, ho⟩
    · obtain ⟨v, hv⟩ := r.imb g o ho
      exact ⟨v, (hkeep.imm g o ho).2.trans hv⟩
    · have hn := heap_alloc_new w (.cells cur ty fz)
      exact ⟨cur[o], by simp only [World.cell?, hn]; simp [ho]⟩
  · intro g hg
    have := r.lkb g hg
    simp; omega
  · intro x es hx
    obtain ⟨g, ents, clk, e1, e2, e3⟩ := r.mp x es hx
    exact ⟨g, ents, clk, e1, by rw [heap_alloc_old w _ g (Array.getElem?_eq_some_iff.1 e2).1]; exact e2, e3⟩

/-- A new growable array: its first m cells are not written any more. -/
theorem Rel.new_tok (r : Rel E h w) {k : Key} (hk : ¬ E.used k) (ty : TypeId) (sz m cap : Nat) {cur : Array Value} (hs : cur.size = cap * sz) (hm : m ≤ cur.size) (hc : cap ≤ maxLen) :
    ∃ E', E'.used k ∧ E'.tk k = some ⟨sz, m, cap, w.heap.size⟩ ∧ Keep E w E' (w.alloc (.cells cur ty)) ∧ Rel E' (upd h k (some (.tok ty sz m))) (w.alloc (.cells cur ty)) := by
  let E' : Env := { E with tk := fun x => if x = k then some ⟨sz, m, cap, w.heap.size⟩ else E.tk x, used := fun x => x = k ∨ E.used x }
  have hkeep : Keep E w E' (w.alloc (.cells cur ty)) := by
    refine r.keep_ext (fun g hg => heap_alloc_old w _ g hg) (by simp) rfl rfl rfl (fun _ _ h => h) rfl (fun _ h => .inr h) (fun _ _ h => h) ?_
    intro x hx
    have : x ≠ k := fun e => hk (by subst e; exact hx)
    simp [E', this]
  have hnew := heap_alloc_new w (.cells cur ty)
  have at' : ∀ x g, E'.at (upd h k (some (.tok ty sz m))) x g → (x = k ∧ g = w.heap.size) ∨ (x ≠ k ∧ E.at h x g) := by
    intro x g ha
    by_cases hx : x = k
    · subst hx
      refine .inl ⟨rfl, ?_⟩
      rcases ha with ⟨_, hb, h2, _⟩ | ⟨_, _, _, t, _, h2, h3⟩
      · rw [upd_same] at h2; cases h2; cases hb
      · simp only [E', if_true, Option.some.injEq] at h2; subst h2; exact h3.symm
    · refine .inr ⟨hx, ?_⟩
      rcases ha with ⟨a, b, h2, h3⟩ | ⟨a, b, c, t, h2, h3, h4⟩
      · rw [upd_ne _ _ hx] at h2
        exact .inl ⟨a, b, h2, h3⟩
      · rw [upd_ne _ _ hx] at h2
        simp only [E', hx, if_false] at h3
        exact .inr ⟨a, b, c, t, h2, h3, h4⟩
  refine ⟨E', .inl rfl, by simp [E'], hkeep, ?_⟩
  constructor
  · intro x ty' cs' hx
    by_cases e : x = k
    · subst e; rw [upd_same] at hx; cases hx
    · rw [upd_ne _ _ e] at hx
      obtain ⟨g, cur', e1, e2, e3, e4⟩ := r.obj x ty' cs' hx
      exact ⟨g, cur', e1, by rw [heap_alloc_old w _ g (Array.getElem?_eq_some_iff.1 e2).1]; exact e2, VRL_keep hkeep _ _ e3, e4⟩
  · intro x ty' sz' m' hx
    by_cases e : x = k
    · subst e; rw [upd_same] at hx; cases hx
      exact ⟨⟨sz, m, cap, w.heap.size⟩, cur, by simp [E'], rfl, rfl, hnew, hs, hm, hc⟩
    · rw [upd_ne _ _ e] at hx
      obtain ⟨t, cur', e1, e2, e3, e4, e5⟩ := r.tok x ty' sz' m' hx
      exact ⟨t, cur', by simpa [E', e] using e1, e2, e3, by rw [heap_alloc_old w _ _ (Array.getElem?_eq_some_iff.1 e4).1]; exact e4, e5⟩
  · intro x t hx
    by_cases e : x = k
    · subst e
      simp only [E', if_true, Option.some.injEq] at hx
      subst hx
      exact ⟨ty, upd_same _ _ _⟩
    · simp only [E', e, if_false] at hx
      obtain ⟨ty', e'⟩ := r.tkh x t hx
      exact ⟨ty', by rw [upd_ne _ _ e]; exact e'⟩
  · intro x y g hx hy
    rcases at' x g hx with ⟨rfl, hg⟩ | ⟨_, hx'⟩ <;> rcases at' y g hy with ⟨rfl, hg'⟩ | ⟨_, hy'⟩
    · rfl
    · have := r.at_lt hy'; omega
    · have := r.at_lt hx'; omega
    · exact r.sep x y g hx' hy'
  · intro x g hx
    rcases at' x g hx with ⟨rfl, rfl⟩ | ⟨_, hx'⟩
    · refine ⟨fun hl => ?_, fun o ho => ?_⟩
      · have := r.lkb _ hl; omega
      · obtain ⟨v, hv⟩ := r.imb _ _ ho
        have := block_of_cell hv; omega
    · exact r.dis x g hx'
  · intro x e hx
    by_cases e' : x = k
    · exact .inl e'
    · rw [upd_ne _ _ e'] at hx; exact .inr (r.hus x e hx)
  · intro x g hx
    exact .inr (r.obu x g hx)
  · exact fre_add r k
  · intro g o ho
    obtain ⟨v, hv⟩ := r.imb g o ho
    exact ⟨v, (hkeep.imm g o ho).2.trans hv⟩
  · intro g hg
    have := r.lkb g hg
    simp; omega
  · intro x es hx
    by_cases e' : x = k
    · subst e'; rw [upd_same] at hx; cases hx
    · rw [upd_ne _ _ e'] at hx
      obtain ⟨g, ents, clk, e1, e2, e3⟩ := r.mp x es hx
      exact ⟨g, ents, clk, e1, by rw [heap_alloc_old w _ g (Array.getElem?_eq_some_iff.1 e2).1]; exact e2, e3⟩

/-- One object's cells are written anew, in its block alone. -/
theorem Rel.set_obj (r : Rel E h w) {k : Key} {g : Nat} {ty : TypeId} {cs0 cs : List AV} {cur : Array Value} (hk : h k = some (.obj ty cs0)) (hg : E.ob k = some g) {w' : World}
    (hw : w'.heap[g]? = some (.cells cur ty (0, 0))) (hoth : ∀ g', g' ≠ g → w'.heap[g']? = w.heap[g']?) (hsz : w.heap.size ≤ w'.heap.size) (hos : w'.os = w.os) (htp : w'.tape = w.tape) (hout : w'.output = w.output)
    (hv : VRL E w cs cur.toList) (h1 : ∀ v ∈ cur.toList, v.oneCell' = true) :
    Keep E w E w' ∧ Rel E (upd h k (some (.obj ty cs))) w' := by
  have hat : E.at h k g := .inl ⟨_, rfl, hk, hg⟩
  obtain ⟨d1, d2⟩ := r.dis k g hat
  have hkeep : Keep E w E w' := by
    refine ⟨fun g' o ho => ⟨ho, ?_⟩, fun _ => Iff.rfl, fun g' hl => hoth g' (fun e => d1 (e ▸ hl)), fun _ h => h, fun _ _ h => h, ?_, fun _ t ht _ => ⟨t, ht, Nat.le_refl _, fun _ => rfl⟩, hos, htp, hout, hsz⟩
    · exact cell_of_block (hoth g' (fun e => d2 o (e ▸ ho))) o
    · intro x t ht o ho
      refine ⟨.inr ⟨t, ht, rfl, ho⟩, cell_of_block (hoth _ (fun e => ?_)) o⟩
      obtain ⟨ty', e'⟩ := r.tkh x t ht
      have : x = k := r.sep x k g (.inr ⟨ty', _, _, t, e', ht, e⟩) hat
      subst this
      rw [hk] at e'; cases e'
  refine ⟨hkeep, ?_⟩
  have at' : ∀ x g', E.at (upd h k (some (.obj ty cs))) x g' → E.at h x g' := by
    intro x g' ha
    by_cases hx : x = k
    · subst hx
      rcases ha with ⟨a, b, h2, h3⟩ | ⟨_, _, _, _, h2, _⟩
      · exact .inl ⟨_, rfl, hk, h3⟩
      · rw [upd_same] at h2; cases h2
    · rcases ha with ⟨a, b, h2, h3⟩ | ⟨a, b, c, t, h2, h3⟩
      · rw [upd_ne _ _ hx] at h2; exact .inl ⟨a, b, h2, h3⟩
      · rw [upd_ne _ _ hx] at h2; exact .inr ⟨a, b, c, t, h2, h3⟩
  constructor
  · intro x ty' cs' hx
    by_cases e : x = k
    · subst e
      rw [upd_same] at hx; cases hx
      exact ⟨g, cur, hg, hw, VRL_keep hkeep _ _ hv, h1⟩
    · rw [upd_ne _ _ e] at hx
      obtain ⟨g', cur', e1, e2, e3, e4⟩ := r.obj x ty' cs' hx
      refine ⟨g', cur', e1, ?_, VRL_keep hkeep _ _ e3, e4⟩
      rw [hoth g' (fun e' => e (r.sep x k g (.inl ⟨_, rfl, hx, e' ▸ e1⟩) hat))]
      exact e2
  · intro x ty' sz m hx
    by_cases e : x = k
    · subst e; rw [upd_same] at hx; cases hx
    · rw [upd_ne _ _ e] at hx
      obtain ⟨t, cur', e1, e2, e3, e4, e5⟩ := r.tok x ty' sz m hx
      refine ⟨t, cur', e1, e2, e3, ?_, e5⟩
      rw [hoth _ (fun e' => e (r.sep x k g (.inr ⟨ty', sz, m, t, hx, e1, e'⟩) hat))]
      exact e4
  · intro x t hx
    obtain ⟨ty', e⟩ := r.tkh x t hx
    have : x ≠ k := fun e' => by subst e'; rw [hk] at e; cases e
    exact ⟨ty', by rw [upd_ne _ _ this]; exact e⟩
  · intro x y g' hx hy
    exact r.sep x y g' (at' x g' hx) (at' y g' hy)
  · intro x g' hx
    exact r.dis x g' (at' x g' hx)
  · intro x e hx
    by_cases e' : x = k
    · subst e'; exact r.hus x _ hk
    · rw [upd_ne _ _ e'] at hx; exact r.hus x e hx
  · exact r.obu
  · exact r.fre
  · intro g' o ho
    obtain ⟨v, hv'⟩ := r.imb g' o ho
    exact ⟨v, (hkeep.imm g' o ho).2.trans hv'⟩
  · intro g' hg'
    have := r.lkb g' hg'
    omega
  · intro x es hx
    by_cases e : x = k
    · subst e; rw [upd_same] at hx; cases hx
    · rw [upd_ne _ _ e] at hx
      obtain ⟨g', ents, clk, e1, e2, e3⟩ := r.mp x es hx
      exact ⟨g', ents, clk, e1, by rw [hoth g' (fun e' => e (r.sep x k g (.inl ⟨_, rfl, hx, e' ▸ e1⟩) hat))]; exact e2, e3⟩

/-- A growable array has grown, in its block or in a new one. -/
theorem Rel.grow (r : Rel E h w) {k : Key} {t : Tk} {ty : TypeId} (hk : E.tk k = some t) (hty : h k = some (.tok ty t.sz t.m)) {m cap b : Nat} {cur : Array Value} {w' : World}
    (hw : w'.heap[b]? = some (.cells cur ty (0, 0))) (hoth : ∀ g', g' < w.heap.size → g' ≠ t.b → w'.heap[g']? = w.heap[g']?) (hb : (b = t.b ∧ cap = t.cap) ∨ (w.heap.size ≤ b ∧ w'.heap[t.b]? = w.heap[t.b]?))
    (hcells : ∀ o, o < t.m → w'.cell? ⟨t.b, o, none⟩ = w.cell? ⟨t.b, o, none⟩)
    (hlt : t.m < m) (hs : cur.size = cap * t.sz) (hm : m ≤ cur.size) (hc : cap ≤ maxLen)
    (hsz : w.heap.size ≤ w'.heap.size) (hos : w'.os = w.os) (htp : w'.tape = w.tape) (hout : w'.output = w.output) :
    ∃ E', E'.used k ∧ E'.tk k = some ⟨t.sz, m, cap, b⟩ ∧ Keep E w E' w' ∧ Rel E' (upd h k (some (.tok ty t.sz m))) w' := by
  have hat : E.at h k t.b := .inr ⟨ty, _, _, t, hty, hk, rfl⟩
  obtain ⟨d1, d2⟩ := r.dis k _ hat
  have hblt := r.at_lt hat
  let E' : Env := { E with tk := fun x => if x = k then some ⟨t.sz, m, cap, b⟩ else E.tk x, imm := fun g o => E.imm g o ∨ (b ≠ t.b ∧ g = t.b ∧ o < t.m) }
  have tne : ∀ x t', E.tk x = some t' → x ≠ k → t'.b ≠ t.b := by
    intro x t' hx hne e
    obtain ⟨ty', e'⟩ := r.tkh x t' hx
    exact hne (r.sep x k t.b (.inr ⟨ty', _, _, t', e', hx, e⟩) hat)
  have hkeep : Keep E w E' w' := by
    refine ⟨fun g' o ho => ⟨.inl ho, ?_⟩, fun _ => Iff.rfl, fun g' hl => hoth g' (r.lkb _ hl) (fun e => d1 (e ▸ hl)), fun _ h => h, fun _ _ h => h, ?_, ?_, hos, htp, hout, hsz⟩
    · obtain ⟨v, hv⟩ := r.imb g' o ho
      exact cell_of_block (hoth g' (block_of_cell hv) (fun e => d2 o (e ▸ ho))) o
    · intro x t' ht o ho
      by_cases hx : x = k
      · subst hx
        rw [hk] at ht; cases ht
        refine ⟨?_, hcells o ho⟩
        by_cases hbb : b = t.b
        · exact .inr ⟨⟨t.sz, m, cap, b⟩, by simp [E'], hbb, by show o < m; omega⟩
        · exact .inl (.inr ⟨hbb, rfl, ho⟩)
      · obtain ⟨cur', ty', e1, e2⟩ := r.tk_block ht
        refine ⟨.inr ⟨t', by simp [E', hx, ht], rfl, ho⟩, cell_of_block (hoth _ (Array.getElem?_eq_some_iff.1 e1).1 (tne x t' ht hx)) o⟩
    · intro x t' ht hu
      by_cases hx : x = k
      · subst hx
        simp only [E', if_true, Option.some.injEq] at ht
        subst ht
        exact ⟨t, hk, by show t.m ≤ m; omega, fun e => absurd e (by show t.m ≠ m; omega)⟩
      · simp only [E', hx, if_false] at ht
        exact ⟨t', ht, Nat.le_refl _, fun _ => rfl⟩
  have at' : ∀ x g, E'.at (upd h k (some (.tok ty t.sz m))) x g → (x = k ∧ g = b) ∨ (x ≠ k ∧ E.at h x g) := by
    intro x g ha
    by_cases hx : x = k
    · subst hx
      refine .inl ⟨rfl, ?_⟩
      rcases ha with ⟨_, hbb, h2, _⟩ | ⟨_, _, _, t', _, h2, h3⟩
      · rw [upd_same] at h2; cases h2; cases hbb
      · simp only [E', if_true, Option.some.injEq] at h2; subst h2; exact h3.symm
    · refine .inr ⟨hx, ?_⟩
      rcases ha with ⟨a, b, h2, h3⟩ | ⟨a, b, c, t', h2, h3, h4⟩
      · rw [upd_ne _ _ hx] at h2; exact .inl ⟨a, b, h2, h3⟩
      · rw [upd_ne _ _ hx] at h2
        simp only [E', hx, if_false] at h3
        exact .inr ⟨a, b, c, t', h2, h3, h4⟩
  have bne : ∀ x g, x ≠ k → E.at h x g → g ≠ t.b := fun x g hx ha e => hx (r.sep x k t.b (e ▸ ha) hat)
  refine ⟨E', r.tk_used hk, by simp [E'], hkeep, ?_⟩
  constructor
  · intro x ty' cs' hx
    by_cases e : x = k
    · subst e; rw [upd_same] at hx; cases hx
    · rw [upd_ne _ _ e] at hx
      obtain ⟨g', cur', e1, e2, e3, e4⟩ := r.obj x ty' cs' hx
      refine ⟨g', cur', e1, ?_, VRL_keep hkeep _ _ e3, e4⟩
      rw [hoth g' (Array.getElem?_eq_some_iff.1 e2).1 (bne x g' e (.inl ⟨_, rfl, hx, e1⟩))]
      exact e2
  · intro x ty' sz' m' hx
    by_cases e : x = k
    · subst e; rw [upd_same] at hx; cases hx
      exact ⟨⟨t.sz, m, cap, b⟩, cur, by simp [E'], rfl, rfl, hw, hs, hm, hc⟩
    · rw [upd_ne _ _ e] at hx
      obtain ⟨t', cur', e1, e2, e3, e4, e5⟩ := r.tok x ty' sz' m' hx
      refine ⟨t', cur', by simpa [E', e] using e1, e2, e3, ?_, e5⟩
      rw [hoth _ (Array.getElem?_eq_some_iff.1 e4).1 (tne x t' e1 e)]
      exact e4
  · intro x t' hx
    by_cases e : x = k
    · subst e
      simp only [E', if_true, Option.some.injEq] at hx
      subst hx
      exact ⟨ty, upd_same _ _ _⟩
    · simp only [E', e, if_false] at hx
      obtain ⟨ty', e'⟩ := r.tkh x t' hx
      exact ⟨ty', by rw [upd_ne _ _ e]; exact e'⟩
  · intro x y g hx hy
    rcases at' x g hx with ⟨rfl, hg⟩ | ⟨hx1, hx'⟩ <;> rcases at' y g hy with ⟨rfl, hg'⟩ | ⟨hy1, hy'⟩
    · rfl
    · exfalso
      have h1 := r.at_lt hy'
      have h2 := bne y g hy1 hy'
      rcases hb with ⟨hb, _⟩ | ⟨hb, _⟩
      · exact h2 (hg.trans hb)
      · omega
    · exfalso
      have h1 := r.at_lt hx'
      have h2 := bne x g hx1 hx'
      rcases hb with ⟨hb, _⟩ | ⟨hb, _⟩
      · exact h2 (hg'.trans hb)
      · omega
    · exact r.sep x y g hx' hy'
  · intro x g hx
    rcases at' x g hx with ⟨rfl, rfl⟩ | ⟨hx1, hx'⟩
    · rcases hb with ⟨hb, _⟩ | ⟨hb, _⟩
      · rw [hb]
        refine ⟨d1, fun o ho => ?_⟩
        rcases ho with ho | ⟨hn, _⟩
        · exact d2 o ho
        · exact hn hb
      · refine ⟨fun hl => ?_, fun o ho => ?_⟩
        · have := r.lkb _ hl; omega
        · rcases ho with ho | ⟨_, e, _⟩
          · obtain ⟨v, hv⟩ := r.imb _ _ ho
            have := block_of_cell hv; omega
          · omega
    · obtain ⟨f1, f2⟩ := r.dis x g hx'
      refine ⟨f1, fun o ho => ?_⟩
      rcases ho with ho | ⟨_, e, _⟩
      · exact f2 o ho
      · exact bne x g hx1 hx' e
  · intro x e hx
    by_cases e' : x = k
    · subst e'; exact r.tk_used hk
    · rw [upd_ne _ _ e'] at hx; exact r.hus x e hx
  · exact r.obu
  · exact r.fre
  · intro g' o ho
    rcases ho with ho | ⟨hn, rfl, ho⟩
    · obtain ⟨v, hv'⟩ := r.imb g' o ho
      exact ⟨v, (hkeep.imm g' o ho).2.trans hv'⟩
    · obtain ⟨cur', ty', e1, e2⟩ := r.tk_block hk
      have hlt' : o < cur'.size := by omega
      refine ⟨cur'[o], (hcells o ho).trans ?_⟩
      simp [World.cell?, e1, hlt']
  · intro g' hg'
    have := r.lkb g' hg'
    omega
  · intro x es hx
    by_cases e : x = k
    · subst e; rw [upd_same] at hx; cases hx
    · rw [upd_ne _ _ e] at hx
      obtain ⟨g', ents, clk, e1, e2, e3⟩ := r.mp x es hx
      exact ⟨g', ents, clk, e1, by rw [hoth g' (Array.getElem?_eq_some_iff.1 e2).1 (bne x g' e (.inl ⟨_, rfl, hx, e1⟩))]; exact e2, e3⟩

end
end Go.Vm
