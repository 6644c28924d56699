/-
  Arrays that are written: a slice of an object of its own, with what room it has.
-/
import Derived.Test.YtafflcbcpbgloaaQ7VmP
namespace Go.Vm

structure AGh where
  t : Option Key
  n : Nat
  cap : Nat
  sp : List AV
def aw (t : Option Key) (n cap : Nat) : AV := match t with
  | none => .e0
  | some k => .vw k n cap
def fl {α : Type} (c : α → List AV) (xs : List α) (sp : List AV) : List AV := (xs.map c).flatten ++ sp
structure AOk (g : AGh) (sz n : Nat) : Prop where
  eqn : g.n = n
  nil : g.t = none → n = 0
  le : n ≤ g.cap
  mx : g.cap ≤ maxLen
  len : n * sz + g.sp.length = g.cap * sz
def g0 : AGh := ⟨none, 0, 0, []⟩
theorem AOk.g0 (sz : Nat) : AOk g0 sz 0 := ⟨rfl, fun _ => rfl, Nat.le_refl _, Nat.zero_le _, by simp [Vm.g0]⟩

section flat
variable {α : Type} {c : α → List AV} {sz : Nat}
end flat

section ops
variable {P : Program} {ops : Array Oper} {K : Fr → Heap → Prop} {h h0 : Heap} {L : HL} {n : Nat} {kvs : KV} {l : List Oper} {ty : TypeId} {pos : String} {aft : Array Edge}

/-- A store into an object that a pointer of this kind shows. -/
theorem AOk.set {g : AGh} {sz : Nat} {α : Type} {xs : List α} {i : Nat} {x : α} (ok : AOk g sz xs.length) : AOk g sz (xs.set i x).length := by rw [List.length_set]; exact ok

/-- Written no more. -/
theorem ALe_e0 (h : Heap) (sz : Nat) : ALe h .e0 (.sl none sz []) := by
  intro E w v r hv
  simp only [VR] at hv ⊢
  obtain ⟨a, rfl⟩ := hv
  exact ⟨a, 0, rfl, Nat.le_refl _, Nat.zero_le _, .inl trivial, by simp, fun _ q => by cases q⟩
end ops

/-! ### append -/
section app
variable {P : Program} {E : Env} {h : Heap} {w : World}

end app

/-! ### append, at a list of what is there -/
theorem hp_eraseK {h0 : Heap} {k : Key} {e : Ent} : ∀ {L : HL} (i : Nat), HOk h0 L → L[i]? = some (some k, e) → hp h0 (L.eraseIdx i) = upd (hp h0 L) k none
  | [], i, _, h => by simp at h
  | (t, e') :: r, 0, ok, h => by
    simp only [List.getElem?_cons_zero, Option.some.injEq, Prod.mk.injEq] at h
    obtain ⟨rfl, rfl⟩ := h
    have := ok.2 k rfl
    funext x
    simp only [List.eraseIdx_zero, List.tail_cons, hp]
    unfold upd
    by_cases hx : x = k
    · subst hx; simp [this]
    · simp [hx]
  | (t, e') :: r, i + 1, ok, h => by
    have h' : r[i]? = some (some k, e) := by simpa using h
    have ih := hp_eraseK (L := r) i ok.1 h'
    simp only [List.eraseIdx_cons_succ]
    cases t with
    | none => exact ih
    | some k' =>
      have hne : k' ≠ k := fun q => by
        have h1 := ok.2 k' rfl
        rw [q, hp_get i ok.1 h'] at h1
        cases h1
      simp only [hp]
      rw [ih]
      exact upd_comm _ _ _ (Ne.symm hne)

section ops2
variable {P : Program} {ops : Array Oper} {h h0 : Heap} {L : HL} {n : Nat} {kvs : KV} {l : List Oper} {ty : TypeId} {pos : String} {aft : Array Edge}

end ops2

/-! ### A function that only looks: what it is shown need not be frozen -/
def Epl (E : Env) (H : Heap) (w : World) : Env where
  imm g o := E.imm g o ∨ ((∃ k, E.at H k g) ∧ ∃ v, w.cell? ⟨g, o, none⟩ = some v)
  lock g := E.lock g ∨ ∃ k, E.at H k g
  used := E.used
  ob := E.ob
  tk _ := none
abbrev hz : Heap := fun _ => none

theorem Epl_rel {E : Env} {H : Heap} {w : World} (r : Rel E H w) : Rel (Epl E H w) hz w where
  obj := nofun
  tok := nofun
  tkh := nofun
  sep k k' g ha _ := by
    rcases ha with ⟨e, _, h, _⟩ | ⟨_, _, _, _, h, _⟩ <;> cases h
  dis k g ha := by
    rcases ha with ⟨e, _, h, _⟩ | ⟨_, _, _, _, h, _⟩ <;> cases h
  hus := nofun
  obu := r.obu
  fre := r.fre
  imb g o h := by
    rcases h with h | ⟨_, h⟩
    · exact r.imb g o h
    · exact h
  lkb g h := by
    rcases h with h | ⟨k, h⟩
    · exact r.lkb g h
    · exact r.at_lt h
  mp := nofun
theorem Epl_keep {E : Env} {H : Heap} {w : World} (r : Rel E H w) : KeepV E w (Epl E H w) w where
  imm g o h := ⟨.inl h, rfl⟩
  used _ h := h
  ob _ _ h := h
  tkc k t ht o ho := by
    refine ⟨.inl (.inr ?_), rfl⟩
    obtain ⟨ty, e⟩ := r.tkh k t ht
    obtain ⟨t', cur, e1, e2, e3, e4, e5, e6, e7⟩ := r.tok _ _ _ _ e
    rw [ht] at e1; cases e1
    refine ⟨⟨k, .inr ⟨ty, _, _, t, e, ht, rfl⟩⟩, ?_⟩
    have : o < cur.size := by omega
    exact ⟨cur[o], by simp [World.cell?, e4, this]⟩
  tkf := nofun
def Br (H : Heap) (x y : AV) : Prop := ∀ E w v, Rel E H w → VR E w x v → VR (Epl E H w) w y v
theorem Br.refl (H : Heap) (x : AV) : Br H x x := fun _ _ _ r h => VR_keepV (Epl_keep r) _ _ h
theorem Br.ale {H : Heap} {x y : AV} (h : ALe H x y) : Br H x y := fun E w v r hv => VR_keepV (Epl_keep r) _ _ (h E w v r hv)
theorem Br.ale0 {H : Heap} {x y : AV} (h : ALe hz x y) : Br H x y := fun _ w v r hv => h _ w v (Epl_rel r) (VR_keepV (Epl_keep r) _ _ hv)
theorem Br.ow {α : Type} {c : α → List AV} {xs : List α} {t : Option Key} {H : Heap} (sz : Nat) (ot : t = none → xs = []) : Br H (ow t sz (xs.map c)) (.sl none sz (xs.map c)) :=
  Br.ale0 (own_frz sz ot fun _ _ => rfl)
theorem Br.vw {α : Type} {c : α → List AV} {xs : List α} {H : Heap} {k : Key} {ty : TypeId} {sp : List AV} {sz cap : Nat} (hc : ∀ y, (c y).length = sz) (hk : H k = some (.obj ty (fl c xs sp))) : Br H (.vw k xs.length cap) (.sl none sz (xs.map c)) := by
  intro E w v r hv
  simp only [VR] at hv ⊢
  obtain ⟨g, hg, rfl, h1, h2⟩ := hv
  obtain ⟨g', cur, e1, e2, e3, e4⟩ := r.obj _ _ _ hk
  rw [hg] at e1; cases e1
  refine ⟨_, cap, by rw [List.length_map], by rw [List.length_map]; exact h1, h2, ?_, ?_, nofun⟩
  · refine .inr ⟨g, 0, rfl, VRG_flat.2 ?_⟩
    have htake : VRL E w (xs.map c).flatten (cur.toList.take ((xs.map c).flatten.length)) := by
      have := VRL_take ((xs.map c).flatten.length) e3
      rwa [fl, List.take_left' rfl] at this
    refine VRM_of_cells (VRL_keepV (Epl_keep r) _ _ htake) (fun u hu => e4 u (List.mem_of_mem_take hu)) ?_
    intro j u hj
    rw [List.getElem?_take] at hj
    split at hj
    · have hcell : w.cell? ⟨g, 0 + j, none⟩ = some u := by
        simp only [World.cell?, e2, Nat.zero_add]
        simpa using hj
      exact ⟨hcell, .inl (.inr ⟨⟨k, .inl ⟨_, rfl, hk, hg⟩⟩, u, hcell⟩)⟩
    · cases hj
  · intro x hx
    obtain ⟨y, _, rfl⟩ := List.mem_map.1 hx
    exact hc y
theorem Br.aw {α : Type} {c : α → List AV} {xs : List α} {h0 : Heap} {L : HL} {ty : TypeId} {g : AGh} {sz : Nat} (i : Nat) (hc : ∀ y, (c y).length = sz) (ok : AOk g sz xs.length) (hk : HOk h0 L) (hi : L[i]? = some (g.t, .obj ty (fl c xs g.sp))) : Br (hp h0 L) (aw g.t g.n g.cap) (.sl none sz (xs.map c)) := by
  rw [ok.eqn]
  cases ht : g.t with
  | none =>
    have h0 : xs = [] := List.length_eq_zero_iff.1 (ok.nil ht)
    subst h0
    exact Br.ale (ALe_e0 _ sz)
  | some k =>
    rw [ht] at hi
    exact Br.vw hc (hp_get i hk hi)
inductive BrL (H : Heap) : List AV → List AV → Prop where
  | nil : BrL H [] []
  | cons {x y : AV} {xs ys : List AV} : Br H x y → BrL H xs ys → BrL H (x :: xs) (y :: ys)
theorem BrL.spec {H : Heap} {xs ys : List AV} (hl : BrL H xs ys) {E : Env} {w : World} (r : Rel E H w) : ∀ {vs : List Value}, VRL E w xs vs → VRL (Epl E H w) w ys vs := by
  induction hl with
  | nil => intro vs v; cases vs with
    | nil => simp only [VRL]
    | cons _ _ => simp only [VRL] at v
  | cons h1 _ ih => intro vs v; cases vs with
    | nil => simp only [VRL] at v
    | cons u us =>
      simp only [VRL] at v ⊢
      exact ⟨h1 E w u r v.1, ih v.2⟩
theorem BrL.refl (H : Heap) : ∀ (xs : List AV), BrL H xs xs
  | [] => .nil
  | x :: xs => .cons (Br.refl H x) (BrL.refl H xs)
theorem BrL.app {H : Heap} {xs ys : List AV} : ∀ (k : Nat) {zs : List AV}, zs.length = k → BrL H xs ys → BrL H (zs ++ xs) (zs ++ ys)
  | 0, [], _, hl => hl
  | k + 1, z :: zs, hz, hl => .cons (Br.refl _ _) (BrL.app k (by simpa using hz) hl)
  | 0, _ :: _, hz, _ => by simp at hz
  | _ + 1, [], hz, _ => by simp at hz
theorem Br.agg {H : Heap} {xs ys : List AV} (hl : BrL H xs ys) : Br H (.agg xs) (.agg ys) := by
  intro E w v r hv
  simp only [VR] at hv ⊢
  obtain ⟨cs, rfl, h⟩ := hv
  exact ⟨cs, rfl, hl.spec r h⟩
end Go.Vm
namespace Go.Vm
/-! ### Written no more -/
def Efz (E : Env) (H H' : Heap) (w : World) : Env := { E with
  imm := fun g o => E.imm g o ∨ ((∃ k, E.at H k g ∧ H' k = none) ∧ ∃ v, w.cell? ⟨g, o, none⟩ = some v)
  tk := fun k => if (H' k).isSome then E.tk k else none }
theorem Efz_keep {E : Env} {H H' : Heap} {w : World} (r : Rel E H w) : Keep E w (Efz E H H' w) w := by
  refine ⟨fun g o h => ⟨.inl h, rfl⟩, fun _ => Iff.rfl, fun _ _ => rfl, fun _ h => h, fun _ _ h => h, ?_, ?_, rfl, rfl, rfl, Nat.le_refl _⟩
  · intro k t ht o ho
    refine ⟨?_, rfl⟩
    cases hk : H' k with
    | some e => exact .inr ⟨t, by simp [Efz, hk, ht], rfl, ho⟩
    | none =>
      obtain ⟨ty, e⟩ := r.tkh k t ht
      obtain ⟨t', cur, e1, e2, e3, e4, e5, e6, e7⟩ := r.tok _ _ _ _ e
      rw [ht] at e1; cases e1
      have : o < cur.size := by omega
      exact .inl (.inr ⟨⟨k, .inr ⟨ty, _, _, t, e, ht, rfl⟩, hk⟩, cur[o], by simp [World.cell?, e4, this]⟩)
  · intro k t' ht _
    simp only [Efz] at ht
    split at ht
    · exact ⟨t', ht, Nat.le_refl _, fun _ => rfl⟩
    · cases ht
theorem Efz_rel {E : Env} {H H' : Heap} {w : World} (r : Rel E H w) (hs : Sub H' H) : Rel (Efz E H H' w) H' w := by
  have key : Keep E w (Efz E H H' w) w := Efz_keep r
  have at' : ∀ k g, Env.at (Efz E H H' w) H' k g → E.at H k g ∧ (H' k).isSome = true := by
    intro k g ha
    rcases ha with ⟨ty, cs, h1, h2⟩ | ⟨ty, sz, m, t, h1, h2, h3⟩
    · exact ⟨.inl ⟨ty, cs, hs _ _ h1, h2⟩, by simp [h1]⟩
    · simp only [Efz, h1, Option.isSome_some, if_true] at h2
      exact ⟨.inr ⟨ty, sz, m, t, hs _ _ h1, h2, h3⟩, by simp [h1]⟩
  constructor
  · intro k ty cs hk
    obtain ⟨g, cur, e1, e2, e3, e4⟩ := r.obj k ty cs (hs _ _ hk)
    exact ⟨g, cur, e1, e2, VRL_keep key _ _ e3, e4⟩
  · intro k ty sz m hk
    obtain ⟨t, cur, e1, e2⟩ := r.tok k ty sz m (hs _ _ hk)
    exact ⟨t, cur, by simp [Efz, hk, e1], e2⟩
  · intro k t hk
    simp only [Efz] at hk
    split at hk
    · rename_i hsome
      obtain ⟨ty, e⟩ := r.tkh k t hk
      obtain ⟨e', he'⟩ := Option.isSome_iff_exists.1 hsome
      have := hs _ _ he'
      rw [e] at this
      cases this
      exact ⟨ty, he'⟩
    · cases hk
  · intro k k' g ha hb
    exact r.sep k k' g (at' _ _ ha).1 (at' _ _ hb).1
  · intro k g ha
    obtain ⟨h1, h2⟩ := r.dis k g (at' _ _ ha).1
    refine ⟨h1, fun o ho => ?_⟩
    rcases ho with ho | ⟨⟨k', e1, e2⟩, _⟩
    · exact h2 o ho
    · have : k = k' := r.sep k k' g (at' _ _ ha).1 e1
      subst this
      have := (at' _ _ ha).2
      rw [e2] at this
      cases this
  · exact fun k e hk => r.hus k e (hs _ _ hk)
  · exact r.obu
  · exact r.fre
  · intro g o ho
    rcases ho with ho | ⟨_, h⟩
    · exact r.imb g o ho
    · exact h
  · exact r.lkb
  · exact fun k es hk => r.mp k es (hs _ _ hk)
def Fz (H H' : Heap) (x y : AV) : Prop := ∀ E w v, Rel E H w → VR E w x v → VR (Efz E H H' w) w y v
theorem Fz.refl (H H' : Heap) (x : AV) : Fz H H' x x := fun _ _ _ r h => VR_keep (Efz_keep r) _ _ h
theorem Fz.ale {H H' : Heap} {x y : AV} (hs : Sub H' H) (h : ALe H' x y) : Fz H H' x y := fun _ w v r hv => h _ w v (Efz_rel r hs) (VR_keep (Efz_keep r) _ _ hv)
theorem Fz.vw {α : Type} {c : α → List AV} {xs : List α} {H H' : Heap} {k : Key} {ty : TypeId} {sp : List AV} {sz cap : Nat} (hc : ∀ y, (c y).length = sz) (hk : H k = some (.obj ty (fl c xs sp))) (hn : H' k = none) : Fz H H' (.vw k xs.length cap) (.sl none sz (xs.map c)) := by
  intro E w v r hv
  simp only [VR] at hv ⊢
  obtain ⟨g, hg, rfl, h1, h2⟩ := hv
  obtain ⟨g', cur, e1, e2, e3, e4⟩ := r.obj _ _ _ hk
  rw [hg] at e1; cases e1
  refine ⟨_, cap, by rw [List.length_map], by rw [List.length_map]; exact h1, h2, ?_, ?_, nofun⟩
  · refine .inr ⟨g, 0, rfl, VRG_flat.2 ?_⟩
    have htake : VRL E w (xs.map c).flatten (cur.toList.take ((xs.map c).flatten.length)) := by
      have := VRL_take ((xs.map c).flatten.length) e3
      rwa [fl, List.take_left' rfl] at this
    refine VRM_of_cells (VRL_keep (Efz_keep r) _ _ htake) (fun u hu => e4 u (List.mem_of_mem_take hu)) ?_
    intro j u hj
    rw [List.getElem?_take] at hj
    split at hj
    · have hcell : w.cell? ⟨g, 0 + j, none⟩ = some u := by
        simp only [World.cell?, e2, Nat.zero_add]
        simpa using hj
      exact ⟨hcell, .inl (.inr ⟨⟨k, .inl ⟨_, rfl, hk, hg⟩, hn⟩, u, hcell⟩)⟩
    · cases hj
  · intro x hx
    obtain ⟨y, _, rfl⟩ := List.mem_map.1 hx
    exact hc y
/-- An array (at i of what is there) that is written no more; what stays is part of the rest. -/
theorem Fz.aw {α : Type} {c : α → List AV} {xs : List α} {h0 : Heap} {L L' : HL} {ty : TypeId} {g : AGh} {sz : Nat} (i : Nat) (hc : ∀ y, (c y).length = sz) (ok : AOk g sz xs.length) (hk : HOk h0 L) (hi : L[i]? = some (g.t, .obj ty (fl c xs g.sp))) (hs : L'.Sublist (L.eraseIdx i)) :
    Fz (hp h0 L) (hp h0 L') (aw g.t g.n g.cap) (.sl none sz (xs.map c)) := by
  rw [ok.eqn]
  cases ht : g.t with
  | none =>
    have h0 : xs = [] := List.length_eq_zero_iff.1 (ok.nil ht)
    subst h0
    exact Fz.ale (hp_sub (hs.trans (List.eraseIdx_sublist L i)) hk).1 (ALe_e0 _ sz)
  | some k =>
    rw [ht] at hi
    exact Fz.vw hc (hp_get i hk hi) (sub_none (hp_sub hs (hp_sub (List.eraseIdx_sublist L i) hk).2).1 (hp_erase i hk hi))
inductive FzL (H H' : Heap) : List AV → List AV → Prop where
  | nil : FzL H H' [] []
  | cons {x y : AV} {xs ys : List AV} : Fz H H' x y → FzL H H' xs ys → FzL H H' (x :: xs) (y :: ys)
theorem FzL.spec {H H' : Heap} {xs ys : List AV} (hl : FzL H H' xs ys) {E : Env} {w : World} (r : Rel E H w) : ∀ {vs : List Value}, VRL E w xs vs → VRL (Efz E H H' w) w ys vs := by
  induction hl with
  | nil => intro vs v; cases vs with
    | nil => simp only [VRL]
    | cons _ _ => simp only [VRL] at v
  | cons h1 _ ih => intro vs v; cases vs with
    | nil => simp only [VRL] at v
    | cons u us =>
      simp only [VRL] at v ⊢
      exact ⟨h1 E w u r v.1, ih v.2⟩
theorem FzL.refl (H H' : Heap) : ∀ (xs : List AV), FzL H H' xs xs
  | [] => .nil
  | x :: xs => .cons (Fz.refl H H' x) (FzL.refl H H' xs)
theorem FzL.app {H H' : Heap} {xs ys : List AV} : ∀ (k : Nat) {zs : List AV}, zs.length = k → FzL H H' xs ys → FzL H H' (zs ++ xs) (zs ++ ys)
  | 0, [], _, hl => hl
  | k + 1, z :: zs, hz, hl => .cons (Fz.refl _ _ _) (FzL.app k (by simpa using hz) hl)
  | 0, _ :: _, hz, _ => by simp at hz
  | _ + 1, [], hz, _ => by simp at hz
theorem Fz.agg {H H' : Heap} {xs ys : List AV} (hl : FzL H H' xs ys) : Fz H H' (.agg xs) (.agg ys) := by
  intro E w v r hv
  simp only [VR] at hv ⊢
  obtain ⟨cs, rfl, h⟩ := hv
  exact ⟨cs, rfl, hl.spec r h⟩
theorem LeF.fz {n : Nat} {kvs : KV} {H H' : Heap} {t : Nat} {v : AV} (hs : Sub H' H) (hv : Fz H H' (lk n kvs t) v) : LeF (Vm.fm n (kp kvs t v)) H' (Vm.fm n kvs) H := by
  intro E w vs r vv
  refine ⟨_, Efz_keep r, Efz_rel r hs, ?_⟩
  have key : FzL H H' (Vm.fm n kvs) (Vm.fm n (kp kvs t v)) := by
    have : ∀ {xs ys : List AV}, xs.length = ys.length → (∀ (i : Nat) (x y : AV), xs[i]? = some x → ys[i]? = some y → Fz H H' x y) → FzL H H' xs ys := by
      intro xs
      induction xs with
      | nil => intro ys hl _; cases ys with
        | nil => exact .nil
        | cons _ _ => simp at hl
      | cons x xs ih => intro ys hl hg; cases ys with
        | nil => simp at hl
        | cons y ys => exact .cons (hg 0 x y rfl rfl) (ih (by simpa using hl) fun i a b ha hb => hg (i + 1) a b (by simpa using ha) (by simpa using hb))
    refine this (by rw [fm_length, fm_length]) ?_
    intro i x y hx hy
    rw [fm_get] at hx hy
    by_cases hi : i < n
    · rw [if_pos hi] at hx hy
      cases hx; cases hy
      by_cases e : t = i
      · subst e
        rw [kp_same]
        rw [lk_eq, if_pos hi] at hv
        exact hv
      · rw [kp_ne _ _ e]; exact Fz.refl _ _ _
    · rw [if_neg hi] at hx; cases hx
  exact key.spec r vv
end Go.Vm
namespace Go.Vm
section more
variable {P : Program} {h0 : Heap} {L : HL} {n : Nat} {kvs : KV}
end more
end Go.Vm
