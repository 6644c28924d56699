/-
  Heaps as lists of what the call made; loops and joins with what no model knows (keys); more operations.
-/
import Derived.Test.YtafflcbcpbgloaaQ7VmS
import Derived.Laws.Tables
namespace Go.Vm

abbrev HL := List (Option Key × Ent)
def hp (h0 : Heap) : HL → Heap
  | [] => h0
  | (none, _) :: r => hp h0 r
  | (some k, e) :: r => upd (hp h0 r) k (some e)
def HOk (h0 : Heap) : HL → Prop
  | [] => True
  | (t, _) :: r => HOk h0 r ∧ ∀ k, t = some k → hp h0 r k = none

theorem hp_get {h0 : Heap} {k : Key} {e : Ent} : ∀ {L : HL} (i : Nat), HOk h0 L → L[i]? = some (some k, e) → hp h0 L k = some e
  | [], i, _, h => by simp at h
  | (t, e') :: r, 0, _, h => by
    simp only [List.getElem?_cons_zero, Option.some.injEq, Prod.mk.injEq] at h
    obtain ⟨rfl, rfl⟩ := h
    simp only [hp, upd_same]
  | (t, e') :: r, i + 1, ok, h => by
    have ih := hp_get (L := r) i ok.1 (by simpa using h)
    cases t with
    | none => exact ih
    | some k' =>
      have : k ≠ k' := fun q => by
        have := ok.2 k' rfl
        rw [← q, ih] at this
        cases this
      simp only [hp]
      rw [upd_ne _ _ this]
      exact ih
theorem hp_sub {h0 : Heap} : ∀ {L' L : HL}, L'.Sublist L → HOk h0 L → Sub (hp h0 L') (hp h0 L) ∧ HOk h0 L' := by
  intro L' L hs
  induction hs with
  | slnil => intro _; exact ⟨Sub.refl _, trivial⟩
  | @cons l1 l2 a hs ih =>
    intro ok
    obtain ⟨i1, i2⟩ := ih ok.1
    obtain ⟨t, e⟩ := a
    refine ⟨?_, i2⟩
    cases t with
    | none => exact i1
    | some k =>
      intro x e' hx
      have h1 := i1 x e' hx
      have : x ≠ k := fun q => by
        have := ok.2 k rfl
        rw [← q, h1] at this
        cases this
      simp only [hp]
      rw [upd_ne _ _ this]
      exact h1
  | @cons_cons l1 l2 a hs ih =>
    intro ok
    obtain ⟨i1, i2⟩ := ih ok.1
    obtain ⟨t, e⟩ := a
    cases t with
    | none => exact ⟨i1, i2, fun _ q => by cases q⟩
    | some k =>
      refine ⟨?_, i2, ?_⟩
      · intro x e' hx
        simp only [hp] at hx ⊢
        by_cases q : x = k
        · subst q
          rw [upd_same] at hx ⊢
          exact hx
        · rw [upd_ne _ _ q] at hx ⊢
          exact i1 x e' hx
      · intro k' hk'
        cases hk'
        cases h : hp h0 l1 k with
        | none => rfl
        | some e' =>
          have := i1 k e' h
          rw [ok.2 k rfl] at this
          cases this

theorem hp_put {h0 : Heap} {k : Key} {t : Option Key} {e e' : Ent} : ∀ {L : HL} (i : Nat), HOk h0 L → L[i]? = some (t, e) → (t = some k ∨ (t = none ∧ hp h0 L k = none)) →
    upd (hp h0 L) k (some e') = hp h0 (L.set i (some k, e')) ∧ HOk h0 (L.set i (some k, e')) ∧ ∀ x, x ≠ k → hp h0 (L.set i (some k, e')) x = hp h0 L x
  | [], i, _, h, _ => by simp at h
  | (t', e0) :: r, 0, ok, h, ht => by
    simp only [List.getElem?_cons_zero, Option.some.injEq, Prod.mk.injEq] at h
    obtain ⟨rfl, rfl⟩ := h
    simp only [List.set_cons_zero]
    rcases ht with rfl | ⟨rfl, ht⟩
    · refine ⟨?_, ⟨ok.1, fun k' q => by cases q; exact ok.2 _ rfl⟩, fun x hx => ?_⟩
      · simp only [hp]; funext q; unfold upd; split <;> rfl
      · simp only [hp]; rw [upd_ne _ _ hx, upd_ne _ _ hx]
    · refine ⟨rfl, ⟨ok.1, fun k' q => by cases q; exact ht⟩, fun x hx => ?_⟩
      simp only [hp]; rw [upd_ne _ _ hx]
  | (t', e0) :: r, i + 1, ok, h, ht => by
    have h' : r[i]? = some (t, e) := by simpa using h
    cases t' with
    | none =>
      obtain ⟨h1, h2, h3⟩ := hp_put (e' := e') i ok.1 h' ht
      exact ⟨h1, ⟨h2, fun _ q => by cases q⟩, h3⟩
    | some k' =>
      have hne : k ≠ k' := by
        rcases ht with rfl | ⟨rfl, ht⟩
        · intro q
          have h1 := ok.2 k' rfl
          rw [← q, hp_get i ok.1 h'] at h1
          cases h1
        · intro q
          subst q
          simp only [hp, upd_same] at ht
          cases ht
      have ht' : t = some k ∨ (t = none ∧ hp h0 r k = none) := by
        rcases ht with ht | ⟨ht, h1⟩
        · exact .inl ht
        · refine .inr ⟨ht, ?_⟩
          simp only [hp] at h1
          rwa [upd_ne _ _ hne] at h1
      obtain ⟨h1, h2, h3⟩ := hp_put (e' := e') i ok.1 h' ht'
      simp only [List.set_cons_succ, hp]
      refine ⟨?_, ⟨h2, fun k2 q => ?_⟩, fun x hx => ?_⟩
      · rw [← h1]
        funext q; simp only [upd]
        by_cases q1 : q = k
        · subst q1; simp [hne]
        · simp [q1]
      · cases q
        rw [h3 k' hne.symm]
        exact ok.2 k' rfl
      · simp only [upd]
        split
        · rfl
        · exact h3 x hx

/-! ### Loops and joins with ghosts -/

def RG {τ σ ρ : Type} (id n : Nat) (I : τ → σ → Prop) (slots : τ → σ → KV) (H : τ → σ → Heap) (Q : Exit → Fr → Heap → Prop) (o : ρ) : Lp σ ρ → Exit → Fr → Heap → Prop
  | .go s, e, fr, h => e = .normal ∧ ∃ g, I g s ∧ LeF (fm n (slots g s)) (H g s) fr h
  | .brk s, e, fr, h => e = .exit id ∧ ∃ g, I g s ∧ LeF (fm n (slots g s)) (H g s) fr h
  | .ret r, e, fr, h => (e ≠ .normal ∧ e ≠ .exit id) ∧ (r = o → Q e fr h)
def JG {τ σ ρ : Type} (n : Nat) (I : τ → σ → Prop) (slots : τ → σ → KV) (H : τ → σ → Heap) (Q : Exit → Fr → Heap → Prop) (o : ρ) : Lp σ ρ → Exit → Fr → Heap → Prop
  | .go _, _, _, _ => False
  | .brk s, e, fr, h => e = .normal ∧ ∃ g, I g s ∧ LeF (fm n (slots g s)) (H g s) fr h
  | .ret r, e, fr, h => e ≠ .normal ∧ (r = o → Q e fr h)

section rules
variable {P : Program} {Q : Exit → Fr → Heap → Prop} {h : Heap} {n : Nat}

theorem AW_loopG {τ σ ρ : Type} {id : Nat} {c : Code} {fr : Fr} {step : σ → Option (Lp σ ρ)} {fuel : Nat} {s0 : σ} {k : σ → Option ρ} {o : ρ} (hm : after (loopM step fuel s0) k = some o) (I : τ → σ → Prop) (slots : τ → σ → KV) (H : τ → σ → Heap) (g0 : τ)
    (i0 : I g0 s0) (h0 : LeF (fm n (slots g0 s0)) (H g0 s0) fr h)
    (round : ∀ g s x, I g s → step s = some x → AW P c (RG id n I slots H Q o x) (fm n (slots g s)) (H g s))
    (next : ∀ g s fr' h', I g s → k s = some o → LeF (fm n (slots g s)) (H g s) fr' h' → Q .normal fr' h') : AW P (.block id (.loop c)) Q fr h := by
  refine AW_block ?_
  obtain ⟨out, hout, hk⟩ : ∃ out, loopM step fuel s0 = some out ∧ ((∃ s, out = .brk s ∧ k s = some o) ∨ ∃ r, out = .ret r ∧ r = o) := by
    cases e : loopM step fuel s0 with
    | none => rw [e] at hm; cases hm
    | some out =>
      rw [e] at hm
      cases out with
      | go s => cases hm
      | brk s => exact ⟨_, rfl, .inl ⟨s, rfl, hm⟩⟩
      | ret r => exact ⟨_, rfl, .inr ⟨r, rfl, Option.some.inj hm⟩⟩
  refine AW_loop (fun m fr' h' => ∃ s, loopM step m s = some out ∧ ∃ g, I g s ∧ LeF (fm n (slots g s)) (H g s) fr' h') fuel ⟨s0, hout, g0, i0, h0⟩ ?_
  rintro m fr' h' ⟨s, hs, g, hi, hle⟩
  cases m with
  | zero => cases hs
  | succ m =>
    simp only [loopM] at hs
    cases e : step s with
    | none => rw [e] at hs; cases hs
    | some x =>
      rw [e] at hs
      refine hle.aw ((round g s x hi e).mono ?_)
      intro ex fr'' h'' q
      cases x with
      | go s' =>
        obtain ⟨rfl, q⟩ := q
        exact ⟨m, Nat.lt_succ_self m, s', hs, q⟩
      | brk s' =>
        obtain ⟨rfl, g', gi, q⟩ := q
        cases hs
        simp only [Seq, Blk, if_true]
        rcases hk with ⟨s2, e2, hk⟩ | ⟨r, e2, _⟩
        · cases e2; exact next g' _ _ _ gi hk q
        · cases e2
      | ret r =>
        obtain ⟨⟨q1, q2⟩, q3⟩ := q
        cases hs
        have hr : r = o := by
          rcases hk with ⟨s2, e2, _⟩ | ⟨r', e2, e3⟩
          · cases e2
          · cases e2; exact e3
        have q4 := q3 hr
        cases ex with
        | normal => exact absurd rfl q1
        | exit i =>
          have : i ≠ id := fun e => q2 (by rw [e])
          simp only [Seq, Blk, this, if_false]
          exact q4
        | goto l => exact q4
        | ret => exact q4
        | panic ch => exact q4
        | outgrown => exact q4

theorem AW_joinG {τ σ ρ : Type} {c : Code} {fr : Fr} {m : Option (Lp σ ρ)} {k : σ → Option ρ} {o : ρ} (hm : after m k = some o) (I : τ → σ → Prop) (slots : τ → σ → KV) (H : τ → σ → Heap)
    (hc : ∀ x, m = some x → AW P c (JG n I slots H Q o x) fr h)
    (next : ∀ g s fr' h', I g s → k s = some o → LeF (fm n (slots g s)) (H g s) fr' h' → Q .normal fr' h') : AW P c Q fr h := by
  cases e : m with
  | none => rw [e] at hm; cases hm
  | some x =>
    rw [e] at hm
    refine (hc x e).mono ?_
    intro ex fr' h' q
    cases x with
    | go s => exact q.elim
    | brk s =>
      obtain ⟨rfl, g, gi, q⟩ := q
      exact next g s _ _ gi hm q
    | ret r => exact q.2 (Option.some.inj hm)
end rules

/-! ### Growing lists, objects -/

def ow (t : Option Key) (sz : Nat) (xs : List (List AV)) : AV := match t with
  | none => .e0
  | some k => .sl (some k) sz xs

def app {α : Type} (xs ys : List α) : Option (List α) := if xs.length + ys.length ≤ 1000000000 then some (xs ++ ys) else none
theorem app_spec {α : Type} {xs ys zs : List α} (h : app xs ys = some zs) : zs = xs ++ ys ∧ xs.length + ys.length ≤ 1000000000 := by
  unfold app at h
  split at h
  · exact ⟨(Option.some.inj h).symm, by assumption⟩
  · cases h
/-- A part of a list. -/
def slc {α : Type} (l : List α) (lo hi : Int) : Option (List α) := if 0 ≤ lo ∧ lo ≤ hi ∧ hi ≤ l.length then some ((l.take hi.toNat).drop lo.toNat) else none
theorem HOk.nil (h0 : Heap) : HOk h0 [] := trivial
theorem HOk.none {h0 : Heap} {L : HL} {e : Ent} (hk : HOk h0 L) : HOk h0 ((none, e) :: L) := ⟨hk, nofun⟩
theorem hp_erase {h0 : Heap} {k : Key} {e : Ent} : ∀ {L : HL} (i : Nat), HOk h0 L → L[i]? = some (some k, e) → hp h0 (L.eraseIdx i) k = Option.none
  | [], i, _, h => by simp at h
  | (t, e') :: r, 0, ok, h => by
    simp only [List.getElem?_cons_zero, Option.some.injEq, Prod.mk.injEq] at h
    obtain ⟨rfl, rfl⟩ := h
    exact ok.2 _ rfl
  | (t, e') :: r, i + 1, ok, h => by
    have h' : r[i]? = some (some k, e) := by simpa using h
    have ih := hp_erase (L := r) i ok.1 h'
    simp only [List.eraseIdx_cons_succ]
    cases t with
    | none => exact ih
    | some k' =>
      have : k ≠ k' := fun q => by
        have h2 := ok.2 k' rfl
        rw [← q, hp_get i ok.1 h'] at h2
        cases h2
      simp only [hp]
      rw [upd_ne _ _ this]
      exact ih
theorem sub_none {h h' : Heap} (hs : Sub h' h) {k : Key} (hk : h k = Option.none) : h' k = Option.none := by
  cases e : h' k with
  | none => rfl
  | some x => have := hs k x e; rw [hk] at this; cases this
theorem hp_base_none {h0 : Heap} {k : Key} {e : Ent} {L : HL} (i : Nat) (hk : HOk h0 L) (hi : L[i]? = some (some k, e)) : h0 k = Option.none := by
  have h1 := hp_erase i hk hi
  have h2 := (hp_sub (List.eraseIdx_sublist L i) hk).2
  have h3 := (hp_sub (h0 := h0) (L' := []) (List.nil_sublist (L.eraseIdx i)) h2).1
  exact sub_none h3 h1
/-- A growing list that grows no more. -/
theorem ow_nil {α : Type} {c : α → List AV} (h : Heap) (sz : Nat) : ALe h (.sc (.slice Option.none 0 0)) (ow Option.none sz (List.map c [])) := ALe.nil_e0 h
theorem own_frz {α : Type} {c : α → List AV} {xs : List α} {t : Option Key} {h : Heap} (sz : Nat) (ot : t = Option.none → xs = []) (hn : ∀ k, t = some k → h k = Option.none) : ALe h (ow t sz (xs.map c)) (.sl Option.none sz (xs.map c)) := by
  cases t with
  | none => rw [ot rfl]; exact ALe.e0 h sz
  | some k => exact ALe.freeze (fun _ _ _ => by rw [hn k rfl]; simp) sz _
theorem own_frz0 {α : Type} {c : α → List AV} {xs : List α} {t : Option Key} {h0 : Heap} {L : HL} {e : Ent} (sz : Nat) (i : Nat) (ot : t = Option.none → xs = []) (hk : HOk h0 L) (hi : L[i]? = some (t, e)) : ALe h0 (ow t sz (xs.map c)) (.sl Option.none sz (xs.map c)) :=
  own_frz sz ot fun k q => hp_base_none i hk (by rw [hi, q])
theorem own_frzE {α : Type} {c : α → List AV} {xs : List α} {t : Option Key} {h0 : Heap} {L L' : HL} {e : Ent} (sz : Nat) (i : Nat) (ot : t = Option.none → xs = []) (hk : HOk h0 L) (hi : L[i]? = some (t, e)) (hs : L'.Sublist (L.eraseIdx i)) : ALe (hp h0 L') (ow t sz (xs.map c)) (.sl Option.none sz (xs.map c)) :=
  own_frz sz ot fun k q => sub_none (hp_sub hs (hp_sub (List.eraseIdx_sublist L i) hk).2).1 (hp_erase i hk (by rw [hi, q]))
theorem nil_le {h : Heap} (sz : Nat) : ALe h (.sc (.slice Option.none 0 0)) (.sl Option.none sz []) := ALe.nil h sz 0 (by simp [maxLen])
theorem nil_lem {α : Type} {c : α → List AV} {h : Heap} (sz : Nat) : ALe h (.sc (.slice Option.none 0 0)) (.sl Option.none sz (List.map c [])) := nil_le sz

theorem ACalls_hp {P : Program} {h : Heap} {f : FuncId} {fn : Func} {c : Code} {args : List AV} {Q : AV → Heap → Prop} (n : Nat) (rs : List ResultVar) (hf : P.funcs[f]? = some fn) (hb : fn.body = some c) (hn : fn.ntmps = n) (hr : fn.results.toList = rs) (hle : Nat.ble args.length n = true)
    (hc : AW P c (Ret P rs Q) (fm n (argk 0 args)) (hp h [])) : ACalls P f args h Q := ACalls_fm n rs hf hb hn hr hle hc
theorem hp_cat (h0 : Heap) (L : HL) (x : Option Key × Ent) : hp (hp h0 L) [x] = hp h0 (x :: L) := by
  obtain ⟨t, e⟩ := x
  cases t <;> rfl
theorem LeF.put {n : Nat} {kvs : KV} {h h' : Heap} {t : Nat} {v : AV} (hs : Sub h' h) (hv : ALe h' (lk n kvs t) v) : LeF (Vm.fm n (kp kvs t v)) h' (Vm.fm n kvs) h :=
  LeF.fm hs (.cons hv fun _ _ => ALe.refl _ _)

theorem ALeL.app {h : Heap} {xs ys : List AV} : ∀ (k : Nat) {zs : List AV}, zs.length = k → ALeL h xs ys → ALeL h (zs ++ xs) (zs ++ ys)
  | 0, [], _, hl => hl
  | k + 1, z :: zs, hz, hl => .cons (ALe.refl _ _) (ALeL.app k (by simpa using hz) hl)
  | 0, _ :: _, hz, _ => by simp at hz
  | _ + 1, [], hz, _ => by simp at hz
/-- An object's cells, said in fewer words. -/
theorem LeF.obj {h0 : Heap} {L : HL} {n : Nat} {f : KV} {k : Key} {ty : TypeId} {cs : List AV} (i : Nat) (cs' : List AV) (hk : HOk h0 L) (hi : L[i]? = some (some k, .obj ty cs)) (hl : ALeL (hp h0 L) cs cs') :
    HOk h0 (L.set i (some k, .obj ty cs')) ∧ LeF (Vm.fm n f) (hp h0 (L.set i (some k, .obj ty cs'))) (Vm.fm n f) (hp h0 L) := by
  obtain ⟨h1, h2, _⟩ := hp_put (e' := .obj ty cs') i hk hi (.inl rfl)
  refine ⟨h2, fun E w vs r v => ?_⟩
  obtain ⟨g, cur, e1, e2, e3, e4⟩ := r.obj k ty cs (hp_get i hk hi)
  obtain ⟨k1, r1⟩ := r.set_obj (hp_get i hk hi) e1 (w' := w) e2 (fun _ _ => rfl) (Nat.le_refl _) rfl rfl rfl (hl.spec r e3) e4
  rw [h1] at r1
  exact ⟨E, k1, r1, v⟩

section ops
variable {P : Program} {ops : Array Oper} {K : Fr → Heap → Prop} {h h0 : Heap} {L : HL} {n : Nat} {kvs : KV} {l : List Oper} {ty : TypeId} {pos : String} {aft : Array Edge}

theorem a_app {K : AV → Heap → Prop} {α : Type} {c : α → List AV} {xs ys zs : List α} {dst : Option Tmp} {s x : Operand} {t e : TypeId} {sz b : Nat} {tg : Option Key} (i : Nat) (hm : app xs ys = some zs) (ht : ElT P t e sz b) (hb : Nat.ble b 100000 = true)
    (ha : evk n kvs s = ow tg sz (xs.map c)) (hi : L[i]? = some (tg, .tok e sz (xs.length * sz))) (ot : tg = none → xs = []) (hk : HOk h0 L) (hx : srcOf (hp h0 L) sz (evk n kvs x) = some (ys.map c))
    (k : ∀ tg', (tg' = none → zs = []) → HOk h0 (L.set i (tg', .tok e sz (zs.length * sz))) → K (ow tg' sz (zs.map c)) (hp h0 (L.set i (tg', .tok e sz (zs.length * sz))))) :
    AOp P ⟨dst, .call { callee := .builtin .append, args := #[s, x], argTypes := #[t, t] }, ty, pos, aft, none⟩ K (fm n kvs) (hp h0 L) := by
  obtain ⟨rfl, hsz⟩ := app_spec hm
  have hb' := Nat.le_of_ble_eq_true hb
  have hbound : (xs.length + ys.length) * (b + 1) ≤ 140737488355328 := by
    have : (xs.length + ys.length) * (b + 1) ≤ 1000000000 * 100001 := Nat.mul_le_mul hsz (by omega)
    omega
  cases tg with
  | none =>
    have hx0 := ot rfl
    subst hx0
    refine (AOp_append_nil rfl 0 ht (by rw [ev_fm]; exact ha) (.inr rfl) (by rw [ev_fm]; exact hx) (by rw [List.length_map]; simpa using hbound) (fun e0 => ?_) (fun e0 q hq => ?_))
    · have : ys = [] := by simpa using e0
      subst this
      have := k none (fun _ => rfl) (by
        have e1 : L.set i (none, Ent.tok e sz (([] : List α).length * sz)) = L := by
          apply List.ext_getElem?; intro j; rw [List.getElem?_set]; split
          · rename_i q; subst q; split
            · exact hi.symm
            · rename_i q; rw [List.getElem?_eq_none (Nat.le_of_not_lt q)]
          · rfl
        rw [List.nil_append, e1]; exact hk)
      have e1 : L.set i (none, Ent.tok e sz (([] ++ [] : List α).length * sz)) = L := by
        apply List.ext_getElem?; intro j; rw [List.getElem?_set]; split
        · rename_i q; subst q; split
          · exact hi.symm
          · rename_i q; rw [List.getElem?_eq_none (Nat.le_of_not_lt q)]
        · rfl
      rw [e1] at this
      exact this
    · obtain ⟨h1, h2, _⟩ := hp_put (e' := .tok e sz ((ys.map c).length * sz)) i hk hi (.inr ⟨rfl, hq⟩)
      rw [h1]
      rw [List.length_map] at h1 h2 ⊢
      exact k (some (0, q)) (fun q => by cases q) h2
  | some kk =>
    have hg := hp_get i hk hi
    refine (AOp_append_tok rfl ht (k := kk) (by rw [ev_fm]; exact ha) (by rw [hg, List.length_map]) (by rw [ev_fm]; exact hx) (by rw [List.length_map, List.length_map]; exact hbound) ?_)
    obtain ⟨h1, h2, _⟩ := hp_put (e' := .tok e sz ((xs.map c ++ ys.map c).length * sz)) i hk hi (.inl rfl)
    rw [h1]
    rw [← List.map_append, List.length_map] at h1 h2 ⊢
    exact k (some kk) (fun q => by cases q) h2

theorem AOp_le {o : Oper} {K : AV → Heap → Prop} {fr fr' : Fr} (hl : ∀ y ∈ o.op.operands, ALe h (ev fr y) (ev fr' y)) (ho : AOp P o K fr' h) : AOp P o K fr h :=
  fun E w a r v => ho E w a r fun y hy => hl y hy E w _ r (v y hy)
/-- The first elements of a list that is nil yet. -/
theorem a_app0 {K : AV → Heap → Prop} {α : Type} {c : α → List AV} {ys zs : List α} {dst : Option Tmp} {s : Nat} {x : Operand} {t e : TypeId} {sz b : Nat} (hm : app [] ys = some zs) (ht : ElT P t e sz b) (hb : Nat.ble b 100000 = true)
    (ha : evk n kvs (.tmp s) = .sc (.slice none 0 0)) (hk : HOk h0 L) (hne : x ≠ .tmp s) (hx : srcOf (hp h0 L) sz (evk n kvs x) = some (ys.map c))
    (k : ∀ tg', (tg' = none → zs = []) → HOk h0 ((tg', .tok e sz (zs.length * sz)) :: L) → K (ow tg' sz (zs.map c)) (hp h0 ((tg', .tok e sz (zs.length * sz)) :: L))) :
    AOp P ⟨dst, .call { callee := .builtin .append, args := #[.tmp s, x], argTypes := #[t, t] }, ty, pos, aft, none⟩ K (fm n kvs) (hp h0 L) := by
  have hlt : s < n := by
    simp only [evk, lk_eq] at ha
    split at ha
    · assumption
    · cases ha
  refine AOp_le (fr' := fm n (kp kvs s (ow none sz (([] : List α).map c)))) ?_ (a_app (c := c) (L := (none, .tok e sz (([] : List α).length * sz)) :: L) (xs := []) 0 hm ht hb ?_ rfl (fun _ => rfl) ⟨hk, nofun⟩ ?_ ?_)
  · intro y hy
    rw [ev_fm, ev_fm]
    have hy : y = .tmp s ∨ y = x := by simpa [Op.operands, Call.operands] using hy
    rcases hy with rfl | rfl
    · rw [ha]
      simp only [evk, lk_eq, if_pos hlt, kp_same]
      exact ow_nil _ sz
    · cases y with
      | tmp u =>
        have hus : s ≠ u := fun q => hne (by rw [q])
        simp only [evk, lk_eq, kp_ne _ _ hus]
        exact ALe.refl _ _
      | const v => exact ALe.refl _ _
      | global g => exact ALe.refl _ _
      | func f => exact ALe.refl _ _
  · simp only [evk, lk_eq, if_pos hlt, kp_same]
  · have e1 : evk n (kp kvs s (ow none sz (([] : List α).map c))) x = evk n kvs x := by
      cases x with
      | tmp u =>
        have hus : s ≠ u := fun q => hne (by rw [q])
        simp only [evk, lk_eq, kp_ne _ _ hus]
      | const v => rfl
      | global g => rfl
      | func f => rfl
    rw [e1]
    exact hx
  · intro tg' h1 h2
    exact k tg' h1 h2
/-- A literal slice that grows. -/
theorem a_litg {K : AV → Heap → Prop} {α : Type} {c : α → List AV} {dst : Option Tmp} {t e : TypeId} {sz b len : Nat} {parts : Array (Nat × Operand)} (xs : List α) (hk : HOk h0 L) (ht : ElT P t e sz b) (hi : parts.toList.map (·.1) = List.range len) (hl : Nat.ble (len * sz) 16777216 = true)
    (hg : cellsEach (parts.toList.map fun p => evk n kvs p.2) = some (xs.map c)) (ho : (xs.map c).all (fun g => g.all ocell && g.length == sz) = true)
    (k : ∀ tg, (tg = none → xs = []) → HOk h0 ((tg, .tok e sz (xs.length * sz)) :: L) → K (ow tg sz (xs.map c)) (hp h0 ((tg, .tok e sz (xs.length * sz)) :: L))) :
    AOp P ⟨dst, .buildSlice t len parts, ty, pos, aft, none⟩ K (fm n kvs) (hp h0 L) := by
  have e1 : (parts.toList.map fun p => ev (fm n kvs) p.2) = parts.toList.map fun p => evk n kvs p.2 := List.map_congr_left fun p _ => ev_fm n kvs p.2
  refine AOp_litg rfl 0 ht hi (Nat.le_of_ble_eq_true hl) (by rw [e1]; exact hg) ho fun q hq => ?_
  rw [List.length_map]
  exact k (some (0, q)) (fun e => by cases e) ⟨hk, fun k' e => by cases e; exact hq⟩
/-- An empty literal. -/
theorem a_lit0 {K : AV → Heap → Prop} {α : Type} {c : α → List AV} {dst : Option Tmp} {t e : TypeId} {sz b : Nat} (hk : HOk h0 L) (ht : ElT P t e sz b)
    (k : HOk h0 ((none, .tok e sz (([] : List α).length * sz)) :: L) → K (ow none sz (([] : List α).map c)) (hp h0 ((none, .tok e sz (([] : List α).length * sz)) :: L))) :
    AOp P ⟨dst, .buildSlice t 0 #[], ty, pos, aft, none⟩ K (fm n kvs) (hp h0 L) :=
  AOp_lit0 rfl ht (k ⟨hk, nofun⟩)
theorem s_fz {t : Nat} (v : AV) (hs : Sub h0 h) (hv : ALe h0 (lk n kvs t) v) (k : AOps P ops l K (fm n (kp kvs t v)) h0) : AOps P ops l K (fm n kvs) h := by
  intro E w a r vv d Q hQ
  obtain ⟨E', k', r', v'⟩ := LeF.put hs hv E w _ r vv
  exact k E' w a r' v' d Q fun a' w' p => hQ _ _ (p.trans k')
/-- A literal slice that nobody writes. -/
theorem o_lit {dst : Option Tmp} {t e : TypeId} {sz b len : Nat} {parts : Array (Nat × Operand)} (gs : List (List AV)) (ht : ElT P t e sz b) (hi : parts.toList.map (·.1) = List.range len) (hl : Nat.ble (len * sz) 16777216 = true)
    (hg : cellsEach (parts.toList.map fun p => evk n kvs p.2) = some gs) (ho : gs.all (fun g => g.all ocell && g.length == sz) = true) : AOpV P ⟨dst, .buildSlice t len parts, ty, pos, aft, none⟩ (.sl none sz gs) (fm n kvs) h := by
  have e : (parts.toList.map fun p => ev (fm n kvs) p.2) = parts.toList.map fun p => evk n kvs p.2 := List.map_congr_left fun p _ => ev_fm n kvs p.2
  exact AOp_lit rfl ht hi (Nat.le_of_ble_eq_true hl) (by rw [e]; exact hg) ho ⟨rfl, rfl⟩

/-- A part of a list. -/
theorem slA_typed {α : Type} {c : α → List AV} {xs ys : List α} {tag : Option Key} {sz : Nat} {lo hi : Option AV} {x y : Int} {es : Option Nat} {as : Option (Nat × Nat)} (hm : slc xs x y = some ys) (he : es = some sz) (h0 : 0 < sz) (hl : bdA 0 lo = some x) (hh : bdA xs.length hi = some y) :
    ∃ p : Prop, p ∧ slA lo hi es as (.sl tag sz (xs.map c)) = some (p, .sl tag sz (ys.map c)) := by
  unfold slc at hm
  split at hm
  · rename_i hc
    cases hm
    refine ⟨(sz = sz ∧ 0 < sz) ∧ 0 ≤ x ∧ x ≤ y ∧ y ≤ (xs.map c).length, ⟨⟨rfl, h0⟩, hc.1, hc.2.1, by rw [List.length_map]; exact hc.2.2⟩, ?_⟩
    simp only [slA, he, Option.bind_some, hl, List.length_map, hh]
    rw [List.map_drop, List.map_take]
  · cases hm
def evo (n : Nat) (kvs : KV) (o : Option Operand) : Option AV := o.map (evk n kvs)
theorem o_slc {α : Type} {c : α → List AV} {xs ys : List α} {dst : Option Tmp} {a : Operand} {lo hi : Option Operand} {t : TypeId} {tag : Option Key} {sz : Nat} {x y : Int} (hm : slc xs x y = some ys) (ht : elS P t = some sz) (h0 : Nat.blt 0 sz = true) (ha : evk n kvs a = .sl tag sz (xs.map c))
    (hl : bdA 0 (evo n kvs lo) = some x) (hh : bdA xs.length (evo n kvs hi) = some y) : AOpV P ⟨dst, .slice t a lo hi none, ty, pos, aft, none⟩ (.sl tag sz (ys.map c)) (fm n kvs) h := by
  have e : ∀ o : Option Operand, o.map (ev (fm n kvs)) = evo n kvs o := fun o => by cases o <;> simp [evo, ev_fm]
  rw [Nat.blt_eq] at h0
  obtain ⟨p, hp, hs⟩ := slA_typed (c := c) (tag := tag) (es := elS P t) (as := arS P t) hm ht h0 hl hh
  refine o_pv (c := p) ?_ hp
  have hT : slT P t = true := by simp [slT, ht]
  simp only [pv, ev_fm, ha, e, hs, Option.bind_some, hT, if_true]

end ops

end Go.Vm
