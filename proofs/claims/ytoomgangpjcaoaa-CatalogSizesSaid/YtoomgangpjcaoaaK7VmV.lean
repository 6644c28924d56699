/-
  A region that draws its order and writes: first all that is quiet and ready, then what has an effect, one by one.
-/
import Derived.Test.YtoomgangpjcaoaaK7VmU
namespace Go.Vm

def aft (ops : Array Oper) (i j : Nat) : Bool := match ops[j]? with
  | some oj => oj.after.any fun e => Region.binds .any e && e.on == i
  | none => true

/-- What the heap holds there, if there is a place. -/
def At (h : Heap) (k : Option Key) (e : Ent) : Prop := ∀ q, k = some q → h q = some e
theorem At.s {h : Heap} {k : Key} {e : Ent} (a : At h (some k) e) : h k = some e := a k rfl
theorem At.of {h : Heap} {k : Key} {e : Ent} (a : h k = some e) : At h (some k) e := fun _ hq => by cases hq; exact a
theorem hp_at {h0 : Heap} {L : HL} {t : Option Key} {e : Ent} (i : Nat) (hk : HOk h0 L) (hi : L[i]? = some (t, e)) : At (hp h0 L) t e := fun q hq => hp_get i hk (by rw [hi, hq])

/-- What quiet operations still to come read of the heap, and before which store. -/
def InvL : List (Nat × Option Key × Ent) → Array Bool → Heap → Prop
  | [], _, _ => True
  | (b, k, e) :: r, S, h => (S.getD b false = false → At h k e) ∧ InvL r S h

theorem getD_set_false {S : Array Bool} {b j : Nat} (h : (S.setIfInBounds j true).getD b false = false) : S.getD b false = false := by
  cases e : S.getD b false with
  | false => rfl
  | true => rw [getD_set_true e] at h; cases h
theorem InvL.mono {j : Nat} {S : Array Bool} {h : Heap} : ∀ {fs : List (Nat × Option Key × Ent)}, InvL fs S h → InvL fs (S.setIfInBounds j true) h
  | [], _ => trivial
  | (_, _, _) :: _, hi => ⟨fun e => hi.1 (getD_set_false e), hi.2.mono⟩
theorem InvL.unset {i : Nat} {S : Array Bool} {h : Heap} : ∀ {fs : List (Nat × Option Key × Ent)}, (fs.all fun q => q.1 != i) = true → InvL fs (S.setIfInBounds i true) h → InvL fs S h
  | [], _, _ => trivial
  | (b, _, _) :: r, hn, hi => by
    simp only [List.all_cons, Bool.and_eq_true, bne_iff_ne, ne_eq] at hn
    refine ⟨fun e => hi.1 ?_, hi.2.unset hn.2⟩
    rw [getD_set_ne false (Ne.symm hn.1)]
    exact e
theorem InvL.get {S : Array Bool} {h : Heap} {b : Nat} {k : Option Key} {e : Ent} : ∀ {fs : List (Nat × Option Key × Ent)} (p : Nat), InvL fs S h → fs[p]? = some (b, k, e) → S.getD b false = false → At h k e
  | [], p, _, hp, _ => by simp at hp
  | (b', k', e') :: r, 0, hi, hp, hs => by
    simp only [List.getElem?_cons_zero, Option.some.injEq, Prod.mk.injEq] at hp
    obtain ⟨rfl, rfl, rfl⟩ := hp
    exact hi.1 hs
  | (b', k', e') :: r, p + 1, hi, hp, hs => InvL.get p hi.2 (by simpa using hp) hs

section game
variable {P : Program} {ops : Array Oper} {K : Fr → Heap → Prop} {fs : List (Nat × Option Key × Ent)}

def AG (P : Program) (ops : Array Oper) (fs : List (Nat × Option Key × Ent)) (K : Fr → Heap → Prop) : Nat → Array Bool → Fr → Heap → Prop
  | 0, S, fr, h => Region.ready .any ops S = [] ∧ K fr h
  | f + 1, S, fr, h => (Region.ready .any ops S = [] → K fr h) ∧ ∀ i ∈ Region.ready .any ops S, ∀ o, ops[i]? = some o →
      (∃ x, AYields P ops h fr o x ∧ AG P ops fs K f (S.setIfInBounds i true) (fput fr o.dst x) h) ∨
      (o.guard = none ∧ AOp P o (fun x h' => InvL fs (S.setIfInBounds i true) h' ∧ AG P ops fs K f (S.setIfInBounds i true) (fput fr o.dst x) h') fr h)

theorem AG_sound : ∀ (fuel : Nat) (S : Array Bool) (fr : Fr) (h : Heap), AG P ops fs K fuel S fr h → ∀ (E : Env) (w : World) (a : Act), Rel E h w → VRL E w fr a.tmps.toList → a.defers = [] →
    ∀ Q, (∀ a' w', Post E w K a' w' → Q .normal a' w') → wpAny P .any ops Q fuel S a w
  | 0, S, fr, h, H, E, w, a, r, v, d, Q, hQ => ⟨H.1, hQ _ _ ⟨E, fr, h, Keep.refl E w, r, v, d, H.2⟩⟩
  | fuel + 1, S, fr, h, H, E, w, a, r, v, d, Q, hQ => by
    refine ⟨fun e => hQ _ _ ⟨E, fr, h, Keep.refl E w, r, v, d, H.1 e⟩, fun i hi => ?_⟩
    obtain ⟨_, o, ho, _⟩ := mem_ready.1 hi
    unfold wpOp
    simp only [ho]
    rcases H.2 i hi o ho with ⟨x, hy, hn⟩ | ⟨hg, hop⟩
    · rcases hy with ⟨h1, h2⟩ | ⟨h1, rfl⟩
      · rw [h1.wanted v, if_pos rfl]
        refine .inl (h2 E w a r (fun y _ => VR_ev v y) _ Q ?_)
        rintro x' u w' E' h' k r' vx ⟨ex, eh⟩
        rw [ex] at vx
        rw [eh] at r'
        refine AG_sound fuel _ _ _ hn E' w' _ r' (VRL_put _ (VRL_keep k _ _ v) vx) (by rw [put_defers]; exact d) Q ?_
        intro a' w'' p
        exact hQ _ _ (p.trans k)
      · rw [h1.wanted v]
        simp only [Bool.false_eq_true, if_false]
        exact AG_sound fuel _ _ _ hn E w _ r (VRL_put _ v (by simp [VR])) (by rw [put_defers]; exact d) Q hQ
    · have hw : Region.wanted o (yielded ops a.tmps) = true := by simp [Region.wanted, hg]
      rw [hw, if_pos rfl]
      refine .inl (hop E w a r (fun y _ => VR_ev v y) _ Q ?_)
      rintro x' u w' E' h' k r' vx ⟨_, hn⟩
      refine AG_sound fuel _ _ _ hn E' w' _ r' (VRL_put _ (VRL_keep k _ _ v) vx) (by rw [put_defers]; exact d) Q ?_
      intro a' w'' p
      exact hQ _ _ (p.trans k)

theorem aft_of_ready {i j : Nat} {S : Array Bool} (hj : j ∈ Region.ready .any ops S) (hi : S.getD i false = false) : aft ops i j = false := by
  obtain ⟨_, oj, hoj, hall⟩ := mem_ready.1 hj
  unfold aft
  rw [hoj]
  cases e : oj.after.any fun e => Region.binds .any e && e.on == i with
  | false => exact e
  | true =>
    obtain ⟨x, hx, hb⟩ := Array.any_eq_true'.1 e
    simp only [Bool.and_eq_true, beq_iff_eq] at hb
    have := hall x hx hb.1
    rw [hb.2, hi] at this
    cases this

theorem AG_first {i : Nat} {oi : Oper} {x : AV} (hi : ops[i]? = some oi) (hn : (fs.all fun q => q.1 != i) = true) : ∀ (fuel : Nat) (S : Array Bool) (fr : Fr) (h : Heap), S.size = ops.size →
    (∀ j oj, ops[j]? = some oj → j ≠ i → S.getD j true = false → (∀ e ∈ oj.after, Region.binds .any e = true → e.on ≠ i) → oi.apart ops oj = true) →
    (∀ j, aft ops i j = true → S.getD j false = false) →
    i ∈ Region.ready .any ops S → InvL fs S h → (∀ S' h', InvL fs S' h' → (∀ j, aft ops i j = true → S'.getD j false = false) → AYields P ops h' fr oi x) →
    AG P ops fs K fuel (S.setIfInBounds i true) (fput fr oi.dst x) h → AG P ops fs K (fuel + 1) S fr h := by
  intro fuel
  induction fuel with
  | zero =>
    intro S fr h hsz _ hb hr hI hV H
    refine ⟨fun e => (by rw [e] at hr; cases hr), fun j hj oj hoj => ?_⟩
    by_cases hji : j = i
    · subst hji
      rw [hi] at hoj; cases hoj
      exact .inl ⟨x, hV S h hI hb, H⟩
    · have := ready_mono hj hji
      rw [H.1] at this
      cases this
  | succ fuel ih =>
    intro S fr h hsz hfree hb hr hI hV H
    refine ⟨fun e => (by rw [e] at hr; cases hr), fun j hj oj hoj => ?_⟩
    by_cases hji : j = i
    · subst hji
      rw [hi] at hoj; cases hoj
      exact .inl ⟨x, hV S h hI hb, H⟩
    · have hilt : i < S.size := by rw [hsz]; exact (Array.getElem?_eq_some_iff.1 hi).1
      have hiun : S.getD i false = false := by
        have := (mem_ready.1 hr).1
        simp only [Array.getD_eq_getD_getElem?, Array.getElem?_eq_getElem hilt, Option.getD_some] at this ⊢
        exact this
      obtain ⟨hjun, oj', hoj', hall⟩ := mem_ready.1 hj
      rw [hoj] at hoj'; cases hoj'
      have hnot : ∀ e ∈ oj.after, Region.binds .any e = true → e.on ≠ i := fun e he hbn heq => by
        have h1 := hall e he hbn
        rw [heq, hiun] at h1
        cases h1
      obtain ⟨a1, a2, a3⟩ := Oper.apart_spec (hfree j oj hoj hji hjun hnot)
      have hfree' : ∀ k ok, ops[k]? = some ok → k ≠ i → (S.setIfInBounds j true).getD k true = false →
          (∀ e ∈ ok.after, Region.binds .any e = true → e.on ≠ i) → oi.apart ops ok = true := fun k ok hk hki hun hno => by
        refine hfree k ok hk hki ?_ hno
        by_cases hjk : j = k
        · subst hjk; exact hjun
        · rw [getD_set_ne true hjk] at hun; exact hun
      have haj := aft_of_ready hj hiun
      have hb' : ∀ k, aft ops i k = true → (S.setIfInBounds j true).getD k false = false := fun k hk => by
        have : j ≠ k := fun e => by subst e; rw [haj] at hk; cases hk
        rw [getD_set_ne false this]
        exact hb k hk
      have hsz' : (S.setIfInBounds j true).size = ops.size := by simpa using hsz
      rcases H.2 j (ready_mono hj hji) oj hoj with ⟨y, hy2, hn2⟩ | ⟨hg, hop⟩
      · refine .inl ⟨y, hy2.unput a1, ?_⟩
        refine ih (S.setIfInBounds j true) (fput fr oj.dst y) h hsz' hfree' hb' (ready_mono hr (Ne.symm hji)) hI.mono (fun S' h' u v => (hV S' h' u v).put a3) ?_
        rw [Array.setIfInBounds_comm _ _ hji, ← fput_comm fr _ _ a2]
        exact hn2
      · refine .inr ⟨hg, ?_⟩
        have hop' := hop.congr (fr' := fr) fun y hy => (ev_put a1 y hy).symm
        refine hop'.mono ?_
        rintro y h' ⟨q1, q2⟩
        rw [Array.setIfInBounds_comm _ _ (Ne.symm hji)] at q1
        have q3 : InvL fs (S.setIfInBounds j true) h' := q1.unset hn
        refine ⟨q3, ?_⟩
        refine ih (S.setIfInBounds j true) (fput fr oj.dst y) h' hsz' hfree' hb' (ready_mono hr (Ne.symm hji)) q3 (fun S' h' u v => (hV S' h' u v).put a3) ?_
        rw [Array.setIfInBounds_comm _ _ hji, ← fput_comm fr _ _ a2]
        exact q2

/-- A quiet operation may come first. -/
def zq (ops : Array Oper) (S : Array Bool) (i : Nat) : Bool :=
  (Region.ready .any ops S).contains i && Region.free .any ops S i && S.size == ops.size && (List.range ops.size).all fun j => !(aft ops i j) || !(S.getD j false)

theorem zq_spec {i : Nat} {oi : Oper} {S : Array Bool} (hi : ops[i]? = some oi) (hz : zq ops S i = true) : i ∈ Region.ready .any ops S ∧ S.size = ops.size ∧
    (∀ j oj, ops[j]? = some oj → j ≠ i → S.getD j true = false → (∀ e ∈ oj.after, Region.binds .any e = true → e.on ≠ i) → oi.apart ops oj = true) ∧ (∀ j, aft ops i j = true → S.getD j false = false) := by
  simp only [zq, Bool.and_eq_true, beq_iff_eq, List.all_eq_true, List.mem_range, Bool.or_eq_true, Bool.not_eq_true'] at hz
  obtain ⟨⟨⟨h1, h2⟩, h3⟩, h4⟩ := hz
  refine ⟨by simpa using h1, h3, Region.free_spec hi h2, fun j hj => ?_⟩
  by_cases hlt : j < ops.size
  · rcases h4 j hlt with h5 | h5
    · rw [hj] at h5; cases h5
    · exact h5
  · simp only [Array.getD_eq_getD_getElem?, Array.getElem?_eq_none (by omega : S.size ≤ j), Option.getD_none]

/-- The game, with what the heap still holds. -/
def AGI (P : Program) (ops : Array Oper) (fs : List (Nat × Option Key × Ent)) (K : Fr → Heap → Prop) (fuel : Nat) (S : Array Bool) (fr : Fr) (h : Heap) : Prop := InvL fs S h → AG P ops fs K fuel S fr h

variable {h : Heap} {n : Nat} {kvs : KV} {ty : TypeId} {pos : String} {aft' : Array Edge}

theorem z_v {f : Nat} {S : Array Bool} (i : Nat) {dst : Option Tmp} {op : Op} {x : AV} (hi : ops[i]? = some ⟨dst, op, ty, pos, aft', none⟩) (hz : zq ops S i = true) (hn : (fs.all fun q => q.1 != i) = true)
    (ho : ∀ S' h', InvL fs S' h' → (∀ j, aft ops i j = true → S'.getD j false = false) → AOpV P ⟨dst, op, ty, pos, aft', none⟩ x (fm n kvs) h')
    (k : AGI P ops fs K f (S.setIfInBounds i true) (fm n (putk kvs dst x)) h) : AGI P ops fs K (f + 1) S (fm n kvs) h := by
  intro hI
  obtain ⟨z1, z2, z3, z4⟩ := zq_spec hi hz
  refine AG_first hi hn f S (fm n kvs) h z2 z3 z4 z1 hI (fun S' h' a b => .inl ⟨.inl ⟨rfl, rfl⟩, ho S' h' a b⟩) ?_
  rw [fput_fm]
  exact k hI.mono
theorem z_e {f : Nat} {S : Array Bool} (i : Nat) {dst : Option Tmp} {op : Op} (hi : ops[i]? = some ⟨dst, op, ty, pos, aft', none⟩) (hz : Region.ready .any ops S = [i])
    (ho : AOp P ⟨dst, op, ty, pos, aft', none⟩ (fun x h' => InvL fs (S.setIfInBounds i true) h' ∧ AGI P ops fs K f (S.setIfInBounds i true) (fm n (putk kvs dst x)) h') (fm n kvs) h) : AGI P ops fs K (f + 1) S (fm n kvs) h := by
  intro _
  refine ⟨fun e => (by rw [hz] at e; cases e), fun j hj oj hoj => ?_⟩
  rw [hz] at hj
  cases List.mem_singleton.1 hj
  rw [hi] at hoj; cases hoj
  exact .inr ⟨rfl, ho.mono fun x h' q => ⟨q.1, by rw [fput_fm]; exact q.2 q.1⟩⟩
theorem z_nil {f : Nat} {S : Array Bool} (hz : Region.ready .any ops S = []) (hk : K (fm n kvs) h) : AGI P ops fs K f S (fm n kvs) h := by
  intro _
  cases f with
  | zero => exact ⟨hz, hk⟩
  | succ f => exact ⟨fun _ => hk, fun i hi => by rw [hz] at hi; cases hi⟩

theorem AW_zreg {Q : Exit → Fr → Heap → Prop} {fr : Fr} {id : Nat} {l : List Oper} (fs : List (Nat × Option Key × Ent)) (hm : P.follows .mixedOrders = true) (hI : InvL fs (Array.replicate l.length false) h)
    (hl : AGI P l.toArray fs (Q .normal) l.length (Array.replicate l.length false) fr h) : AW P (.region id l.toArray true) Q fr h := by
  intro E w a r v d
  refine wp_region_any hm ?_
  obtain ⟨r', k⟩ := r.drewn (w.drawn + 1)
  have := AG_sound l.length (Array.replicate l.length false) fr h (hl hI) E { w with drawn := w.drawn + 1 } a r' (VRL_keep k _ _ v) d (fun e a' w' => Post E w (Q e) a' w') (fun a' w' p => p.trans k)
  simpa using this
end game
end Go.Vm
