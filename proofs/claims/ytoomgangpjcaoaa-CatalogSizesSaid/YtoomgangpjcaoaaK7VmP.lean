/-
  Heaps in another order; calls that take an object by its pointer.
-/
import Derived.Test.YtoomgangpjcaoaaK7VmZ
import Derived.Test.YtoomgangpjcaoaaK7VmY
namespace Go.Vm

theorem upd_comm (h : Heap) {k k' : Key} (e e' : Option Ent) (hn : k ≠ k') : upd (upd h k e) k' e' = upd (upd h k' e') k e := by
  funext x
  unfold upd
  by_cases h1 : x = k
  · by_cases h2 : x = k'
    · exact absurd (h1.symm.trans h2) hn
    · simp [h1, hn]
  · simp [h1]

theorem hp_swap {h0 : Heap} {a b : Option Key × Ent} {L : HL} (hk : HOk h0 (a :: b :: L)) : hp h0 (a :: b :: L) = hp h0 (b :: a :: L) ∧ HOk h0 (b :: a :: L) := by
  obtain ⟨ta, ea⟩ := a
  obtain ⟨tb, eb⟩ := b
  obtain ⟨⟨h1, h2⟩, h3⟩ := hk
  cases ta with
  | none => cases tb with
    | none => exact ⟨rfl, ⟨⟨h1, nofun⟩, nofun⟩⟩
    | some kb => exact ⟨rfl, ⟨⟨h1, nofun⟩, h2⟩⟩
  | some ka =>
    have q := h3 ka rfl
    cases tb with
    | none => exact ⟨rfl, ⟨⟨h1, h3⟩, nofun⟩⟩
    | some kb =>
      have hne : ka ≠ kb := fun e => by
        subst e
        simp only [hp, upd_same] at q
        cases q
      have q2 : hp h0 L ka = none := by
        simp only [hp] at q
        rwa [upd_ne _ _ hne] at q
      refine ⟨?_, ⟨h1, fun k e => by cases e; exact q2⟩, fun k e => ?_⟩
      · simp only [hp]
        exact upd_comm _ _ _ (Ne.symm hne)
      · cases e
        simp only [hp]
        rw [upd_ne _ _ (Ne.symm hne)]
        exact h2 _ rfl

theorem HOk.cons_eq {h0 : Heap} {a : Option Key × Ent} {L L' : HL} (e : hp h0 L = hp h0 L') (hk : HOk h0 L') (h2 : HOk h0 (a :: L)) : hp h0 (a :: L) = hp h0 (a :: L') ∧ HOk h0 (a :: L') := by
  obtain ⟨t, en⟩ := a
  refine ⟨?_, hk, ?_⟩
  · cases t <;> simp only [hp, e]
  · intro k q; rw [← e]; exact h2.2 k q

theorem hp_perm {h0 : Heap} {L L' : HL} (p : L.Perm L') : HOk h0 L → hp h0 L = hp h0 L' ∧ HOk h0 L' := by
  induction p with
  | nil => intro hk; exact ⟨rfl, hk⟩
  | cons x p ih =>
    intro hk
    obtain ⟨e, h2⟩ := ih hk.1
    exact HOk.cons_eq e h2 hk
  | swap x y l => intro hk; exact hp_swap hk
  | trans p q ih1 ih2 =>
    intro hk
    obtain ⟨e1, k1⟩ := ih1 hk
    obtain ⟨e2, k2⟩ := ih2 k1
    exact ⟨e1.trans e2, k2⟩

theorem hp_app (h0 : Heap) : ∀ (A R : HL), hp (hp h0 R) A = hp h0 (A ++ R)
  | [], R => rfl
  | (none, e) :: A, R => hp_app h0 A R
  | (some k, e) :: A, R => by
    show upd (hp (hp h0 R) A) k (some e) = upd (hp h0 (A ++ R)) k (some e)
    rw [hp_app h0 A R]
theorem HOk_app {h0 : Heap} : ∀ {A R : HL}, HOk h0 R → HOk (hp h0 R) A → HOk h0 (A ++ R)
  | [], _, hr, _ => hr
  | (t, e) :: A, R, hr, ha => ⟨HOk_app hr ha.1, fun k q => by show hp h0 (A ++ R) k = none; rw [← hp_app]; exact ha.2 k q⟩
theorem HOk_spl {h0 : Heap} : ∀ (A R : HL), HOk h0 (A ++ R) → HOk h0 R ∧ HOk (hp h0 R) A
  | [], _, h => ⟨h, trivial⟩
  | (t, e) :: A, R, h => by
    obtain ⟨h1, h2⟩ := h
    obtain ⟨h3, h4⟩ := HOk_spl A R h1
    exact ⟨h3, h4, fun k q => by rw [hp_app]; exact h2 k q⟩

theorem HOk.co {h0 : Heap} {L : HL} {x : Option Key × Ent} (a : HOk h0 L) (b : HOk (hp h0 L) [x]) : HOk h0 (x :: L) := ⟨a, b.2⟩

theorem Sub_eq {a h1 h2 : Heap} (e : h1 = h2) (hs : Sub a h2) : Sub a h1 := by subst e; exact hs
/-- A heap said otherwise. -/
theorem AOp_eqh {P : Program} {o : Oper} {K : AV → Heap → Prop} {fr : Fr} {h h' : Heap} (e : h = h') (ho : AOp P o K fr h') : AOp P o K fr h := by subst e; exact ho
theorem AOps_eqh {P : Program} {ops : Array Oper} {l : List Oper} {K : Fr → Heap → Prop} {fr : Fr} {h h' : Heap} (e : h = h') (k : AOps P ops l K fr h') : AOps P ops l K fr h := by subst e; exact k
theorem LeF.aops {P : Program} {ops : Array Oper} {l : List Oper} {K : Fr → Heap → Prop} {fr fr' : Fr} {h h' : Heap} (le : LeF fr' h' fr h) (k : AOps P ops l K fr' h') : AOps P ops l K fr h := by
  intro E w a r vv d Q hQ
  obtain ⟨E', k', r', v'⟩ := le E w _ r vv
  exact k E' w a r' v' d Q fun a' w' p => hQ _ _ (p.trans k')
/-- What holds at the end may be said in fewer words. -/
def LqE (Q : Exit → Fr → Heap → Prop) : Exit → Fr → Heap → Prop := fun e fr h => ∃ fr' h', LeF fr' h' fr h ∧ Q e fr' h'
theorem LqE.mk {Q : Exit → Fr → Heap → Prop} {e : Exit} {fr fr' : Fr} {h h' : Heap} (le : LeF fr' h' fr h) (q : Q e fr' h') : LqE Q e fr h := ⟨_, _, le, q⟩
theorem AW_lq {P : Program} {c : Code} {Q : Exit → Fr → Heap → Prop} {fr : Fr} {h : Heap} (hc : AW P c (LqE Q) fr h) : AW P c Q fr h :=
  fun E w a r v d => wp_mono (hc E w a r v d) fun _ _ w' ⟨_, _, _, k, r', v', d', fr2, h2, le, q⟩ => let ⟨E'', k2, r2, v2⟩ := le _ w' _ r' v'; ⟨E'', fr2, h2, k.trans k2, r2, v2, d', q⟩
theorem LeF.eqh {fr : Fr} {h h' : Heap} (e : h = h') : LeF fr h' fr h := by subst e; exact LeF.of (Sub.refl h) (ALeL.refl _ _)
end Go.Vm
