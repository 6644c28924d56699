import Derived.Test.YtoomgangpjcaoaaK4P10
set_option linter.unusedSimpArgs false
set_option linter.unusedVariables false
namespace Go.Proofs.Ytoomgangpjcaoaa
open Go.Vm
theorem find_fits {n : Nat} {q : Nat → Bool} : (∃ i, (List.range n).find? q = some i ∧ i < n ∧ q i = true) ∨ ((List.range n).find? q = none ∧ ∀ j, j < n → q j = false) := by
 cases h : (List.range n).find? q with
 | none => exact .inr ⟨rfl, fun j hj => by simpa using List.find?_eq_none.1 h j (List.mem_range.2 hj)⟩
 | some i => exact .inl ⟨i, rfl, List.mem_range.1 (List.mem_of_find?_eq_some h), List.find?_some h⟩
theorem tgt_cases {c : TCatalog} {p need nt : Int} {r : List Int} {y : Int × Int} (h : (after (some (tgt c p need r nt)) fun _ => some ((0 : Int), (12 : Int))) = some y) :
    (∃ i : Nat, i < c.Vols.length ∧ y = ((i : Int), 0) ∧ (fits c p need r nt 2 i = true ∨ (fits c p need r nt 1 i = true ∧ ∀ j, j < c.Vols.length → fits c p need r nt 2 j = false))) ∨
    (y = (0, 12) ∧ ∀ j, j < c.Vols.length → fits c p need r nt 2 j = false ∧ fits c p need r nt 1 j = false) := by
  unfold tgt LF at h
  rcases find_fits (n := c.Vols.length) (q := fits c p need r nt (stt 0)) with ⟨i, h1, h2, h3⟩ | ⟨h1, h2⟩
  · have e : (List.range 2).find? (fun k => ((List.range c.Vols.length).find? (fits c p need r nt (stt k))).isSome) = some 0 := by
      rw [show List.range 2 = [0, 1] from rfl, List.find?_cons, h1]; rfl
    rw [e] at h
    simp only [h1] at h
    exact .inl ⟨i, h2, (Option.some.inj h).symm, .inl h3⟩
  · rcases find_fits (n := c.Vols.length) (q := fits c p need r nt (stt 1)) with ⟨i, k1, k2, k3⟩ | ⟨k1, k2⟩
    · have e : (List.range 2).find? (fun k => ((List.range c.Vols.length).find? (fits c p need r nt (stt k))).isSome) = some 1 := by
        rw [show List.range 2 = [0, 1] from rfl, List.find?_cons, h1]
        simp only [Option.isSome_none]
        rw [List.find?_cons, k1]; rfl
      rw [e] at h
      simp only [k1] at h
      exact .inl ⟨i, k2, (Option.some.inj h).symm, .inr ⟨k3, h2⟩⟩
    · have e : (List.range 2).find? (fun k => ((List.range c.Vols.length).find? (fits c p need r nt (stt k))).isSome) = none := by
        rw [show List.range 2 = [0, 1] from rfl, List.find?_cons, h1]
        simp only [Option.isSome_none]
        rw [List.find?_cons, k1]; rfl
      rw [e] at h
      exact .inr ⟨(Option.some.inj h).symm, fun j hj => ⟨h2 j hj, k2 j hj⟩⟩
theorem fits_at {c : TCatalog} {p need nt st : Int} {r : List Int} {i : Nat} (h : fits c p need r nt st i = true) : ∃ x z, c.Vols[i]? = some x ∧ r[i]? = some z ∧ x.Pool = p ∧ (i : Int) ≠ nt ∧ x.State = st ∧ need ≤ z := by
 unfold fits at h
 cases hx : c.Vols[i]? with
 | none => rw [hx] at h; cases h
 | some x =>
  cases hz : r[i]? with
  | none => rw [hx, hz] at h; cases h
  | some z =>
   rw [hx, hz] at h
   simp only [Bool.and_eq_true, decide_eq_true_eq, beq_iff_eq, bne_iff_ne] at h
   exact ⟨x, z, rfl, rfl, h.1.1.1, h.1.1.2, h.1.2, h.2⟩
theorem fits_of {c : TCatalog} {p need nt st : Int} {r : List Int} {i : Nat} {x : TVol} {z : Int} (hx : c.Vols[i]? = some x) (hz : r[i]? = some z) (h1 : x.Pool = p) (h2 : (i : Int) ≠ nt) (h3 : x.State = st) (h4 : need ≤ z) : fits c p need r nt st i = true := by
 unfold fits
 rw [hx, hz]
 simp [h1, h2, h3, h4]
theorem state_at {c : TCatalog} (hg : good c = true) {x : TVol} (hx : x ∈ c.Vols) (h3 : x.State ≠ 3) : x.State = 2 ∨ x.State = 1 := by
 have := (rng hg).v x hx
 omega
def wB (c : TCatalog) (p need : Int) (r : List Int) (nt : Int) (i : Nat) : Bool := match c.Vols[i]?, r[i]? with
 | some x, some z => x.Pool == p && x.State != 3 && decide (need ≤ z) && (i : Int) != nt
 | _, _ => false
def w2B (c : TCatalog) (p need : Int) (r : List Int) (nt : Int) (i : Nat) : Bool := wB c p need r nt i && (c.Vols[i]?).any fun x => x.State == 2
theorem any_succ {q : Nat → Bool} {i : Nat} : (List.range (i + 1)).any q = ((List.range i).any q || q i) := by
 rw [List.range_succ, List.any_append]
 simp
theorem m4_L2 {F : Nat} {c : TCatalog} {p need nt : Int} {r : List Int} (hF : 1000 ≤ F) (h : Sm c) (hr : r.length = c.Vols.length) :
    loopM (fun s : Bool × Bool × Int => M4_L2 F p need nt c r s.1 s.2.1 s.2.2) F (false, false, 0) = some (.brk ((List.range c.Vols.length).any (wB c p need r nt), (List.range c.Vols.length).any (w2B c p need r nt), (c.Vols.length : Int))) := by
  have hvo := h.vo
  rw [go_loop (s0 := ((false : Bool), (false : Bool), (0 : Int))) (n := c.Vols.length) (F := F) (fun i : Nat => ((List.range i).any (wB c p need r nt), (List.range i).any (w2B c p need r nt), (i : Int))) (by omega) rfl (fun i hi => by
      unfold M4_L2
      have hx : c.Vols[i]? = some c.Vols[i] := List.getElem?_eq_getElem hi
      have hz : r[i]? = some r[i] := List.getElem?_eq_getElem (by omega)
      generalize c.Vols[i] = x at hx
      generalize r[i] = z at hz
      have e1 : wB c p need r nt i = (x.Pool == p && x.State != 3 && decide (need ≤ z) && (i : Int) != nt) := by unfold wB; rw [hx, hz]
      have e2 : w2B c p need r nt i = ((x.Pool == p && x.State != 3 && decide (need ≤ z) && (i : Int) != nt) && x.State == 2) := by unfold w2B; rw [e1, hx]; rfl
      dsimp only
      rw [wr1 (i := i) (by omega), any_succ, any_succ, e1, e2]
      simp only [ix_nat, hx, hz, Option.bind_some, Int.ofNat_lt, hi, decide_true, if_true]
      generalize (List.range i).any (wB c p need r nt) = a
      generalize (List.range i).any (w2B c p need r nt) = b
      cases a <;> cases b <;> cases x.Pool == p <;> cases x.State != 3 <;> cases decide (need ≤ z) <;> cases (i : Int) != nt <;> cases x.State == 2 <;> rfl) (by unfold M4_L2; simp)]
theorem pools_lived {q r : List Int} {l : List TAct} {p need nt : Int} (gq : gL gI q) (gl : gL g_Act l) : M4 1000 q l p need r nt = some true := by
 have hF : 1000 ≤ 1000 := Nat.le_refl _
 have key : T (M4 1000 q l p need r nt) fun b => b = true := by
  unfold M4
  refine .after (.ite (fun _ => .brk (T.ite (fun _ => .some rfl) fun h => absurd rfl h)) fun _ => .bind _ (t27 hF) fun b hb => .ite (fun _ => .brk (T.ite (fun _ => .some rfl) fun h => absurd rfl h)) fun hb0 => .brk (T.ite (fun _ => .some rfl) fun _ => ?_))
  have ho := hb (by simpa using hb0)
  refine .bind _ (t29 hF gq) fun q hq => .bind _ (t28 hF hq.1 hq.2.1 hq.2.2 gl ho) fun c hc => ?_
  obtain ⟨h, hg⟩ := hc
  have hvo := h.vo
  refine .loop (fun s => 0 ≤ s.2 ∧ s.2 ≤ c.Vols.length ∧ (s.1.length : Int) = s.2) (fun s => (c.Vols.length - s.2).toNat) (fun s => s.1.length = c.Vols.length) (by simp; omega) (by simp) (fun s hs => ?_) (fun s hr => ?_)
  ·obtain ⟨a, i⟩ := s
   simp only at hs
   unfold M4_L0
   refine .ite (fun hc => ?_) fun hc => .brk ?_
   ·have hc := of_decide_eq_true hc
    simp only at hc
    rw [wr (n := i + 1) (by omega) (by omega)]
    have put : ∀ z : Int, T ((app a ([z] : List Int)).bind fun z114 => some (.go (z114, i + 1)) : Option (Lp (List Int × Int) Bool)) (L3 (fun s' => (0 ≤ s'.2 ∧ s'.2 ≤ c.Vols.length ∧ (s'.1.length : Int) = s'.2) ∧ (c.Vols.length - s'.2).toNat < (c.Vols.length - i).toNat) (fun s => s.1.length = c.Vols.length) (fun b => b = true)) := fun z => .app (by simp; omega) (.go ⟨⟨by first | omega | (simp only; omega), by first | omega | (simp only; omega), by simp; omega⟩, by first | omega | (simp only; omega)⟩)
    refine .after (.ite (fun h2 => ?_) fun _ => .brk (put _))
    have h2 := of_decide_eq_true h2
    simp only at h2
    exact .ix (by omega) (by omega) fun x _ _ => .brk (put _)
   ·have hc : ¬ (i < c.Vols.length) := by simpa using hc
    show a.length = c.Vols.length
    omega
  ·obtain ⟨rm, i0⟩ := s
   have hr : rm.length = c.Vols.length := hr
   obtain ⟨y, hy⟩ := tgt_some c p need rm nt
   refine .bindEq ((m16 hF h hg hr).trans hy) ?_
   rw [m4_L2 hF h hr]
   simp only [after_brk]
   have hs1 : ∀ (i : Nat) (x : TVol), c.Vols[i]? = some x → x.State ≠ 3 → x.State = 2 ∨ x.State = 1 := fun i x hx h3 => state_at hg (List.mem_of_getElem? hx) h3
   rcases tgt_cases hy with ⟨i, hi, rfl, hf⟩ | ⟨rfl, hn⟩
   ·have hx : ∃ x z, c.Vols[i]? = some x ∧ rm[i]? = some z ∧ x.Pool = p ∧ (i : Int) ≠ nt ∧ x.State ≠ 3 ∧ need ≤ z ∧ (List.range c.Vols.length).any (w2B c p need rm nt) = (x.State == 2) := by
     rcases hf with hf | ⟨hf, hn⟩
     ·obtain ⟨x, z, e1, e2, e3, e4, e5, e6⟩ := fits_at hf
      refine ⟨x, z, e1, e2, e3, e4, by omega, e6, ?_⟩
      have : w2B c p need rm nt i = true := by unfold w2B wB; rw [e1, e2]; simp [e3, e4, e5, e6]
      rw [show (x.State == 2) = true from by simp [e5], List.any_eq_true]
      exact ⟨i, List.mem_range.2 hi, this⟩
     ·obtain ⟨x, z, e1, e2, e3, e4, e5, e6⟩ := fits_at hf
      refine ⟨x, z, e1, e2, e3, e4, by omega, e6, ?_⟩
      rw [show (x.State == 2) = false from by simp [e5], List.any_eq_false]
      intro j hj hw
      have hj := List.mem_range.1 hj
      unfold w2B wB at hw
      have ex : c.Vols[j]? = some c.Vols[j] := List.getElem?_eq_getElem hj
      have ez : rm[j]? = some rm[j] := List.getElem?_eq_getElem (by omega)
      rw [ex, ez] at hw
      simp at hw
      have := fits_of (nt := nt) ex ez hw.1.1.1.1 hw.1.2 hw.2 hw.1.1.2
      rw [hn j hj] at this
      cases this
    obtain ⟨x, z, e1, e2, e3, e4, e5, e6, e7⟩ := hx
    rw [e7]
    have b1 : (x.Pool == p) = true := by simp [e3]
    have b2 : (x.State != 3) = true := by simp [e5]
    have b3 : ((i : Int) != nt) = true := by simp [e4]
    have b4 : ((x.State == 2) == (x.State == 2)) = true := by simp
    have b5 : decide ((0 : Int) ≤ (i : Int)) = true := by simp
    have b6 : decide ((i : Int) < (c.Vols.length : Int)) = true := by simp [hi]
    have b7 : decide (need ≤ z) = true := by simp [e6]
    have b8 : ((0 : Int) != 0) = false := rfl
    refine .of (a := true) ?_ rfl
    simp only [ix_nat, e1, e2, Option.bind_some, b1, b2, b3, b4, b5, b6, b7, b8, if_true, Bool.false_eq_true, if_false, m21 hF h, m25 hF h hg, hg, m23, after_brk, beq_self_eq_true]
   ·have hw : (List.range c.Vols.length).any (wB c p need rm nt) = false := by
     rw [List.any_eq_false]
     intro j hj hw
     have hj := List.mem_range.1 hj
     unfold wB at hw
     have ex : c.Vols[j]? = some c.Vols[j] := List.getElem?_eq_getElem hj
     have ez : rm[j]? = some rm[j] := List.getElem?_eq_getElem (by omega)
     rw [ex, ez] at hw
     simp at hw
     rcases hs1 j _ ex hw.1.1.2 with h2 | h2
     ·have := fits_of (nt := nt) ex ez hw.1.1.1 hw.2 h2 hw.1.2
      rw [(hn j hj).1] at this
      cases this
     ·have := fits_of (nt := nt) ex ez hw.1.1.1 hw.2 h2 hw.1.2
      rw [(hn j hj).2] at this
      cases this
    refine .of (a := true) ?_ rfl
    rw [hw]
    have b1 : ((12 : Int) != 0) = true := rfl
    have b2 : ((12 : Int) == 12) = true := rfl
    have b3 : ((0 : Int) == 0) = true := rfl
    simp only [b1, b2, b3, if_true, Bool.not_false, m23, Option.bind_some, after_brk]
 obtain ⟨b, hb, rfl⟩ := key
 exact hb
theorem pools_lived6 {q r : List Int} {l : List TAct} {p need nt : Int} (gq : gL gI q) (gl : gL g_Act l) (_ : gI p) (_ : gI need) (_ : gL gI r) (_ : gI nt) : M4 1000 q l p need r nt = some true := pools_lived gq gl
end Go.Proofs.Ytoomgangpjcaoaa
