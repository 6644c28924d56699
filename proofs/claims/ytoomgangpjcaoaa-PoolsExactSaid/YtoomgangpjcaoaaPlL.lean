/-
  Plain laws: pools; the law PoolsExact.
-/
import Derived.Test.YtoomgangpjcaoaaPlK
set_option linter.unusedSimpArgs false
set_option linter.unusedVariables false
namespace Go.Proofs.Ytoomgangpjcaoaa
open Go.Vm

def writ (c : TCatalog) (p : Int) : Nat := (c.Vols.filter fun x => x.Pool == p && x.State != 3).length
theorem m22 {F : Nat} {c : TCatalog} {p : Int} (hF : 1000 ≤ F) (h : Sm c) : M22 F c p = some (if good c then (writ c p : Int) else 0) := by
  have hvo := h.vo
  unfold M22
  rw [m33 hF h]
  cases hg : good c
  · simp
  · simp only [if_true, Option.bind_some]
    rw [if_neg (by simp), cnt_loop (l := c.Vols) (F := F) (fun x => x.Pool == p && x.State != 3) (by omega) (fun i x hx hm hi k hk => by
      unfold M22_L0
      dsimp only
      rw [wr1 (i := i) (by omega), wr1 (i := k) (by omega)]
      simp only [ix_nat, hx, Option.bind_some, Int.ofNat_lt, hi, decide_true, if_true]
      cases x.Pool == p <;> cases x.State != 3 <;> rfl) (fun k => by unfold M22_L0; simp)]
    rfl
theorem m3_L0 {F : Nat} {c : TCatalog} {p : Int} (hF : 1000 ≤ F) (h : Sm c) : loopM (fun s : Int × Int => M3_L0 F c p s.1 s.2) F (0, 0) = some (.brk ((writ c p : Int), (c.Vols.length : Int))) := by
  have hvo := h.vo
  rw [cnt_loop (l := c.Vols) (F := F) (fun x => x.Pool == p && x.State != 3) (by omega) (fun i x hx hm hi k hk => by
      unfold M3_L0
      dsimp only
      rw [wr1 (i := i) (by omega), wr1 (i := k) (by omega)]
      simp only [ix_nat, hx, Option.bind_some, Int.ofNat_lt, hi, decide_true, if_true]
      cases x.Pool == p <;> cases x.State != 3 <;> rfl) (fun k => by unfold M3_L0; simp)]
  rfl

def spar (c : TCatalog) (p : Int) : Nat → Int
  | 0 => -1
  | i + 1 => match c.Vols[i]? with
    | none => spar c p i
    | some x => if x.Pool == p && x.State == 2 && (decide (spar c p i < 0) || decide (live c i < live c (spar c p i))) then (i : Int) else spar c p i
def lst (c : TCatalog) (s : Int) : Int := if s < 0 then 0 else (live c s : Int)
theorem m21 {F : Nat} {c : TCatalog} {p : Int} (hF : 1000 ≤ F) (h : Sm c) : M21 F c p = some (if good c then spar c p c.Vols.length else -1) := by
  have hvo := h.vo
  unfold M21
  rw [m33 hF h]
  cases hg : good c
  · simp
  · simp only [if_true, Option.bind_some]
    rw [if_neg (by simp), go_loop (s0 := ((-1 : Int), (0 : Int), (0 : Int))) (n := c.Vols.length) (F := F) (fun i : Nat => (spar c p i, lst c (spar c p i), (i : Int))) (by omega) rfl (fun i hi => by
      unfold M21_L0
      have hx : c.Vols[i]? = some c.Vols[i] := List.getElem?_eq_getElem hi
      generalize c.Vols[i] = x at hx
      have e : spar c p (i + 1) = if x.Pool == p && x.State == 2 && (decide (spar c p i < 0) || decide (live c i < live c (spar c p i))) then (i : Int) else spar c p i := by
        rw [spar, hx]
      dsimp only
      rw [wr1 (i := i) (by omega), e, m20 hF h, hg]
      simp only [ix_nat, hx, Option.bind_some, Int.ofNat_lt, hi, decide_true, if_true, bne]
      have l0 : lst c (i : Int) = (live c i : Int) := by unfold lst; rw [if_neg (by omega)]
      generalize spar c p i = s
      cases x.Pool == p
      · simp [after]
      · cases x.State == 2
        · simp [after]
        · by_cases hs : s < 0
          · simp [after, hs, l0]
          · have l1 : lst c s = (live c s : Int) := by unfold lst; rw [if_neg hs]
            by_cases hk : live c i < live c s
            · simp [after, hs, l1, hk, l0]
            · simp [after, hs, l1, hk, l0]) (by unfold M21_L0; simp)]
    rfl
theorem m25 {F : Nat} {c : TCatalog} {p : Int} (hF : 1000 ≤ F) (h : Sm c) (hg : good c = true) : M25 F c p = some (spar c p c.Vols.length) := by
  have hvo := h.vo
  unfold M25
  rw [go_loop (s0 := ((-1 : Int), (0 : Int))) (n := c.Vols.length) (F := F) (fun i : Nat => (spar c p i, (i : Int))) (by omega) rfl (fun i hi => by
      unfold M25_L0
      have hx : c.Vols[i]? = some c.Vols[i] := List.getElem?_eq_getElem hi
      generalize c.Vols[i] = x at hx
      have e : spar c p (i + 1) = if x.Pool == p && x.State == 2 && (decide (spar c p i < 0) || decide (live c i < live c (spar c p i))) then (i : Int) else spar c p i := by
        rw [spar, hx]
      dsimp only
      rw [wr1 (i := i) (by omega), e, m24 hF h hg, m24 hF h hg]
      simp only [ix_nat, hx, Option.bind_some, Int.ofNat_lt, hi, decide_true, if_true]
      generalize spar c p i = s
      cases x.Pool == p
      · simp [after]
      · cases x.State == 2
        · simp [after]
        · by_cases hs : s < 0
          · simp [after, hs]
          · by_cases hk : live c i < live c s
            · simp [after, hs, hk]
            · simp [after, hs, hk]) (by unfold M25_L0; simp)]
  rfl

/-- A volume of a state where there is room. -/
def fits (c : TCatalog) (p need : Int) (r : List Int) (nt st : Int) (i : Nat) : Bool := match c.Vols[i]?, r[i]? with
  | some x, some z => x.Pool == p && (i : Int) != nt && x.State == st && decide (need ≤ z)
  | _, _ => false
def stt (k : Nat) : Int := if k = 0 then 2 else 1
def tgt (c : TCatalog) (p need : Int) (r : List Int) (nt : Int) : Lp Int (Int × Int) :=
  LF (fun i : Nat => (i : Int)) (fun k => ((List.range c.Vols.length).find? (fits c p need r nt (stt k))).isSome) (fun k => match (List.range c.Vols.length).find? (fits c p need r nt (stt k)) with | some i => ((i : Int), 0) | none => (0, 0)) 2
theorem ix21 {k : Nat} (hk : k < 2) : ix ([2, 1] : List Int) (k : Int) = some (stt k) := by
  have : k = 0 ∨ k = 1 := by omega
  rcases this with rfl | rfl <;> rfl
theorem m16 {F : Nat} {c : TCatalog} {p need nt : Int} {r : List Int} (hF : 1000 ≤ F) (h : Sm c) (hg : good c = true) (hr : r.length = c.Vols.length) : M16 F c p need r nt = after (some (tgt c p need r nt)) fun _ => some (0, 12) := by
  have hvo := h.vo
  unfold M16
  rw [m33 hF h, hg]
  simp only [if_true, Option.bind_some]
  have e0 : ((0 : Int) != 0) = false := rfl
  have e1 : ((r.length : Int) != (c.Vols.length : Int)) = false := by rw [hr]; simp
  simp only [e0, e1, Bool.false_eq_true, if_false, after_brk]
  congr 1
  unfold tgt
  refine loop_ff (s0 := (0 : Int)) (n := 2) (F := F) _ _ _ (by omega) rfl (fun k hk _ => ?_) (fun _ => by unfold M16_L0; rfl)
  unfold M16_L0
  have hk' : (k : Int) < (([2, 1] : List Int).length : Int) := by simp; omega
  simp only [hk', decide_true, if_true, ix21 hk, Option.bind_some]
  rw [wr1 (i := k) (by omega), loop_ff (s0 := (0 : Int)) (n := c.Vols.length) (F := F) (fun i : Nat => (i : Int)) (fits c p need r nt (stt k)) (fun i => Lp.ret ((i : Int), 0)) (by omega) rfl]
  · unfold LF
    cases (List.range c.Vols.length).find? (fits c p need r nt (stt k)) <;> rfl
  · intro i hi _
    unfold M16_L2 fits
    have hx : c.Vols[i]? = some c.Vols[i] := List.getElem?_eq_getElem hi
    have hz : r[i]? = some r[i] := List.getElem?_eq_getElem (by omega)
    generalize c.Vols[i] = x at hx
    generalize r[i] = z at hz
    rw [wr1 (i := i) (by omega)]
    simp only [ix_nat, hx, hz, Option.bind_some, Int.ofNat_lt, hi, decide_true, if_true]
    cases x.Pool == p <;> cases (i : Int) != nt <;> cases x.State == stt k <;> cases decide (need ≤ z) <;> rfl
  · intro _; unfold M16_L2; simp
theorem m26 {F : Nat} {c : TCatalog} {p need nt : Int} {r : List Int} (hF : 1000 ≤ F) (h : Sm c) (hr : r.length = c.Vols.length) : M26 F c p need r nt = after (some (tgt c p need r nt)) fun _ => some (0, 12) := by
  have hvo := h.vo
  unfold M26
  congr 1
  unfold tgt
  refine loop_ff (s0 := (0 : Int)) (n := 2) (F := F) _ _ _ (by omega) rfl (fun k hk _ => ?_) (fun _ => by unfold M26_L0; rfl)
  unfold M26_L0
  have hk' : (k : Int) < 2 := by omega
  simp only [hk', decide_true, if_true]
  rw [wr1 (i := k) (by omega), loop_ff (s0 := (0 : Int)) (n := c.Vols.length) (F := F) (fun i : Nat => (i : Int)) (fits c p need r nt (stt k)) (fun i => Lp.ret ((i : Int), 0)) (by omega) rfl]
  · unfold LF
    cases (List.range c.Vols.length).find? (fits c p need r nt (stt k)) <;> rfl
  · intro i hi _
    unfold M26_L2 fits
    have hx : c.Vols[i]? = some c.Vols[i] := List.getElem?_eq_getElem hi
    have hz : r[i]? = some r[i] := List.getElem?_eq_getElem (by omega)
    generalize c.Vols[i] = x at hx
    generalize r[i] = z at hz
    rw [wr1 (i := i) (by omega)]
    simp only [ix_nat, hx, hz, ix21 hk, Option.bind_some, Int.ofNat_lt, hi, decide_true, if_true]
    cases x.Pool == p <;> cases (i : Int) != nt <;> cases x.State == stt k <;> cases decide (need ≤ z) <;> rfl
  · intro _; unfold M26_L2; simp
theorem tgt_some (c : TCatalog) (p need : Int) (r : List Int) (nt : Int) : ∃ x : Int × Int, (after (some (tgt c p need r nt)) fun _ => some ((0 : Int), (12 : Int))) = some x := by
  unfold tgt LF
  cases (List.range 2).find? fun k => ((List.range c.Vols.length).find? (fits c p need r nt (stt k))).isSome with
  | none => exact ⟨_, rfl⟩
  | some k => exact ⟨_, rfl⟩
theorem m16_bad {F : Nat} {c : TCatalog} {p need nt : Int} {r : List Int} (hF : 1000 ≤ F) (h : Sm c) (hb : good c = false ∨ r.length ≠ c.Vols.length) : M16 F c p need r nt = some (0, 1) := by
  unfold M16
  rw [m33 hF h]
  simp only [Option.bind_some]
  cases hg : good c
  · simp [after]
  · have hr : r.length ≠ c.Vols.length := by
      rcases hb with q | q
      · rw [hg] at q; cases q
      · exact q
    have e1 : ((r.length : Int) != (c.Vols.length : Int)) = true := by simp; omega
    simp [after, e1]

set_option maxRecDepth 100000 in
theorem m23 : M23 1000 = some true := by decide +kernel

theorem pools_exact {c : TCatalog} {p need nt : Int} {r : List Int} (hg : g_Catalog c) : M3 1000 c p need r nt = some true := by
  have hF : 1000 ≤ 1000 := Nat.le_refl _
  obtain ⟨b, hb, hs⟩ := m13 (F := 1000) hF hg
  unfold M3
  rw [hb]
  simp only [Option.bind_some]
  cases b
  · have h := hs rfl
    by_cases hr : 50 < (r.length : Int)
    · simp [after, hr]
    · simp only [Bool.false_eq_true, if_false, hr, decide_false, after_brk]
      rw [m14 hF h, m15 (show r.length ≤ 1000 by omega)]
      simp only [Option.bind_some]
      cases hgd : good c
      · rw [m16_bad hF h (.inl hgd)]
        simp [after, m17 hF h, m18 hF (show r.length ≤ 300 by omega), m19 hF h, hgd, m20 hF h, m21 hF h, m22 hF h, m23]
      · by_cases hl : r.length = c.Vols.length
        · obtain ⟨x, hx⟩ := tgt_some c p need r nt
          rw [m16 hF h hgd hl, m26 hF h hl, hx]
          have e1 : ((r.length : Int) != (c.Vols.length : Int)) = false := by rw [hl]; simp
          simp [after, m17 hF h, m18 hF (show r.length ≤ 300 by omega), m19 hF h, hgd, m20 hF h, m21 hF h, m22 hF h, m23, m24 hF h hgd, m25 hF h hgd, m3_L0 hF h, e1]
        · rw [m16_bad hF h (.inr hl)]
          have e1 : ((r.length : Int) != (c.Vols.length : Int)) = true := by simp; omega
          simp [after, m17 hF h, m18 hF (show r.length ≤ 300 by omega), m19 hF h, hgd, m20 hF h, m21 hF h, m22 hF h, m23, m24 hF h hgd, m25 hF h hgd, m3_L0 hF h, e1]
  · simp [after]
theorem pools_exact5 {c : TCatalog} {p need nt : Int} {r : List Int} (hg : g_Catalog c) (_ : gI p) (_ : gI need) (_ : gL gI r) (_ : gI nt) : M3 1000 c p need r nt = some true := pools_exact hg
end Go.Proofs.Ytoomgangpjcaoaa
