/-
  Plain laws: where a thing stands in a row; CatalogNew, CatalogLooks.
-/
import Derived.Test.YtoomgangpjcaoaaK6PlL
import Derived.Test.YtoomgangpjcaoaaK6Wj
namespace Go.Proofs.Ytoomgangpjcaoaa
open Go.Vm

/-! ### CatalogNew -/
def newC (l : List Int) : TCatalog := { Seq := 0, Snaps := [], Chunks := [], Exps := [], Vols := l.map fun p => { Pool := p, Epoch := 0, State := 1, Files := 0 } }
theorem m32 {F : Nat} {l : List Int} (hF : 1000 ≤ F) (hl : l.length ≤ 100) : M32 F l = some (newC l) := by
  unfold M32
  rw [go_loop (s0 := (([] : List TVol), (0 : Int))) (n := l.length) (F := F) (fun i : Nat => ((l.take i).map fun p => ({ Pool := p, Epoch := 0, State := 1, Files := 0 } : TVol), (i : Int))) (by omega) (by simp) (fun i hi => by
      unfold M32_L0
      have hx : l[i]? = some l[i] := List.getElem?_eq_getElem hi
      rw [wr1 (by omega)]
      simp only [ix_nat, hx, Option.bind_some, Int.ofNat_lt, hi, decide_true, if_true]
      rw [app_some (by simp; omega), List.take_succ_eq_append_getElem hi, List.map_append]; rfl) (by unfold M32_L0; simp)]
  simp [newC, after]
def poolB (p : Int) : Bool := inR p 0 1
theorem m30 {F : Nat} {l : List Int} (hF : 1000 ≤ F) (hl : l.length ≤ 100) : M30 F l = some (if inR l.length 1 8 then (if l.all poolB then (newC l, 0) else (newC [], 1)) else (newC [], 2)) := by
  unfold M30
  rw [m68]
  simp only [Option.bind_some]
  cases h : inR (l.length : Int) 1 8
  · rfl
  · simp only [Bool.not_true, Bool.false_eq_true, if_false]
    rw [loop_ff (s0 := (([] : List TVol), (0 : Int))) (n := l.length) (F := F) (fun i : Nat => ((l.take i).map fun p => ({ Pool := p, Epoch := 0, State := 1, Files := 0 } : TVol), (i : Int))) (fun i => (l[i]?).any fun p => !poolB p) (fun _ => (newC [], 1)) (by omega) (by simp) (fun i hi _ => by
      unfold M30_L0
      have hx : l[i]? = some l[i] := List.getElem?_eq_getElem hi
      rw [wr1 (by omega)]
      simp only [ix_nat, hx, m68, Option.bind_some, Int.ofNat_lt, hi, decide_true, if_true, Option.any_some, poolB]
      cases inR l[i] 0 1
      · rfl
      · simp only [Bool.not_true, Bool.false_eq_true, if_false]
        rw [app_some (by simp; omega), List.take_succ_eq_append_getElem hi, List.map_append]; rfl) (fun _ => by unfold M30_L0; simp), LF_all, range_any, all_any]
    cases l.all poolB <;> simp [after, newC]
theorem newC_sm {l : List Int} (hl : l.length ≤ 8) (hg : gL gI l) : Sm (newC l) where
  g := by
    refine ⟨by simp [newC, gI], fun _ h => by simp [newC] at h, fun _ h => by simp [newC] at h, fun _ h => by simp [newC] at h, fun x hx => ?_⟩
    obtain ⟨p, hp, rfl⟩ := List.mem_map.1 hx
    exact ⟨hg p hp, by simp [gI], by simp [gI], by simp [gI]⟩
  sn := by simp [newC]
  ch := by simp [newC]
  ex := by simp [newC]
  vo := by simp [newC]; omega
  sl := by simp [newC]
  man := by simp [newC]
  cl := by simp [newC]
  el := by simp [newC]
theorem newC_good {l : List Int} (hl : inR l.length 1 8 = true) (hp : l.all poolB = true) : good (newC l) = true := by
  have h1 : (newC l).Vols.all volB = true := by
    rw [List.all_eq_true]
    intro x hx
    obtain ⟨p, hq, rfl⟩ := List.mem_map.1 hx
    have := List.all_eq_true.1 hp p hq
    simp only [poolB, inR, Bool.and_eq_true, decide_eq_true_eq] at this
    simp [volB, inR, this.1, this.2]
  have h2 : (newC l).Vols.length = l.length := by simp [newC]
  unfold good
  rw [h1, h2, hl]
  simp [newC, chsB, snsB, exsB, inR]
theorem m31 : M31 1000 = some true := by decide +kernel
theorem wantL {F : Nat} {l : List Int} (hF : 1000 ≤ F) (hl : l.length ≤ 100) : loopM (fun s : Int × Int => M6_L0 F l s.1 s.2) F (0, 0) = some (.brk (if l.all poolB then 0 else 1, (l.length : Int))) := by
  rw [go_loop (s0 := ((0 : Int), (0 : Int))) (n := l.length) (F := F) (fun i : Nat => ((if (l.take i).all poolB then 0 else 1 : Int), (i : Int))) (by omega) (by simp) (fun i hi => by
      unfold M6_L0
      have hx : l[i]? = some l[i] := List.getElem?_eq_getElem hi
      rw [wr1 (by omega)]
      simp only [ix_nat, hx, Option.bind_some, Int.ofNat_lt, hi, decide_true, if_true]
      rw [List.take_succ_eq_append_getElem hi, List.all_append]
      have e : poolB l[i] = (l[i] == 0 || l[i] == 1) := by
        unfold poolB inR
        rw [Bool.eq_iff_iff]
        simp only [Bool.and_eq_true, decide_eq_true_eq, Bool.or_eq_true, beq_iff_eq]
        omega
      simp only [List.all_cons, List.all_nil, Bool.and_true, e]
      by_cases h0 : l[i] = 0
      · simp [h0, after]
      · by_cases h1 : l[i] = 1
        · simp [h1, after]
        · simp [h0, h1, after]) (by unfold M6_L0; simp)]
  simp
theorem catalog_new {l : List Int} (hg : gL gI l) : M6 1000 l = some true := by
  have hF : 1000 ≤ 1000 := Nat.le_refl _
  unfold M6
  by_cases h0 : 30 < (l.length : Int)
  · simp [h0]
  · have hl : l.length ≤ 30 := by omega
    rw [if_neg (by simpa using h0), m15 (by omega)]
    simp only [Option.bind_some]
    rw [m30 hF (by omega), m18 hF (by omega), wantL hF (by omega)]
    simp only [Option.bind_some, Bool.not_true, Bool.false_eq_true, if_false, after_brk, m31]
    have e17 : M17 1000 (newC []) (newC []) = some true := by decide +kernel
    have e17' : M17 1000 ({ Seq := 0, Snaps := [], Chunks := [], Exps := [], Vols := [] } : TCatalog) ({ Seq := 0, Snaps := [], Chunks := [], Exps := [], Vols := [] } : TCatalog) = some true := e17
    cases h1 : inR (l.length : Int) 1 8
    · have : (l.length : Int) < 1 ∨ 8 < (l.length : Int) := by
        simp only [inR, Bool.and_eq_false_iff, decide_eq_false_iff_not] at h1; omega
      have hj : (after (if decide ((l.length : Int) < 1) = true then some (Lp.brk true) else some (.brk (decide (8 < (l.length : Int)))) : Option (Lp Bool Bool)) fun j => some j) = some true := by
        rcases this with h | h
        · simp [h, after]
        · by_cases h' : (l.length : Int) < 1 <;> simp [h, h', after]
      have hj' : (if decide ((l.length : Int) < 1) = true then some (Lp.brk true) else some (.brk (decide (8 < (l.length : Int)))) : Option (Lp Bool Bool)) = some (.brk true) := by
        split at hj <;> rename_i hc
        · simp [hc]
        · simp only [hc]; simp [after] at hj; simp [hj]
      rw [hj']
      simp [after, e17', newC]
    · have h8 : 1 ≤ (l.length : Int) ∧ (l.length : Int) ≤ 8 := by simpa [inR] using h1
      have hj' : (if decide ((l.length : Int) < 1) = true then some (Lp.brk true) else some (.brk (decide (8 < (l.length : Int)))) : Option (Lp Bool Bool)) = some (.brk false) := by
        rw [if_neg (by simp; omega)]; simp; omega
      rw [hj']
      cases h2 : l.all poolB
      · simp [after, e17', newC]
      · have hs := newC_sm (l := l) (by omega) hg
        simp only [if_true, after_brk, Bool.false_eq_true, if_false, m32 hF (show l.length ≤ 100 by omega), m17 hF hs, m33 hF hs, newC_good h1 h2, Option.bind_some]
        simp [after, newC]
theorem catalog_new1 {l : List Int} (hg : gL gI l) : M6 1000 l = some true := catalog_new hg

/-! ### CatalogLooks -/
end Go.Proofs.Ytoomgangpjcaoaa
