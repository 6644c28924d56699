/-
  Plain laws: volumes, chunks, manifests.
-/
import Derived.Test.YtoomgangpjcaoaaK7PlC
set_option linter.unusedSimpArgs false
set_option linter.unusedVariables false
namespace Go.Proofs.Ytoomgangpjcaoaa
open Go.Vm

/-- A catalog that is not heavy, of right numbers. -/
structure Sm (c : TCatalog) : Prop where
  g : g_Catalog c
  sn : c.Snaps.length ≤ 12
  ch : c.Chunks.length ≤ 220
  ex : c.Exps.length ≤ 220
  vo : c.Vols.length ≤ 20
  sl : ∀ s ∈ c.Snaps, s.Locs.length ≤ 220
  cl : ∀ x ∈ c.Chunks, x.Locs.length ≤ 220 ∧ x.Data.length ≤ 300
  el : ∀ x ∈ c.Exps, x.Locs.length ≤ 220
  man : ∀ s ∈ c.Snaps, s.Man.Name.size ≤ 100 ∧ s.Man.Parts.length ≤ 10 ∧ ∀ p ∈ s.Man.Parts, p.Path.size ≤ 100 ∧ p.Ids.length ≤ 40

theorem range_any {α : Type} (l : List α) (q : α → Bool) : ((List.range l.length).any fun i => (l[i]?).any q) = l.any q := by
  rw [Bool.eq_iff_iff]
  simp only [List.any_eq_true, List.mem_range]
  constructor
  · rintro ⟨i, hi, h⟩
    rw [List.getElem?_eq_getElem hi] at h
    exact ⟨l[i], List.getElem_mem hi, by simpa using h⟩
  · rintro ⟨x, hx, h⟩
    obtain ⟨i, hi, rfl⟩ := List.getElem_of_mem hx
    exact ⟨i, hi, by rw [List.getElem?_eq_getElem hi]; simpa using h⟩

def volB (v : TVol) : Bool := inR v.Pool 0 1 && inR v.Epoch 0 1048576 && ((v.State == 2 && inR v.Files 1 65535) || ((v.State == 1 || v.State == 3) && v.Files == 0))
theorem all_any {α : Type} (l : List α) (q : α → Bool) : (l.any fun x => !q x) = !l.all q := by simp [List.any_eq_not_all_not]

theorem m69 {F : Nat} {l : List TVol} (hF : 1000 ≤ F) (hl : l.length ≤ 20) : M69 F l = some (l.all volB && inR l.length 1 8) := by
  unfold M69
  rw [loop_ff (s0 := (0 : Int)) (n := l.length) (F := F) (fun i : Nat => (i : Int)) (fun i => (l[i]?).any fun v => !volB v) (fun _ => false) (by omega) rfl, LF_all, range_any, all_any]
  · cases h : l.all volB <;> simp [after, m68]
  · intro i hi _
    unfold M69_L0 volB
    have hx : l[i]? = some l[i] := List.getElem?_eq_getElem hi
    generalize l[i] = x at hx
    rw [wr1 (by omega)]
    simp only [ix_nat, hx, m68, Option.bind_some, after_ite, after_brk, after_ret, bind_ite', Int.ofNat_lt, hi, decide_true, if_true, Option.any_some]
    by_cases h2 : x.State = 2
    · simp [h2]; grind
    · by_cases h1 : x.State = 1
      · simp [h1]; grind
      · by_cases h3 : x.State = 3
        · simp [h3]; grind
        · simp [h1, h2, h3]
  · intro _
    unfold M69_L0
    simp

theorem m61 {F : Nat} {c : TCatalog} {l : List TLoc} (hF : 1000 ≤ F) (hv : c.Vols.length < 1000) : M61 F c l = some (locsB c l) := by
  unfold M61 locsB
  by_cases hl : 200 < (l.length : Int)
  · rw [if_pos (by simpa using hl)]; simp; omega
  · rw [if_neg (by simpa using hl)]
    rw [loop_ff (s0 := (0 : Int)) (n := l.length) (F := F) (fun i : Nat => (i : Int)) (fun i => !locB c l i) (fun _ => false) (by omega) rfl, LF_all]
    · have : l.length ≤ 200 := by omega
      simp only [this, decide_true, Bool.true_and]
      split <;> rename_i h <;> simp [after, h]
    · intro i hi _
      unfold M61_L0 locB
      have hx : l[i]? = some l[i] := List.getElem?_eq_getElem hi
      generalize l[i] = x at hx
      rw [wr1 (by omega)]
      simp only [ix_nat, hx, m59, Option.bind_some, after_ite, after_brk, after_ret, bind_ite', Int.ofNat_lt, hi, decide_true, if_true]
      by_cases h1 : x.Vol < 0
      · simp [h1, inR]
        try omega
      · by_cases h2 : (c.Vols.length : Int) ≤ x.Vol
        · simp [h1, h2, inR]; omega
        · have h2' : 0 ≤ x.Vol ∧ x.Vol.toNat < c.Vols.length := by omega
          have h3 : c.Vols[x.Vol.toNat]? = some c.Vols[x.Vol.toNat] := List.getElem?_eq_getElem h2'.2
          generalize c.Vols[x.Vol.toNat] = v at h3
          have h4 : inR x.Vol 0 ((c.Vols.length : Int) - 1) = true := by simp [inR]; omega
          simp only [ix_pos _ h2'.1, h3, Option.bind_some, h1, h2, h4, Bool.true_and, decide_false]
          by_cases h0 : i = 0
          · subst h0
            simp [after]
            grind
          · have h5 : l[i - 1]? = some l[i - 1] := List.getElem?_eq_getElem (by omega)
            generalize l[i - 1] = y at h5
            rw [wr_1 (by omega) (by omega)]
            simp [after, ix_nat, h5, h0, Nat.pos_of_ne_zero h0, aftB]
            grind
    · intro _
      unfold M61_L0
      simp

def chB (c : TCatalog) (i : Nat) : Bool := match c.Chunks[i]? with
  | none => true
  | some x => (i == 0 || (match c.Chunks[i - 1]? with | none => true | some y => decide (ky y.Id < ky x.Id))) && locsB c x.Locs && (if x.Staged then inR x.Data.length 1 64 else (!decide (0 < x.Data.length) && !(x.Locs.length == 0)))

theorem gch {c : TCatalog} (h : Sm c) {i : Nat} {x : TChunk} (hx : c.Chunks[i]? = some x) : gId x.Id := by
  have := h.g.2.2.1 x (List.mem_of_getElem? hx)
  exact this.1

theorem m70_body {F : Nat} {c : TCatalog} (hF : 1000 ≤ F) (h : Sm c) {i : Nat} (hi : i < c.Chunks.length) : M70_L0 F c i = some (if !chB c i then .ret false else .go ((i + 1 : Nat) : Int)) := by
  have hc := h.ch
  have hv := h.vo
  unfold M70_L0 chB
  have hx : c.Chunks[i]? = some c.Chunks[i] := List.getElem?_eq_getElem hi
  generalize c.Chunks[i] = x at hx
  have gx := gch h hx
  rw [wr1 (by omega)]
  simp only [ix_nat, hx, m68, m112 hF (show c.Vols.length < 1000 by omega), Option.bind_some, after_ite, after_brk, after_ret, bind_ite', Int.ofNat_lt, hi, decide_true, if_true]
  generalize x.Locs.length = nl
  generalize x.Data.length = nd
  by_cases h0 : i = 0
  · subst h0
    cases hs : x.Staged <;> simp [after_ite, after_brk, after_ret, bind_ite'] <;> grind
  · have h5 : c.Chunks[i - 1]? = some c.Chunks[i - 1] := List.getElem?_eq_getElem (by omega)
    generalize c.Chunks[i - 1] = y at h5
    have gy := gch h h5
    rw [wr_1 (by omega) (by omega)]
    by_cases hk : ky y.Id < ky x.Id
    · have e : ¬ (0 ≤ if ky y.Id < ky x.Id then (-1 : Int) else if ky x.Id < ky y.Id then 1 else 0) := by rw [if_pos hk]; omega
      cases hs : x.Staged <;> simp [after_ite, after_brk, after_ret, bind_ite', ix_nat, h5, h0, Nat.pos_of_ne_zero h0, m111 F gy gx, e, hk] <;> grind
    · have e : (0 ≤ if ky y.Id < ky x.Id then (-1 : Int) else if ky x.Id < ky y.Id then 1 else 0) := by rw [if_neg hk]; split <;> omega
      simp [after_ite, after_brk, after_ret, bind_ite', ix_nat, h5, h0, Nat.pos_of_ne_zero h0, m111 F gy gx, e, hk]
      try (intro hh; exfalso; split at hh <;> omega)
def chsB (c : TCatalog) : Bool := !(List.range c.Chunks.length).any fun i => !chB c i
theorem m70 {F : Nat} {c : TCatalog} (hF : 1000 ≤ F) (h : Sm c) : M70 F c = some (chsB c && decide (c.Chunks.length ≤ 200)) := by
  have hc := h.ch
  unfold M70 chsB
  rw [loop_ff (s0 := (0 : Int)) (n := c.Chunks.length) (F := F) (fun i : Nat => (i : Int)) (fun i => !chB c i) (fun _ => false) (by omega) rfl, LF_all]
  · cases (List.range c.Chunks.length).any fun i => !chB c i <;> simp [after]; omega
  · exact fun i hi _ => m70_body hF h hi
  · intro _; unfold M70_L0; simp
theorem m19_L3 {F : Nat} {c : TCatalog} (hF : 1000 ≤ F) (h : Sm c) {i : Nat} (hi : i < c.Chunks.length) : M19_L3 F c i = some (if !chB c i then .ret false else .go ((i + 1 : Nat) : Int)) := by
  have hc := h.ch
  have hv := h.vo
  unfold M19_L3 chB
  have hx : c.Chunks[i]? = some c.Chunks[i] := List.getElem?_eq_getElem hi
  generalize c.Chunks[i] = x at hx
  have gx := gch h hx
  rw [wr1 (by omega)]
  simp only [ix_nat, hx, m59, m61 hF (show c.Vols.length < 1000 by omega), Option.bind_some, after_ite, after_brk, after_ret, bind_ite', Int.ofNat_lt, hi, decide_true, if_true]
  generalize x.Locs.length = nl
  generalize x.Data.length = nd
  by_cases h0 : i = 0
  · subst h0
    cases hs : x.Staged <;> simp [after_ite, after_brk, after_ret, bind_ite'] <;> grind
  · have h5 : c.Chunks[i - 1]? = some c.Chunks[i - 1] := List.getElem?_eq_getElem (by omega)
    generalize c.Chunks[i - 1] = y at h5
    have gy := gch h h5
    rw [wr_1 (by omega) (by omega)]
    by_cases hk : ky y.Id < ky x.Id
    · cases hs : x.Staged <;> simp [after_ite, after_brk, after_ret, bind_ite', ix_nat, h5, h0, Nat.pos_of_ne_zero h0, m60 hF gy gx, hk] <;> grind
    · simp [after_ite, after_brk, after_ret, bind_ite', ix_nat, h5, h0, Nat.pos_of_ne_zero h0, m60 hF gy gx, hk]
theorem m19_L0 {F : Nat} {c : TCatalog} (hF : 1000 ≤ F) (h : Sm c) {i : Nat} (hi : i < c.Vols.length) : M19_L0 F c i = some (if (c.Vols[i]?).any fun v => !volB v then .ret false else .go ((i + 1 : Nat) : Int)) := by
  have hv := h.vo
  unfold M19_L0 volB
  have hx : c.Vols[i]? = some c.Vols[i] := List.getElem?_eq_getElem hi
  generalize c.Vols[i] = x at hx
  rw [wr1 (by omega)]
  simp only [ix_nat, hx, m59, Option.bind_some, after_ite, after_brk, after_ret, bind_ite', Int.ofNat_lt, hi, decide_true, if_true, Option.any_some]
  by_cases h2 : x.State = 2
  · simp [h2]; grind
  · by_cases h1 : x.State = 1
    · simp [h1]; grind
    · by_cases h3 : x.State = 3
      · simp [h3]; grind
      · simp [h1, h2, h3]
end Go.Proofs.Ytoomgangpjcaoaa
