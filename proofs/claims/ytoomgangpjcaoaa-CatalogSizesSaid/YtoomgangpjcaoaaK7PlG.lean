/-
  Plain laws: the search for an id; the ids of a manifest.
-/
import Derived.Test.YtoomgangpjcaoaaK7PlF
set_option linter.unusedSimpArgs false
set_option linter.unusedVariables false
namespace Go.Proofs.Ytoomgangpjcaoaa
open Go.Vm

theorem half {a b : Nat} (h : a + b < 1000000000) : IntKind.wrap .i64 ((IntKind.wrap .u64 (IntKind.wrap .i64 ((a : Int) + b))).fdiv (2 ^ (min (1 : Int).toNat (IntKind.bits .u64)))) = (((a + b) / 2 : Nat) : Int) := by
  have e1 : IntKind.wrap .i64 ((a : Int) + b) = ((a + b : Nat) : Int) := by rw [wr (by omega) (by omega)]; omega
  have e2 : ∀ n : Nat, n < 1000000000 → IntKind.wrap .u64 (n : Int) = n := by
    intro n hn
    have e : IntKind.wrap .u64 (n : Int) = (n : Int) % 18446744073709551616 := rfl
    rw [e]; omega
  rw [e1, e2 _ h]
  have e3 : (2 : Int) ^ (min (1 : Int).toNat (IntKind.bits .u64)) = 2 := by decide
  rw [e3, Int.fdiv_eq_ediv_of_nonneg _ (by omega), wr (by omega) (by omega)]
  omega

/-- Chunks rise. -/
def Ris (l : List TChunk) : Prop := (∀ x ∈ l, gId x.Id) ∧ ∀ (i j : Nat) (x y : TChunk), l[i]? = some x → l[j]? = some y → i < j → ky x.Id < ky y.Id
theorem ris_of {c : TCatalog} (h : Sm c) (hc : chsB c = true) : Ris c.Chunks := by
  refine ⟨fun x hx => (h.g.2.2.1 x hx).1, ?_⟩
  have hs : ∀ i x y, c.Chunks[i]? = some x → c.Chunks[i + 1]? = some y → ky x.Id < ky y.Id := by
    intro i x y hx hy
    have hi : i + 1 < c.Chunks.length := (List.getElem?_eq_some_iff.1 hy).1
    unfold chsB at hc
    simp only [Bool.not_eq_true', List.any_eq_false, List.mem_range] at hc
    have := hc (i + 1) hi
    unfold chB at this
    rw [hy, show i + 1 - 1 = i from rfl, hx] at this
    simp at this
    exact this.1
  intro i j x y hx hy hij
  obtain ⟨k, rfl⟩ : ∃ k, j = i + 1 + k := ⟨j - i - 1, by omega⟩
  clear hij
  induction k generalizing y with
  | zero => exact hs i x y hx hy
  | succ k ih =>
    have hk : i + 1 + k < c.Chunks.length := by have := (List.getElem?_eq_some_iff.1 hy).1; omega
    exact Int.lt_trans (ih _ (List.getElem?_eq_getElem hk)) (hs (i + 1 + k) _ _ (List.getElem?_eq_getElem hk) hy)

theorem bis {F : Nat} {l : List TChunk} {d : Id32} (hr : Ris l) (hd : gId d) (hl : l.length < 1000) : ∀ (G lo hi : Nat), lo ≤ hi → hi ≤ l.length → hi - lo < G →
    (∀ j x, l[j]? = some x → j < lo → ky x.Id < ky d) → (∀ j x, l[j]? = some x → hi ≤ j → ky d ≤ ky x.Id) →
    ∃ p : Nat, p ≤ l.length ∧ loopM (fun s => M142_L0 F l d (fun x0 x1 => M143 F x0 x1) s.1 s.2) G ((lo : Int), (hi : Int)) = some (.brk ((p : Int), (p : Int))) ∧
      (∀ j x, l[j]? = some x → j < p → ky x.Id < ky d) ∧ (∀ j x, l[j]? = some x → p ≤ j → ky d ≤ ky x.Id)
  | 0, _, _, _, _, h, _, _ => by omega
  | G + 1, lo, hi, h1, h2, h3, h4, h5 => by
    unfold loopM M142_L0
    by_cases hlt : lo < hi
    · have hm : (lo + hi) / 2 < l.length := by omega
      have hx : l[(lo + hi) / 2]? = some l[(lo + hi) / 2] := List.getElem?_eq_getElem hm
      generalize l[(lo + hi) / 2] = x at hx
      have gx := hr.1 x (List.mem_of_getElem? hx)
      have e : M143 F x d = some (if ky x.Id < ky d then -1 else if ky d < ky x.Id then 1 else 0) := by unfold M143; rw [m111 F gx hd]; rfl
      simp only [Int.ofNat_lt, hlt, decide_true, if_true, half (show lo + hi < 1000000000 by omega), ix_nat, hx, Option.bind_some, e]
      by_cases hk : ky x.Id < ky d
      · simp only [hk, if_true, show decide ((-1 : Int) < 0) = true from rfl, after_brk]
        rw [wr1 (by omega)]
        exact bis hr hd hl G ((lo + hi) / 2 + 1) hi (by omega) h2 (by omega) (fun j y hy hj => by
          rcases Nat.lt_or_ge j ((lo + hi) / 2) with q | q
          · exact Int.lt_trans (hr.2 _ _ _ _ hy hx q) hk
          · obtain rfl : j = (lo + hi) / 2 := by omega
            rw [hx] at hy; cases hy; exact hk) h5
      · have e2 : decide ((if ky x.Id < ky d then (-1 : Int) else if ky d < ky x.Id then 1 else 0) < 0) = false := by rw [if_neg hk]; split <;> rfl
        simp only [e2, Bool.false_eq_true, if_false, after_brk]
        exact bis hr hd hl G lo ((lo + hi) / 2) (by omega) (by omega) (by omega) h4 (fun j y hy hj => by
          rcases Nat.lt_or_ge ((lo + hi) / 2) j with q | q
          · have := hr.2 _ _ _ _ hx hy q; omega
          · obtain rfl : j = (lo + hi) / 2 := by omega
            rw [hx] at hy; cases hy; omega)
    · obtain rfl : lo = hi := by omega
      refine ⟨lo, h2, ?_, h4, h5⟩
      simp

def hasB (l : List TChunk) (d : Id32) : Bool := l.any fun x => decide (x.Id = d)
theorem m113 {F : Nat} {l : List TChunk} {d : Id32} (hF : 1000 ≤ F) (hr : Ris l) (hd : gId d) (hl : l.length < 1000) : ∃ p : Int, M113 F l d = some (p, hasB l d) := by
  unfold M113 M142
  obtain ⟨p, hp, e, h1, h2⟩ := bis (F := F) hr hd hl F 0 l.length (by omega) (Nat.le_refl _) (by omega) (fun j x _ hj => by omega) (fun j x hx hj => by have := (List.getElem?_eq_some_iff.1 hx).1; omega)
  rw [show ((0 : Int), (l.length : Int)) = (((0 : Nat) : Int), (l.length : Int)) from rfl, e]
  simp only [after_brk]
  refine ⟨p, ?_⟩
  by_cases hlt : p < l.length
  · have hx : l[p]? = some l[p] := List.getElem?_eq_getElem hlt
    have hmem := List.getElem_mem hlt
    generalize l[p] = x at hx hmem
    have gx := hr.1 x hmem
    have e : M143 F x d = some (if ky x.Id < ky d then -1 else if ky d < ky x.Id then 1 else 0) := by unfold M143; rw [m111 F gx hd]; rfl
    simp only [Int.ofNat_lt, hlt, decide_true, if_true, ix_nat, hx, Option.bind_some, e, after_brk]
    have hge := h2 p x hx (Nat.le_refl _)
    have : hasB l d = ((if ky x.Id < ky d then (-1 : Int) else if ky d < ky x.Id then 1 else 0) == 0) := by
      rw [if_neg (by omega)]
      unfold hasB
      by_cases hk : ky d < ky x.Id
      · rw [if_pos hk]
        rw [List.any_eq_false.2]
        · rfl
        intro y hy
        obtain ⟨j, hj, rfl⟩ := List.getElem_of_mem hy
        have hy' : l[j]? = some l[j] := List.getElem?_eq_getElem hj
        simp only [decide_eq_true_eq]
        intro he
        rcases Nat.lt_or_ge j p with q | q
        · have := h1 j _ hy' q
          rw [he] at this; omega
        · rcases Nat.lt_or_ge p j with q2 | q2
          · have := hr.2 _ _ _ _ hx hy' q2
            rw [he] at this; omega
          · obtain rfl : j = p := by omega
            rw [hy'] at hx; cases hx
            rw [he] at hk; omega
      · rw [if_neg hk]
        refine List.any_eq_true.2 ⟨x, hmem, ?_⟩
        simp only [decide_eq_true_eq]
        exact ky_inj gx hd (by omega)
    rw [this]
  · have hn : ¬ ((p : Int) < (l.length : Int)) := by omega
    simp only [hn, decide_false, Bool.false_eq_true, if_false, after_brk, Option.bind_some]
    have : hasB l d = false := by
      unfold hasB
      refine List.any_eq_false.2 fun y hy => ?_
      obtain ⟨j, hj, rfl⟩ := List.getElem_of_mem hy
      have := h1 j _ (List.getElem?_eq_getElem hj) (by omega)
      simp only [decide_eq_true_eq]
      intro he
      rw [he] at this; omega
    rw [this]

/-- A loop that stops at the first number that does not go on. -/
theorem loop_br {ρ : Type} {body : Int → Option (Lp Int ρ)} {c : Nat → Bool} {n : Nat} (hb : ∀ i : Nat, i ≤ n → body (i : Int) = some (if c i then .go ((i + 1 : Nat) : Int) else .brk (i : Int))) (hn : c n = false) : ∀ (G k : Nat), k ≤ n → n - k < G →
    ∃ p : Nat, p ≤ n ∧ c p = false ∧ loopM body G (k : Int) = some (.brk (p : Int))
  | 0, _, _, h => by omega
  | G + 1, k, hk, h => by
    unfold loopM
    rw [hb k hk]
    cases hc : c k
    · exact ⟨k, hk, hc, by simp⟩
    · have : k ≠ n := by rintro rfl; rw [hn] at hc; cases hc
      obtain ⟨p, h1, h2, h3⟩ := loop_br hb hn G (k + 1) (by omega) (by omega)
      exact ⟨p, h1, h2, by simpa using h3⟩
/-- A loop with a standing condition. -/
theorem loop_inv {S ρ : Type} {body : S → Option (Lp S ρ)} {I : Nat → S → Prop} {n : Nat} (hb : ∀ i s, i < n → I i s → ∃ s', body s = some (.go s') ∧ I (i + 1) s') (he : ∀ s, I n s → body s = some (.brk s)) : ∀ (G k : Nat) (s : S), k ≤ n → n - k < G → I k s →
    ∃ s', I n s' ∧ loopM body G s = some (.brk s')
  | 0, _, _, _, h, _ => by omega
  | G + 1, k, s, hk, h, hi => by
    unfold loopM
    by_cases e : k = n
    · subst e
      rw [he s hi]
      exact ⟨s, hi, rfl⟩
    · obtain ⟨s', h1, h2⟩ := hb k s (by omega) hi
      rw [h1]
      exact loop_inv hb he G (k + 1) s' (by omega) (by omega) h2

theorem m105 {F : Nat} {l : List Id32} {d : Id32} (hF : 1000 ≤ F) (hl : l.length < 600) (gl : ∀ x ∈ l, gId x) (hd : gId d) :
    ∃ r, M105 F l d = some r ∧ (∀ x, x ∈ r.1 ↔ x ∈ l ∨ x = d) ∧ r.1.length ≤ l.length + 1 := by
  unfold M105
  obtain ⟨p, h1, h2, h3⟩ := loop_br (body := M105_L0 F l d) (n := l.length) (c := fun i => (l[i]?).any fun x => decide (ky x < ky d)) (fun i hi => by
    unfold M105_L0
    rw [wr1 (by omega)]
    by_cases hlt : i < l.length
    · have hx : l[i]? = some l[i] := List.getElem?_eq_getElem hlt
      simp only [Int.ofNat_lt, hlt, decide_true, if_true, ix_nat, hx, Option.bind_some, m128 hF (gl _ (List.getElem_mem hlt)) hd, after_brk, Option.any_some]
      split <;> rfl
    · have hx : l[i]? = none := List.getElem?_eq_none (by omega)
      simp [Int.ofNat_lt, hlt, hx, after_brk]) (by simp) F 0 (by omega) (by omega)
  rw [show (0 : Int) = ((0 : Nat) : Int) from rfl, h3]
  simp only [after_brk]
  have hins : (slc l 0 (p : Int)).bind (fun x84 => (app ([] : List Id32) x84).bind fun z86 => (app z86 ([d] : List Id32)).bind fun z92 => (slc l (p : Int) (l).length).bind fun x98 => (app z92 x98).bind fun z100 => some (z100, (p : Int), true))
      = some (l.take p ++ [d] ++ l.drop p, (p : Int), true) := by
    unfold slc
    rw [if_pos (by omega), if_pos (by omega)]
    simp only [Option.bind_some, Int.toNat_natCast]
    rw [app_some (by simp; omega)]
    simp only [Option.bind_some, List.nil_append]
    rw [app_some (by simp; omega)]
    simp only [Option.bind_some]
    rw [app_some (by simp; omega)]
    simp
  have hmem : ∀ x, x ∈ l.take p ++ [d] ++ l.drop p ↔ x ∈ l ∨ x = d := by
    intro x
    simp only [List.mem_append, List.mem_singleton]
    rw [show (x ∈ l ∨ x = d) ↔ ((x ∈ l.take p ∨ x ∈ l.drop p) ∨ x = d) from by rw [← List.mem_append, List.take_append_drop]]
    constructor
    · rintro ((h | h) | h) <;> simp [h]
    · rintro ((h | h) | h) <;> simp [h]
  by_cases hlt : p < l.length
  · have hx : l[p]? = some l[p] := List.getElem?_eq_getElem hlt
    simp only [Int.ofNat_lt, hlt, decide_true, if_true, ix_nat, hx, Option.bind_some, after_brk]
    by_cases he : l[p] = d
    · refine ⟨(l, (p : Int), false), by simp [he], fun x => ?_, by simp⟩
      constructor
      · exact .inl
      · rintro (h | rfl)
        · exact h
        · rw [← he]; exact List.getElem_mem hlt
    · rw [if_neg (by simpa using he)]
      exact ⟨_, hins, hmem, by simp; omega⟩
  · have hn : ¬ ((p : Int) < (l.length : Int)) := by omega
    simp only [hn, decide_false, Bool.false_eq_true, if_false, after_brk]
    exact ⟨_, hins, hmem, by simp; omega⟩
end Go.Proofs.Ytoomgangpjcaoaa
