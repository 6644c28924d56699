/-
  Plain laws: what is heavy; twins; what is kept.
-/
import Derived.Test.YtoomgangpjcaoaaK7PlI
import Derived.Test.YtoomgangpjcaoaaK7Wa
import Derived.Test.YtoomgangpjcaoaaK7Types
set_option linter.unusedSimpArgs false
set_option linter.unusedVariables false
namespace Go.Proofs.Ytoomgangpjcaoaa
open Go.Vm

/-- A loop over a row's elements that stops with a value, or goes through. -/
theorem any_loop {α ρ : Type} {l : List α} {F : Nat} {body : Int → Option (Lp Int ρ)} (q : α → Bool) (r : ρ) (hF : l.length < F) (hb : ∀ (i : Nat) (x : α), l[i]? = some x → x ∈ l → i < l.length → body (i : Int) = some (if q x then .ret r else .go ((i + 1 : Nat) : Int)))
    (he : body (l.length : Int) = some (.brk (l.length : Int))) : loopM body F 0 = some (if l.any q then .ret r else .brk (l.length : Int)) := by
  rw [loop_ff (s0 := (0 : Int)) (n := l.length) (F := F) (fun i : Nat => (i : Int)) (fun i => (l[i]?).any q) (fun _ => r) hF rfl (fun i hi _ => by
    rw [hb i l[i] (List.getElem?_eq_getElem hi) (List.getElem_mem hi) hi, List.getElem?_eq_getElem hi]; rfl) (fun _ => he), LF_all, range_any]

theorem m51 {F : Nat} {m : TManifest} (hF : 1000 ≤ F) : ∃ b, M51 F m = some b ∧ (b = false → m.Name.size ≤ 100 ∧ m.Parts.length ≤ 10 ∧ ∀ p ∈ m.Parts, p.Path.size ≤ 100 ∧ p.Ids.length ≤ 40) := by
  unfold M51
  by_cases h1 : 100 < (m.Name.size : Int)
  · exact ⟨true, by simp [after, h1], fun h => by cases h⟩
  · by_cases h2 : 10 < (m.Parts.length : Int)
    · exact ⟨true, by simp [after, h1, h2], fun h => by cases h⟩
    · rw [any_loop (F := F) (l := m.Parts) (fun p => decide (100 < (p.Path.size : Int)) || decide (40 < (p.Ids.length : Int))) true (by omega) (fun i x hx _ hi => by
        unfold M51_L0
        rw [wr1 (by omega)]
        simp only [ix_nat, hx, Option.bind_some, after_ite, after_brk, Int.ofNat_lt, hi, decide_true, if_true, bind_ite']
        cases decide (100 < (x.Path.size : Int)) <;> cases decide (40 < (x.Ids.length : Int)) <;> rfl) (by unfold M51_L0; simp)]
      simp only [h1, h2, decide_false, Bool.false_eq_true, if_false, after_brk]
      cases h : m.Parts.any fun p => decide (100 < (p.Path.size : Int)) || decide (40 < (p.Ids.length : Int))
      · refine ⟨false, by simp [after], fun _ => ⟨by omega, by omega, fun p hp => ?_⟩⟩
        have := List.any_eq_false.1 h p hp
        simp at this
        omega
      · exact ⟨true, by simp [after], fun h => by cases h⟩

theorem m13 {F : Nat} {c : TCatalog} (hF : 1000 ≤ F) (hg : g_Catalog c) : ∃ b, M13 F c = some b ∧ (b = false → Sm c) := by
  unfold M13
  by_cases h1 : 12 < (c.Snaps.length : Int)
  · exact ⟨true, by simp [after, h1], fun h => by cases h⟩
  by_cases h2 : 220 < (c.Chunks.length : Int)
  · exact ⟨true, by simp [after, h1, h2], fun h => by cases h⟩
  by_cases h3 : 220 < (c.Exps.length : Int)
  · exact ⟨true, by simp [after, h1, h2, h3], fun h => by cases h⟩
  by_cases h4 : 20 < (c.Vols.length : Int)
  · exact ⟨true, by simp [after, h1, h2, h3, h4], fun h => by cases h⟩
  have hM : ∀ s : TSnap, ∃ b, M51 F s.Man = some b ∧ (b = false → s.Man.Name.size ≤ 100 ∧ s.Man.Parts.length ≤ 10 ∧ ∀ p ∈ s.Man.Parts, p.Path.size ≤ 100 ∧ p.Ids.length ≤ 40) := fun s => m51 hF
  let q : TSnap → Bool := fun s => ((M51 F s.Man).getD true) || decide (220 < (s.Locs.length : Int))
  rw [any_loop (F := F) (l := c.Snaps) q true (by omega) (fun i x hx _ hi => by
        unfold M13_L0
        obtain ⟨b, hb, -⟩ := hM x
        rw [wr1 (by omega)]
        simp only [ix_nat, hx, Option.bind_some, after_ite, after_brk, Int.ofNat_lt, hi, decide_true, if_true, bind_ite', hb, q, Option.getD_some]
        cases b <;> cases decide (220 < (x.Locs.length : Int)) <;> rfl) (by unfold M13_L0; simp)]
  rw [any_loop (F := F) (l := c.Chunks) (fun x => decide (300 < (x.Data.length : Int)) || decide (220 < (x.Locs.length : Int))) true (by omega) (fun i x hx _ hi => by
        unfold M13_L2
        rw [wr1 (by omega)]
        simp only [ix_nat, hx, Option.bind_some, after_ite, after_brk, Int.ofNat_lt, hi, decide_true, if_true, bind_ite']
        cases decide (300 < (x.Data.length : Int)) <;> cases decide (220 < (x.Locs.length : Int)) <;> rfl) (by unfold M13_L2; simp)]
  rw [any_loop (F := F) (l := c.Exps) (fun x => decide (220 < (x.Locs.length : Int))) true (by omega) (fun i x hx _ hi => by
        unfold M13_L4
        rw [wr1 (by omega)]
        simp only [ix_nat, hx, Option.bind_some, after_ite, after_brk, Int.ofNat_lt, hi, decide_true, if_true, bind_ite']
        cases decide (220 < (x.Locs.length : Int)) <;> rfl) (by unfold M13_L4; simp)]
  simp only [h1, h2, h3, h4, decide_false, Bool.false_eq_true, if_false, after_brk]
  cases k1 : c.Snaps.any q
  · cases k2 : c.Chunks.any fun x => decide (300 < (x.Data.length : Int)) || decide (220 < (x.Locs.length : Int))
    · cases k3 : c.Exps.any fun x => decide (220 < (x.Locs.length : Int))
      · refine ⟨false, by simp [after], fun _ => ?_⟩
        have hs : ∀ s ∈ c.Snaps, s.Locs.length ≤ 220 ∧ s.Man.Name.size ≤ 100 ∧ s.Man.Parts.length ≤ 10 ∧ ∀ p ∈ s.Man.Parts, p.Path.size ≤ 100 ∧ p.Ids.length ≤ 40 := by
          intro s hs
          have := List.any_eq_false.1 k1 s hs
          obtain ⟨b, hb, hb'⟩ := hM s
          simp only [q, hb, Option.getD_some, Bool.or_eq_true, decide_eq_true_eq, not_or] at this
          exact ⟨by omega, hb' (by simpa using this.1)⟩
        exact ⟨hg, by omega, by omega, by omega, by omega, fun s h => (hs s h).1, fun x hx => by
          have := List.any_eq_false.1 k2 x hx
          simp at this
          omega, fun x hx => by
          have := List.any_eq_false.1 k3 x hx
          simp at this
          omega, fun s h => (hs s h).2⟩
      · exact ⟨true, by simp [after], fun h => by cases h⟩
    · exact ⟨true, by simp [after], fun h => by cases h⟩
  · exact ⟨true, by simp [after], fun h => by cases h⟩

/-- A loop that goes through. -/
theorem go_loop {S ρ : Type} {body : S → Option (Lp S ρ)} {n F : Nat} {s0 : S} (emb : Nat → S) (hF : n < F) (h0 : s0 = emb 0) (hb : ∀ i, i < n → body (emb i) = some (.go (emb (i + 1)))) (he : body (emb n) = some (.brk (emb n))) :
    loopM body F s0 = some (.brk (emb n)) := by
  obtain ⟨s', h1, h2⟩ := loop_inv (body := body) (I := fun i s => s = emb i) (n := n) (fun i s hi hs => ⟨_, by rw [hs]; exact hb i hi, rfl⟩) (fun s hs => by rw [hs]; exact he) F 0 s0 (Nat.zero_le _) (by omega) h0
  rw [h2, h1]
end Go.Proofs.Ytoomgangpjcaoaa
