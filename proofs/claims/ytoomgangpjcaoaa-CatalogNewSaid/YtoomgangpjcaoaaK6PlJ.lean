/-
  Plain laws: what is heavy; twins; what is kept.
-/
import Derived.Test.YtoomgangpjcaoaaK6PlI
import Derived.Test.YtoomgangpjcaoaaK6Wa
import Derived.Test.YtoomgangpjcaoaaK6Wb
set_option linter.unusedSimpArgs false
set_option linter.unusedVariables false
namespace Go.Proofs.Ytoomgangpjcaoaa
open Go.Vm

/-- A loop over a row's elements that stops with a value, or goes through. -/
theorem any_loop {α ρ : Type} {l : List α} {F : Nat} {body : Int → Option (Lp Int ρ)} (q : α → Bool) (r : ρ) (hF : l.length < F) (hb : ∀ (i : Nat) (x : α), l[i]? = some x → x ∈ l → i < l.length → body (i : Int) = some (if q x then .ret r else .go ((i + 1 : Nat) : Int)))
    (he : body (l.length : Int) = some (.brk (l.length : Int))) : loopM body F 0 = some (if l.any q then .ret r else .brk (l.length : Int)) := by
  rw [loop_ff (s0 := (0 : Int)) (n := l.length) (F := F) (fun i : Nat => (i : Int)) (fun i => (l[i]?).any q) (fun _ => r) hF rfl (fun i hi _ => by
    rw [hb i l[i] (List.getElem?_eq_getElem hi) (List.getElem_mem hi) hi, List.getElem?_eq_getElem hi]; rfl) (fun _ => he), LF_all, range_any]

theorem m15 {F : Nat} {l : List Int} (hl : l.length ≤ 1000) : M15 F l = some l := by unfold M15; rw [app_some (by simp; omega)]; simp
/-- A loop that goes through. -/
theorem go_loop {S ρ : Type} {body : S → Option (Lp S ρ)} {n F : Nat} {s0 : S} (emb : Nat → S) (hF : n < F) (h0 : s0 = emb 0) (hb : ∀ i, i < n → body (emb i) = some (.go (emb (i + 1)))) (he : body (emb n) = some (.brk (emb n))) :
    loopM body F s0 = some (.brk (emb n)) := by
  obtain ⟨s', h1, h2⟩ := loop_inv (body := body) (I := fun i s => s = emb i) (n := n) (fun i s hi hs => ⟨_, by rw [hs]; exact hb i hi, rfl⟩) (fun s hs => by rw [hs]; exact he) F 0 s0 (Nat.zero_le _) (by omega) h0
  rw [h2, h1]
theorem m58 {F : Nat} {l : List TLoc} (hF : 1000 ≤ F) (hl : l.length ≤ 220) : M58 F l l = some true := by
  unfold M58
  rw [if_neg (by simp), any_loop (l := l) (F := F) (fun _ => false) false (by omega) (fun i x hx _ hi => by
    unfold M58_L0 M103
    rw [wr1 (by omega)]
    simp [ix_nat, hx, hi, after]) (by unfold M58_L0; simp)]
  simp [after]
theorem m126 {F : Nat} {l : List Int} (hF : 1000 ≤ F) (hl : l.length ≤ 300) : M126 F l l = some true := by
  unfold M126
  rw [if_neg (by simp), any_loop (l := l) (F := F) (fun _ => false) false (by omega) (fun i x hx _ hi => by
    unfold M126_L0
    rw [wr1 (by omega)]
    simp [ix_nat, hx, hi, after]) (by unfold M126_L0; simp)]
  simp [after]
theorem m18 {F : Nat} {l : List Int} (hF : 1000 ≤ F) (hl : l.length ≤ 300) : M18 F l l = some true := by
  unfold M18
  rw [if_neg (by simp), any_loop (l := l) (F := F) (fun _ => false) false (by omega) (fun i x hx _ hi => by
    unfold M18_L0
    rw [wr1 (by omega)]
    simp [ix_nat, hx, hi, after]) (by unfold M18_L0; simp)]
  simp [after]
theorem m127 {F : Nat} {l : List Id32} (hF : 1000 ≤ F) (hl : l.length ≤ 300) : M127 F l l = some true := by
  unfold M127
  rw [if_neg (by simp), any_loop (l := l) (F := F) (fun _ => false) false (by omega) (fun i x hx _ hi => by
    unfold M127_L0
    rw [wr1 (by omega)]
    simp [ix_nat, hx, hi, after]) (by unfold M127_L0; simp)]
  simp [after]
theorem m55 {F : Nat} {l : List TChunk} (hF : 1000 ≤ F) (hl : l.length ≤ 220) (hx : ∀ x ∈ l, x.Locs.length ≤ 220 ∧ x.Data.length ≤ 300) : M55 F l l = some true := by
  unfold M55
  rw [if_neg (by simp), any_loop (l := l) (F := F) (fun _ => false) false (by omega) (fun i x hx' hm hi => by
    have := hx x hm
    unfold M55_L0 M101
    rw [wr1 (by omega)]
    simp only [ix_nat, hx', Option.bind_some, m126 hF this.2, m58 hF this.1]; simp [hi, after]) (by unfold M55_L0; simp)]
  simp [after]
theorem m56 {F : Nat} {l : List TVol} (hF : 1000 ≤ F) (hl : l.length ≤ 220) : M56 F l l = some true := by
  unfold M56
  rw [if_neg (by simp), any_loop (l := l) (F := F) (fun _ => false) false (by omega) (fun i x hx' hm hi => by
    unfold M56_L0
    rw [wr1 (by omega)]
    simp [ix_nat, hx', hi, after]) (by unfold M56_L0; simp)]
  simp [after]
theorem m102 {F : Nat} {m : TManifest} (hF : 1000 ≤ F) (hp : m.Parts.length ≤ 10) (hi : ∀ p ∈ m.Parts, p.Ids.length ≤ 40) : M102 F m m = some true := by
  unfold M102
  rw [any_loop (l := m.Parts) (F := F) (fun _ => false) false (by omega) (fun i x hx' hm hi' => by
    have := hi x hm
    unfold M102_L0
    rw [wr1 (by omega)]
    simp only [ix_nat, hx', Option.bind_some, m127 hF (show x.Ids.length ≤ 300 by omega)]; simp [hi', after]) (by unfold M102_L0; simp)]
  simp [after]
theorem m17 {F : Nat} {c : TCatalog} (hF : 1000 ≤ F) (h : Sm c) : M17 F c c = some true := by
  have hsn := h.sn
  have hex := h.ex
  have hvo := h.vo
  unfold M17
  rw [any_loop (l := c.Snaps) (F := F) (fun _ => false) false (by omega) (fun i x hx' hm hi' => by
    have h1 := h.sl x hm
    obtain ⟨-, h2, h3⟩ := h.man x hm
    unfold M17_L0 M57
    rw [wr1 (by omega)]
    simp only [ix_nat, hx', Option.bind_some, m102 hF h2 (fun p hp => (h3 p hp).2), m58 hF h1]; simp [hi', after]) (by unfold M17_L0; simp)]
  rw [any_loop (l := c.Exps) (F := F) (fun _ => false) false (by omega) (fun i x hx' hm hi' => by
    have h1 := h.el x hm
    unfold M17_L2
    rw [wr1 (by omega)]
    simp only [ix_nat, hx', Option.bind_some, m58 hF h1]; simp [hi', after]) (by unfold M17_L2; simp)]
  simp [after, m55 hF h.ch h.cl, m56 hF (show c.Vols.length ≤ 220 by omega)]
end Go.Proofs.Ytoomgangpjcaoaa
