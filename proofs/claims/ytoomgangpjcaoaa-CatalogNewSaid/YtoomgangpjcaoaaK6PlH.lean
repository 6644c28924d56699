/-
  Plain laws: snapshots; the whole check.
-/
import Derived.Test.YtoomgangpjcaoaaK6PlG
set_option linter.unusedSimpArgs false
set_option linter.unusedVariables false
namespace Go.Proofs.Ytoomgangpjcaoaa
open Go.Vm

theorem gsn {c : TCatalog} (h : Sm c) {s : TSnap} (hs : s ∈ c.Snaps) : gI s.Seq ∧ ∀ p ∈ s.Man.Parts, ∀ d ∈ p.Ids, gId d := by
  have := h.g.2.1 s hs
  exact ⟨this.1, fun p hp d hd => (this.2.1.2 p hp).2.2 d hd⟩

def plB (c : TCatalog) (m : TManifest) : Bool := m.Parts.all fun p => p.Ids.all fun d => hasB c.Chunks d
def snB (c : TCatalog) (i : Nat) : Bool := match c.Snaps[i]? with
  | none => true
  | some s => inR s.Seq 0 (c.Seq - 1) && (i == 0 || (match c.Snaps[i - 1]? with | none => true | some y => decide (y.Seq < s.Seq))) && !((c.Snaps.take i).any fun y => s.Man.Name == y.Man.Name) && manB s.Man && locsB c s.Locs
def snC (c : TCatalog) (i : Nat) : Bool := match c.Snaps[i]? with
  | none => true
  | some s => plB c s.Man
/-- The names of the snapshots below i. -/
def nmz (c : TCatalog) (i : Nat) : List ByteArray := (c.Snaps.take i).foldl (fun l s => madd l s.Man.Name) []
theorem nmz_any (c : TCatalog) (x : ByteArray) : ∀ i, ((nmz c i).any fun z => x == z) = (c.Snaps.take i).any fun y => x == y.Man.Name := by
  have : ∀ (l : List TSnap) (acc : List ByteArray), ((l.foldl (fun l s => madd l s.Man.Name) acc).any fun z => x == z) = ((acc.any fun z => x == z) || l.any fun y => x == y.Man.Name) := by
    intro l
    induction l with
    | nil => simp
    | cons s l ih =>
      intro acc
      rw [List.foldl_cons, ih, List.any_cons, ← Bool.or_assoc]
      congr 1
      unfold madd
      split
      · rename_i h
        rw [Bool.eq_iff_iff]
        simp only [Bool.or_eq_true, List.any_eq_true] at h ⊢
        constructor
        · exact .inl
        · rintro (q | q)
          · exact q
          · obtain ⟨y, hy, he⟩ := h
            rw [(bytes_beq _ _).1 q, (bytes_beq _ _).1 he]
            exact ⟨y, hy, (bytes_beq _ _).2 rfl⟩
      · simp
  intro i
  rw [nmz, this]
  simp
end Go.Proofs.Ytoomgangpjcaoaa
