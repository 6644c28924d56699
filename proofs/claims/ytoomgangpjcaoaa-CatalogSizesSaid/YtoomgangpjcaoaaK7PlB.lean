/-
  Plain laws: what 'catalog.Check' and the page's 'Check' tell.
-/
import Derived.Test.YtoomgangpjcaoaaK7PlA
import Derived.Test.YtoomgangpjcaoaaK7Wd
import Derived.Test.YtoomgangpjcaoaaK7Wc
import Derived.Test.YtoomgangpjcaoaaK7Wf
import Derived.Test.YtoomgangpjcaoaaK7We
import Derived.Test.YtoomgangpjcaoaaK7Reads
set_option linter.unusedSimpArgs false
set_option linter.unusedVariables false
namespace Go.Proofs.Ytoomgangpjcaoaa
open Go.Vm

def inR (a b c : Int) : Bool := decide (b ≤ a) && decide (a ≤ c)
theorem m68 (F : Nat) (a b c : Int) : M68 F a b c = some (inR a b c) := by
  unfold M68 inR
  by_cases h : b ≤ a <;> simp [after, h]
theorem m59 (F : Nat) (a b c : Int) : M59 F a b c = some (inR a b c) := by
  unfold M59 inR
  by_cases h : b ≤ a <;> simp [after, h]

def aftB (a b : TLoc) : Bool := if a.Vol != b.Vol then decide (b.Vol < a.Vol) else if a.File != b.File then decide (b.File < a.File) else decide (b.Off < a.Off)
theorem m141 (F : Nat) (a b : TLoc) : M141 F a b = some (aftB a b) := by
  unfold M141 aftB
  split
  · rfl
  · split <;> rfl

def locB (c : TCatalog) (l : List TLoc) (i : Nat) : Bool := match l[i]? with
  | none => true
  | some x => inR x.Vol 0 ((c.Vols.length : Int) - 1) && (match c.Vols[x.Vol.toNat]? with | none => false | some v => v.State == 2 && inR x.File 1 v.Files) && inR x.Off 0 16777215 && inR x.Len 13 8013 &&
      (i == 0 || (match l[i - 1]? with | none => true | some y => aftB x y))
def locsB (c : TCatalog) (l : List TLoc) : Bool := decide (l.length ≤ 200) && !(List.range l.length).any fun i => !locB c l i

theorem m112 {F : Nat} {c : TCatalog} {l : List TLoc} (hF : 1000 ≤ F) (hv : c.Vols.length < 1000) : M112 F c l = some (locsB c l) := by
  unfold M112 locsB
  by_cases hl : 200 < (l.length : Int)
  · rw [if_pos (by simpa using hl)]; simp; omega
  · rw [if_neg (by simpa using hl)]
    rw [loop_ff (s0 := (0 : Int)) (n := l.length) (F := F) (fun i : Nat => (i : Int)) (fun i => !locB c l i) (fun _ => false) (by omega) rfl, LF_all]
    · have : l.length ≤ 200 := by omega
      simp only [this, decide_true, Bool.true_and]
      split <;> rename_i h <;> simp [after, h]
    · intro i hi _
      unfold M112_L0 locB
      have hx : l[i]? = some l[i] := List.getElem?_eq_getElem hi
      generalize l[i] = x at hx
      rw [wr (by omega) (by omega), wr1 (by omega)]
      simp only [ix_nat, hx, m68, m141, Option.bind_some, after_ite, after_brk, after_ret, bind_ite', Int.ofNat_lt, hi, decide_true, if_true]
      cases h1 : inR x.Vol 0 ((c.Vols.length : Int) - 1)
      · simp [after]
      · have h2 : 0 ≤ x.Vol ∧ x.Vol.toNat < c.Vols.length := by simp [inR] at h1; omega
        have h3 : c.Vols[x.Vol.toNat]? = some c.Vols[x.Vol.toNat] := List.getElem?_eq_getElem h2.2
        generalize c.Vols[x.Vol.toNat] = v at h3
        simp only [ix_pos _ h2.1, h3, Option.bind_some]
        by_cases h0 : i = 0
        · subst h0
          simp [after]
          grind
        · have h5 : l[i - 1]? = some l[i - 1] := List.getElem?_eq_getElem (by omega)
          generalize l[i - 1] = y at h5
          rw [wr_1 (by omega) (by omega)]
          simp [after, ix_nat, h5, h0, Nat.pos_of_ne_zero h0]
          grind
    · intro _
      unfold M112_L0
      simp
end Go.Proofs.Ytoomgangpjcaoaa
