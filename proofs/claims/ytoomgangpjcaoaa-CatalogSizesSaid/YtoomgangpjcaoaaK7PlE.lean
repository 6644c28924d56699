/-
  Plain laws: names, manifests.
-/
import Derived.Test.YtoomgangpjcaoaaK7PlD
set_option linter.unusedSimpArgs false
set_option linter.unusedVariables false
namespace Go.Proofs.Ytoomgangpjcaoaa
open Go.Vm

theorem six_some {s : ByteArray} {i : Nat} (h : i < s.size) : ∃ z : Int, six s (i : Int) = some z := by
  unfold six
  rw [if_pos (Int.natCast_nonneg i), Int.toNat_natCast]
  have : s[i]? = some s[i] := getElem?_pos s i h
  rw [this]
  exact ⟨_, rfl⟩
def bad (s : ByteArray) (i : Nat) : Bool := (six s (i : Int)).any fun z => decide (z < 33) || decide (126 < z)
def nameB (s : ByteArray) : Bool := inR s.size 1 20 && !(List.range s.size).any (bad s)
theorem m115 {F : Nat} {s : ByteArray} (hF : 1000 ≤ F) : M115 F s = some (nameB s) := by
  unfold M115 nameB inR
  by_cases h1 : (s.size : Int) < 1
  · have h2 : ¬ (1 : Int) ≤ s.size := by omega
    simp [after, h1, h2]
  · by_cases h2 : 20 < (s.size : Int)
    · have h3 : ¬ (s.size : Int) ≤ 20 := by omega
      simp [after, h1, h2, h3]
    · rw [loop_ff (s0 := (0 : Int)) (n := s.size) (F := F) (fun i : Nat => (i : Int)) (bad s) (fun _ => false) (by omega) rfl, LF_all]
      · have h3 : (s.size : Int) ≤ 20 := by omega
        have h4 : (1 : Int) ≤ s.size := by omega
        simp only [h1, h2, h3, h4]
        cases h : (List.range s.size).any (bad s) <;> simp [after]
      · intro i hi _
        unfold M115_L0 bad
        obtain ⟨z, hz⟩ := six_some hi
        rw [wr1 (by omega)]
        simp only [hz, Option.bind_some, after_ite, after_brk, after_ret, bind_ite', Int.ofNat_lt, hi, decide_true, if_true, Option.any_some]
        grind
      · intro _
        unfold M115_L0
        simp
theorem m104 {F : Nat} {s : ByteArray} (hF : 1000 ≤ F) (hs : s.size ≤ 100) : M104 F s = some (nameB s) := by
  unfold M104 nameB inR
  rw [loop_ff (s0 := (0 : Int)) (n := s.size) (F := F) (fun i : Nat => (i : Int)) (bad s) (fun _ => false) (by omega) rfl, LF_all]
  · cases h : (List.range s.size).any (bad s)
    · simp only [after_ite, after_brk, after_ret]
      by_cases h1 : (1 : Int) ≤ s.size <;> simp [after_brk, h1]
    · simp [after]
  · intro i hi _
    unfold M104_L0 bad
    obtain ⟨z, hz⟩ := six_some hi
    rw [wr1 (by omega)]
    simp only [hz, Option.bind_some, after_ite, after_brk, after_ret, bind_ite', Int.ofNat_lt, hi, decide_true, if_true, Option.any_some]
    grind
  · intro _
    unfold M104_L0
    simp

def ordB (x y : TPart) : Bool := Op.bytesLess x.Path.toList y.Path.toList || x.Path.toList == y.Path.toList
def partB (x : TPart) : Bool := nameB x.Path && decide (0 ≤ x.Size) && decide (x.Size ≤ 200) && decide (x.Ids.length ≤ 25) && ((x.Ids.length == 0) == (x.Size == 0))
def paB (m : TManifest) (i : Nat) : Bool := match m.Parts[i]? with
  | none => true
  | some x => partB x && (i == 0 || (match m.Parts[i - 1]? with | none => true | some y => !ordB x y))
def manB (m : TManifest) : Bool := nameB m.Name && decide (m.Parts.length ≤ 6) && !(List.range m.Parts.length).any fun i => !paB m i
theorem len0 (n : Nat) : ((n : Int) == 0) = (n == 0) := by
  rw [Bool.eq_iff_iff]; simp
theorem m116 {F : Nat} {x : TPart} (hF : 1000 ≤ F) : M116 F x = some (partB x) := by
  unfold M116 partB
  simp only [m115 hF, Option.bind_some, after_ite, after_brk, len0]
  generalize nameB x.Path = a
  generalize x.Ids.length = n
  by_cases h1 : (n : Int) ≤ 25
  · have h2 : n ≤ 25 := by omega
    simp only [h1, h2]
    grind
  · have h2 : ¬ n ≤ 25 := by omega
    simp only [h1, h2]
    grind

theorem m73 {F : Nat} {m : TManifest} (hF : 1000 ≤ F) : M73 F m = some (if manB m then 0 else 1) := by
  unfold M73 manB
  simp only [m115 hF, Option.bind_some, after_ite, after_brk, bind_ite']
  cases hn : nameB m.Name
  · simp
  · by_cases hl : 6 < (m.Parts.length : Int)
    · have : ¬ m.Parts.length ≤ 6 := by omega
      simp [hl, this]
    · have h6 : m.Parts.length ≤ 6 := by omega
      rw [loop_ff (s0 := (0 : Int)) (n := m.Parts.length) (F := F) (fun i : Nat => (i : Int)) (fun i => !paB m i) (fun _ => 1) (by omega) rfl, LF_all]
      · simp only [hl, h6]
        cases (List.range m.Parts.length).any fun i => !paB m i <;> simp [after]
      · intro i hi _
        unfold M73_L0 paB
        have hx : m.Parts[i]? = some m.Parts[i] := List.getElem?_eq_getElem hi
        generalize m.Parts[i] = x at hx
        rw [wr1 (by omega)]
        simp only [ix_nat, hx, m116 hF, Option.bind_some, after_ite, after_brk, after_ret, bind_ite', Int.ofNat_lt, hi, decide_true, if_true]
        by_cases h0 : i = 0
        · subst h0
          simp
          split <;> rfl
        · have h5 : m.Parts[i - 1]? = some m.Parts[i - 1] := List.getElem?_eq_getElem (by omega)
          generalize m.Parts[i - 1] = y at h5
          rw [wr_1 (by omega) (by omega)]
          simp only [ix_nat, h5, Option.bind_some, after_brk]
          rw [show (Op.bytesLess x.Path.toList y.Path.toList || x.Path.toList == y.Path.toList) = ordB x y from rfl]
          have h7 : (0 : Int) < i := by omega
          simp only [h7, decide_true, if_true, h0]
          cases partB x <;> cases ordB x y <;> simp [h0]
      · intro _; unfold M73_L0; simp
theorem m62 {F : Nat} {m : TManifest} (hF : 1000 ≤ F) (hm : m.Name.size ≤ 100) (hp : ∀ p ∈ m.Parts, p.Path.size ≤ 100) : M62 F m = some (manB m) := by
  unfold M62 manB
  simp only [m104 hF hm, Option.bind_some, after_ite, after_brk, bind_ite']
  cases hn : nameB m.Name
  · simp
  · by_cases hl : 6 < (m.Parts.length : Int)
    · have : ¬ m.Parts.length ≤ 6 := by omega
      simp [hl, this]
    · have h6 : m.Parts.length ≤ 6 := by omega
      rw [loop_ff (s0 := (0 : Int)) (n := m.Parts.length) (F := F) (fun i : Nat => (i : Int)) (fun i => !paB m i) (fun _ => false) (by omega) rfl, LF_all]
      · simp only [hl, h6]
        cases (List.range m.Parts.length).any fun i => !paB m i <;> simp [after]
      · intro i hi _
        unfold M62_L0 paB partB
        have hx : m.Parts[i]? = some m.Parts[i] := List.getElem?_eq_getElem hi
        have hpx := hp _ (List.mem_of_getElem? hx)
        generalize m.Parts[i] = x at hx hpx
        rw [wr1 (by omega)]
        simp only [ix_nat, hx, m104 hF hpx, Option.bind_some, after_ite, after_brk, after_ret, bind_ite', Int.ofNat_lt, hi, decide_true, if_true, len0]
        generalize nameB x.Path = a
        generalize x.Ids.length = n
        have hn : (25 < (n : Int)) = (25 < n) := by simp; omega
        simp only [hn]
        by_cases h0 : i = 0
        · subst h0
          simp
          grind
        · have h5 : m.Parts[i - 1]? = some m.Parts[i - 1] := List.getElem?_eq_getElem (by omega)
          generalize m.Parts[i - 1] = y at h5
          rw [wr_1 (by omega) (by omega)]
          simp only [ix_nat, h5, Option.bind_some, after_brk]
          rw [show (Op.bytesLess x.Path.toList y.Path.toList || x.Path.toList == y.Path.toList) = ordB x y from rfl]
          have h7 : (0 : Int) < i := by omega
          have h8 : (i == 0) = false := by simpa using h0
          simp only [h7, decide_true, if_true, h8, Bool.false_or]
          generalize ordB x y = o
          generalize ((n == 0) : Bool) = e0
          generalize (x.Size == 0 : Bool) = e1
          have e2 : decide (x.Size < 0) = !decide (0 ≤ x.Size) := by rw [← decide_not]; congr 1; simp
          have e3 : decide (200 < x.Size) = !decide (x.Size ≤ 200) := by rw [← decide_not]; congr 1; simp
          have e4 : decide (25 < n) = !decide (n ≤ 25) := by rw [← decide_not]; congr 1; simp
          rw [e2, e3, e4]
          generalize decide (0 ≤ x.Size) = f2
          generalize decide (x.Size ≤ 200) = f3
          generalize decide (n ≤ 25) = f4
          cases a <;> cases o <;> cases f2 <;> cases f3 <;> cases f4 <;> cases e0 <;> cases e1 <;> rfl
      · intro _; unfold M62_L0; simp
end Go.Proofs.Ytoomgangpjcaoaa
