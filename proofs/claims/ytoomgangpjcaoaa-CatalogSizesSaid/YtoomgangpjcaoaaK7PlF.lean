/-
  Plain laws: looking things up; expiries.
-/
import Derived.Test.YtoomgangpjcaoaaK7PlE
set_option linter.unusedSimpArgs false
set_option linter.unusedVariables false
namespace Go.Proofs.Ytoomgangpjcaoaa
open Go.Vm

theorem idx_loop {α : Type} {l : List α} (q : α → Bool) {F : Nat} {body : Int → Option (Lp Int Int)} (hF : l.length < F)
    (hb : ∀ i : Nat, i < l.length → body (i : Int) = some (if (l[i]?).any q then .ret (i : Int) else .go ((i + 1 : Nat) : Int))) (he : body (l.length : Int) = some (.brk (l.length : Int))) :
    (after (loopM body F 0) fun _ => some (-1)).bind (fun y => some (decide (0 ≤ y))) = some (l.any q) := by
  rw [loop_ff (s0 := (0 : Int)) (n := l.length) (F := F) (fun i : Nat => (i : Int)) (fun i => (l[i]?).any q) (fun i => (i : Int)) hF rfl (fun i hi _ => hb i hi) (fun _ => he), ← range_any]
  unfold LF
  cases h : (List.range l.length).find? fun i => (l[i]?).any q with
  | none =>
    have : (List.range l.length).any (fun i => (l[i]?).any q) = false := by
      rw [List.any_eq_false]
      exact fun x hx => by simpa using List.find?_eq_none.1 h x hx
    simp [after, this]
  | some i =>
    have : (List.range l.length).any (fun i => (l[i]?).any q) = true := List.any_eq_true.2 ⟨i, List.mem_of_find?_eq_some h, List.find?_some (p := fun i => (l[i]?).any q) h⟩
    simp [after, this]

theorem m89 {F : Nat} {l : List TSnap} {f : TSnap → Option Bool} (q : TSnap → Bool) (hF : l.length < F) (hl : l.length < 1000) (hf : ∀ x ∈ l, f x = some (q x)) : M89 F l f = some (l.any q) := by
  unfold M89 M96
  refine idx_loop q hF (fun i hi => ?_) (by unfold M96_L0; simp)
  unfold M96_L0
  have hx : l[i]? = some l[i] := List.getElem?_eq_getElem hi
  rw [wr1 (by omega)]
  simp only [ix_nat, hx, hf _ (List.getElem_mem hi), Option.bind_some, Int.ofNat_lt, hi, decide_true, if_true, Option.any_some]
  split <;> rfl
/-- An id is used. -/
def usedB (c : TCatalog) (d : Id32) : Bool := c.Snaps.any fun s => s.Man.Parts.any fun p => p.Ids.any fun x => decide (d = x)
def exA (c : TCatalog) (i : Nat) : Bool := match c.Exps[i]? with
  | none => true
  | some x => inR x.Seq 0 (c.Seq - 1) && (i == 0 || (match c.Exps[i - 1]? with | none => true | some y => decide (y.Seq < x.Seq))) && inR x.Of 0 (x.Seq - 1) && !(x.Locs.length == 0) && locsB c x.Locs
def exC (c : TCatalog) (i : Nat) : Bool := match c.Exps[i]? with
  | none => true
  | some x => !c.Snaps.any fun s => s.Seq == x.Of
theorem gex {c : TCatalog} (h : Sm c) {i : Nat} {x : TExp} (hx : c.Exps[i]? = some x) : gI x.Seq ∧ gI x.Of := by
  have := h.g.2.2.2.1 x (List.mem_of_getElem? hx)
  exact ⟨this.1, this.2.1⟩
theorem m72_L0 {F : Nat} {c : TCatalog} (hF : 1000 ≤ F) (h : Sm c) (hq : inR c.Seq 0 1073741824 = true) {i : Nat} (hi : i < c.Exps.length) :
    M72_L0 F c i = some (if !(exA c i && exC c i) then .ret false else .go ((i + 1 : Nat) : Int)) := by
  have hc := h.ex
  have hv := h.vo
  have hsn := h.sn
  unfold M72_L0 exA exC
  have hx : c.Exps[i]? = some c.Exps[i] := List.getElem?_eq_getElem hi
  generalize c.Exps[i] = x at hx
  have gx := gex h hx
  have hq' : 0 ≤ c.Seq ∧ c.Seq ≤ 1073741824 := by simpa [inR] using hq
  rw [wr1 (by omega), wr (n := c.Seq - 1) (by omega) (by omega)]
  have hm : M89 F c.Snaps (fun x0 => M114 F x0 x) = some (c.Snaps.any fun s => s.Seq == x.Of) := m89 (fun s => s.Seq == x.Of) (by omega) (by omega) (fun s _ => rfl)
  simp only [ix_nat, hx, hm, m68, m112 hF (show c.Vols.length < 1000 by omega), Option.bind_some, after_ite, after_brk, after_ret, bind_ite', Int.ofNat_lt, hi, decide_true, if_true, len0]
  generalize (x.Locs.length == 0) = nl
  generalize locsB c x.Locs = lb
  generalize (c.Snaps.any fun s => s.Seq == x.Of) = an
  cases h1 : inR x.Seq 0 (c.Seq - 1)
  · simp
  · have h1' : 0 ≤ x.Seq ∧ x.Seq ≤ c.Seq - 1 := by simpa [inR] using h1
    rw [wr (n := x.Seq - 1) (by omega) (by omega)]
    generalize inR x.Of 0 (x.Seq - 1) = ob
    by_cases h0 : i = 0
    · subst h0
      cases nl <;> cases lb <;> cases an <;> cases ob <;> simp
    · have h5 : c.Exps[i - 1]? = some c.Exps[i - 1] := List.getElem?_eq_getElem (by omega)
      generalize c.Exps[i - 1] = y at h5
      rw [wr_1 (by omega) (by omega)]
      have h7 : (0 : Int) < i := by omega
      have h8 : (i == 0) = false := by simpa using h0
      have e4 : decide (x.Seq ≤ y.Seq) = !decide (y.Seq < x.Seq) := by rw [← decide_not]; congr 1; simp
      simp only [ix_nat, h5, h7, h8, e4, Option.bind_some, decide_true, if_true, Bool.false_or]
      generalize decide (y.Seq < x.Seq) = od
      cases nl <;> cases lb <;> cases an <;> cases ob <;> cases od <;> simp [after_ite, after_brk]
def exsB (c : TCatalog) : Bool := !(List.range c.Exps.length).any fun i => !(exA c i && exC c i)
theorem m72 {F : Nat} {c : TCatalog} (hF : 1000 ≤ F) (h : Sm c) (hq : inR c.Seq 0 1073741824 = true) : M72 F c = some (exsB c && decide (c.Exps.length ≤ 200)) := by
  have hc := h.ex
  unfold M72 exsB
  rw [loop_ff (s0 := (0 : Int)) (n := c.Exps.length) (F := F) (fun i : Nat => (i : Int)) (fun i => !(exA c i && exC c i)) (fun _ => false) (by omega) rfl, LF_all]
  · cases (List.range c.Exps.length).any fun i => !(exA c i && exC c i) <;> simp [after]; omega
  · exact fun i hi _ => m72_L0 hF h hq hi
  · intro _; unfold M72_L0; simp
theorem m19_L11 {F : Nat} {c : TCatalog} (hF : 1000 ≤ F) (h : Sm c) {i : Nat} (hi : i < c.Exps.length) :
    M19_L11 F c i = some (if !exA c i then .ret false else .go ((i + 1 : Nat) : Int)) := by
  have hc := h.ex
  have hv := h.vo
  unfold M19_L11 exA inR
  have hx : c.Exps[i]? = some c.Exps[i] := List.getElem?_eq_getElem hi
  generalize c.Exps[i] = x at hx
  rw [wr1 (by omega)]
  simp only [ix_nat, hx, m59, m61 hF (show c.Vols.length < 1000 by omega), Option.bind_some, after_ite, after_brk, after_ret, bind_ite', Int.ofNat_lt, hi, decide_true, if_true, len0]
  generalize (x.Locs.length == 0) = nl
  generalize locsB c x.Locs = lb
  have e1 : decide (x.Seq < 0) = !decide (0 ≤ x.Seq) := by rw [← decide_not]; congr 1; simp
  have e2 : decide (c.Seq ≤ x.Seq) = !decide (x.Seq ≤ c.Seq - 1) := by rw [← decide_not]; congr 1; simp; omega
  have e3 : decide (x.Of < 0) = !decide (0 ≤ x.Of) := by rw [← decide_not]; congr 1; simp
  have e5 : decide (x.Seq ≤ x.Of) = !decide (x.Of ≤ x.Seq - 1) := by rw [← decide_not]; congr 1; simp; omega
  rw [e1, e2, e3, e5]
  generalize decide (0 ≤ x.Seq) = d1
  generalize decide (x.Seq ≤ c.Seq - 1) = d2
  generalize decide (0 ≤ x.Of) = d3
  generalize decide (x.Of ≤ x.Seq - 1) = d5
  by_cases h0 : i = 0
  · subst h0
    cases nl <;> cases lb <;> cases d1 <;> cases d2 <;> cases d3 <;> cases d5 <;> simp
  · have h5 : c.Exps[i - 1]? = some c.Exps[i - 1] := List.getElem?_eq_getElem (by omega)
    generalize c.Exps[i - 1] = y at h5
    rw [wr_1 (by omega) (by omega)]
    have h7 : (0 : Int) < i := by omega
    have h8 : (i == 0) = false := by simpa using h0
    have e4 : decide (x.Seq ≤ y.Seq) = !decide (y.Seq < x.Seq) := by rw [← decide_not]; congr 1; simp
    simp only [ix_nat, h5, h7, h8, e4, Option.bind_some, decide_true, if_true, Bool.false_or]
    generalize decide (y.Seq < x.Seq) = od
    cases nl <;> cases lb <;> cases d1 <;> cases d2 <;> cases d3 <;> cases d5 <;> cases od <;> simp [after_ite, after_brk]
end Go.Proofs.Ytoomgangpjcaoaa
