/-
  Plain laws: looking things up; expiries.
-/
import Derived.Test.YtoomgangpjcaoaaK11PlE
set_option linter.unusedSimpArgs false
set_option linter.unusedVariables false
namespace Go.Proofs.Ytoomgangpjcaoaa
open Go.Vm

theorem idx_loop {α : Type} {l : List α} (q : α → Bool) {F : Nat} {body : Int → Option (Lp Int Int)} (hF : l.length < F)
    (hb : ∀ i : Nat, i < l.length → body (i : Int) = some (if (l[i]?).any q then .ret (i : Int) else .go ((i + 1 : Nat) : Int))) (he : body (l.length : Int) = some (.brk (l.length : Int))) :
    (after (loopM body F 0) fun _ => some (-1)).bind (fun y => some (decide (0 ≤ y))) = some (l.any q) := by
  rw [loop_ff (s0 := (0 : Int)) (n := l.length) (F := F) (fun i : Nat => (i : Int)) (fun i => (l[i]?).any q) (fun i => (i : Int)) hF rfl (fun i hi _ => hb i hi) (fun _ => he), ← range_any]
  unfold LF
  cases h : (List.range l.length).find? fun i => (l[i]?).any q with
  | none =>
    have : (List.range l.length).any (fun i => (l[i]?).any q) = false := by
      rw [List.any_eq_false]
      exact fun x hx => by simpa using List.find?_eq_none.1 h x hx
    simp [after, this]
  | some i =>
    have : (List.range l.length).any (fun i => (l[i]?).any q) = true := List.any_eq_true.2 ⟨i, List.mem_of_find?_eq_some h, List.find?_some (p := fun i => (l[i]?).any q) h⟩
    simp [after, this]

theorem m89 {F : Nat} {l : List TSnap} {f : TSnap → Option Bool} (q : TSnap → Bool) (hF : l.length < F) (hl : l.length < 1000) (hf : ∀ x ∈ l, f x = some (q x)) : M89 F l f = some (l.any q) := by
  unfold M89 M96
  refine idx_loop q hF (fun i hi => ?_) (by unfold M96_L0; simp)
  unfold M96_L0
  have hx : l[i]? = some l[i] := List.getElem?_eq_getElem hi
  rw [wr1 (by omega)]
  simp only [ix_nat, hx, hf _ (List.getElem_mem hi), Option.bind_some, Int.ofNat_lt, hi, decide_true, if_true, Option.any_some]
  split <;> rfl
theorem m91 {F : Nat} {l : List TPart} {f : TPart → Option Bool} (q : TPart → Bool) (hF : l.length < F) (hl : l.length < 1000) (hf : ∀ x ∈ l, f x = some (q x)) : M91 F l f = some (l.any q) := by
  unfold M91 M124
  refine idx_loop q hF (fun i hi => ?_) (by unfold M124_L0; simp)
  unfold M124_L0
  have hx : l[i]? = some l[i] := List.getElem?_eq_getElem hi
  rw [wr1 (by omega)]
  simp only [ix_nat, hx, hf _ (List.getElem_mem hi), Option.bind_some, Int.ofNat_lt, hi, decide_true, if_true, Option.any_some]
  split <;> rfl
theorem m94 {F : Nat} {l : List TLoc} {f : TLoc → Option Bool} (q : TLoc → Bool) (hF : l.length < F) (hl : l.length < 1000) (hf : ∀ x ∈ l, f x = some (q x)) : M94 F l f = some (l.any q) := by
  unfold M94 M119
  refine idx_loop q hF (fun i hi => ?_) (by unfold M119_L0; simp)
  unfold M119_L0
  have hx : l[i]? = some l[i] := List.getElem?_eq_getElem hi
  rw [wr1 (by omega)]
  simp only [ix_nat, hx, hf _ (List.getElem_mem hi), Option.bind_some, Int.ofNat_lt, hi, decide_true, if_true, Option.any_some]
  split <;> rfl
theorem m93 {F : Nat} {l : List Id32} {d : Id32} (hF : l.length < F) (hl : l.length < 1000) : M93 F l d = some (l.any fun x => decide (d = x)) := by
  unfold M93 M125
  refine idx_loop (fun x => decide (d = x)) hF (fun i hi => ?_) (by unfold M125_L0; simp)
  unfold M125_L0
  have hx : l[i]? = some l[i] := List.getElem?_eq_getElem hi
  rw [wr1 (by omega)]
  simp only [ix_nat, hx, Option.bind_some, Int.ofNat_lt, hi, decide_true, if_true, Option.any_some]
  split <;> rfl

/-- An id is used. -/
def usedB (c : TCatalog) (d : Id32) : Bool := c.Snaps.any fun s => s.Man.Parts.any fun p => p.Ids.any fun x => decide (d = x)
theorem m44 {F : Nat} {c : TCatalog} {d : Id32} (hF : 1000 ≤ F) (h : Sm c) : M44 F c d = some (usedB c d) := by
  have hs := h.sn
  unfold M44 usedB
  rw [m89 (fun s => s.Man.Parts.any fun p => p.Ids.any fun x => decide (d = x)) (by omega) (by omega)]
  · rfl
  · intro s hs'
    obtain ⟨h1, h2, h3⟩ := h.man s hs'
    unfold M90
    rw [m91 (fun p => p.Ids.any fun x => decide (d = x)) (by omega) (by omega)]
    · rfl
    · intro p hp
      unfold M92
      rw [m93 (by have := (h3 p hp).2; omega) (by have := (h3 p hp).2; omega)]
      rfl

def exA (c : TCatalog) (i : Nat) : Bool := match c.Exps[i]? with
  | none => true
  | some x => inR x.Seq 0 (c.Seq - 1) && (i == 0 || (match c.Exps[i - 1]? with | none => true | some y => decide (y.Seq < x.Seq))) && inR x.Of 0 (x.Seq - 1) && !(x.Locs.length == 0) && locsB c x.Locs
def exC (c : TCatalog) (i : Nat) : Bool := match c.Exps[i]? with
  | none => true
  | some x => !c.Snaps.any fun s => s.Seq == x.Of
def exsB (c : TCatalog) : Bool := !(List.range c.Exps.length).any fun i => !(exA c i && exC c i)
theorem m19_L11 {F : Nat} {c : TCatalog} (hF : 1000 ≤ F) (h : Sm c) {i : Nat} (hi : i < c.Exps.length) :
    M19_L11 F c i = some (if !exA c i then .ret false else .go ((i + 1 : Nat) : Int)) := by
  have hc := h.ex
  have hv := h.vo
  unfold M19_L11 exA inR
  have hx : c.Exps[i]? = some c.Exps[i] := List.getElem?_eq_getElem hi
  generalize c.Exps[i] = x at hx
  rw [wr1 (by omega)]
  simp only [ix_nat, hx, m59, m61 hF (show c.Vols.length < 1000 by omega), Option.bind_some, after_ite, after_brk, after_ret, bind_ite', Int.ofNat_lt, hi, decide_true, if_true, len0]
  generalize (x.Locs.length == 0) = nl
  generalize locsB c x.Locs = lb
  have e1 : decide (x.Seq < 0) = !decide (0 ≤ x.Seq) := by rw [← decide_not]; congr 1; simp
  have e2 : decide (c.Seq ≤ x.Seq) = !decide (x.Seq ≤ c.Seq - 1) := by rw [← decide_not]; congr 1; simp; omega
  have e3 : decide (x.Of < 0) = !decide (0 ≤ x.Of) := by rw [← decide_not]; congr 1; simp
  have e5 : decide (x.Seq ≤ x.Of) = !decide (x.Of ≤ x.Seq - 1) := by rw [← decide_not]; congr 1; simp; omega
  rw [e1, e2, e3, e5]
  generalize decide (0 ≤ x.Seq) = d1
  generalize decide (x.Seq ≤ c.Seq - 1) = d2
  generalize decide (0 ≤ x.Of) = d3
  generalize decide (x.Of ≤ x.Seq - 1) = d5
  by_cases h0 : i = 0
  · subst h0
    cases nl <;> cases lb <;> cases d1 <;> cases d2 <;> cases d3 <;> cases d5 <;> simp
  · have h5 : c.Exps[i - 1]? = some c.Exps[i - 1] := List.getElem?_eq_getElem (by omega)
    generalize c.Exps[i - 1] = y at h5
    rw [wr_1 (by omega) (by omega)]
    have h7 : (0 : Int) < i := by omega
    have h8 : (i == 0) = false := by simpa using h0
    have e4 : decide (x.Seq ≤ y.Seq) = !decide (y.Seq < x.Seq) := by rw [← decide_not]; congr 1; simp
    simp only [ix_nat, h5, h7, h8, e4, Option.bind_some, decide_true, if_true, Bool.false_or]
    generalize decide (y.Seq < x.Seq) = od
    cases nl <;> cases lb <;> cases d1 <;> cases d2 <;> cases d3 <;> cases d5 <;> cases od <;> simp [after_ite, after_brk]
end Go.Proofs.Ytoomgangpjcaoaa
