import Derived.Test.YtbbifdfldpfphaaGreatK3P4
import Derived.Test.YtbbifdfldpfphaaGreatK3P3
import Derived.Laws.Externs
set_option linter.unusedSimpArgs false
set_option linter.unusedVariables false
set_option maxHeartbeats 4000000
set_option maxRecDepth 100000
namespace Go.Proofs.YtbbifdfldpfphaaGreat
open Go.Vm
def VA (v : Int) (l : List bI) : Bool := l.any fun y => y.Vol == v
def ZP (x : aA) : bQ := { Kind := 1, Id := x.Id, Seq := 0, Of := 0, Off := 0, Len := 0 }
def ZQ (x : aE) : bQ := { Kind := 2, Id := iY, Seq := x.Seq, Of := 0, Off := 0, Len := 0 }
def ZR (x : aI) : bQ := { Kind := 3, Id := iY, Seq := x.Seq, Of := x.Of, Off := 0, Len := 0 }
def ZS (c : aB) (v : Int) : List bQ := (c.Chunks.filter fun x => VA v x.Locs).map ZP ++ (c.Snaps.filter fun x => VA v x.Locs).map ZQ ++ (c.Exps.filter fun x => VA v x.Locs).map ZR
def ZT (c : aB) (v : Int) : Nat := ((ZS c v).filter fun x => x.Kind != 1 || wD c x.Id).length
theorem ET {c : aB} (hg : iO c = true) : (∀ x ∈ c.Chunks, gR c x.Locs = true) ∧ (∀ x ∈ c.Snaps, gR c x.Locs = true) ∧ (∀ x ∈ c.Exps, gR c x.Locs = true) := by
 unfold iO qS xY u7 at hg
 simp only [Bool.and_eq_true, Bool.not_eq_true', List.any_eq_false, List.mem_range] at hg
 obtain ⟨⟨⟨⟨-, -⟩, h1, -⟩, h2, -⟩, h3, -⟩ := hg
 refine ⟨fun x hx => ?_, fun x hx => ?_, fun x hx => ?_⟩
 ·obtain ⟨i, hi, rfl⟩ := List.getElem_of_mem hx
  have this : DL c i = true := by simpa using h1 i hi
  unfold DL at this
  rw [List.getElem?_eq_getElem hi] at this
  simp only [Bool.and_eq_true] at this
  exact this.1.2
 ·obtain ⟨i, hi, rfl⟩ := List.getElem_of_mem hx
  have this : zI c i = true ∧ BH c i = true := by simpa using h2 i hi
  replace this := this.1
  unfold zI at this
  rw [List.getElem?_eq_getElem hi] at this
  simp only [Bool.and_eq_true] at this
  exact this.2
 ·obtain ⟨i, hi, rfl⟩ := List.getElem_of_mem hx
  have this : uN c i = true ∧ ES c i = true := by simpa using h3 i hi
  replace this := this.1
  unfold uN at this
  rw [List.getElem?_eq_getElem hi] at this
  simp only [Bool.and_eq_true] at this
  exact this.2
theorem XZ {F : Nat} {c : aB} {d : bP} (hF : 1000 ≤ F) (h : Sm c) : OH F c d = some (wD c d) := by
 have hsn := h.sn
 unfold OH
 rw [nD (l := c.Snaps) (F := F) (fun s => s.Man.Parts.any fun p => p.Ids.any fun x => decide (d = x)) true (by omega) (fun i s hs hm hi => by
  obtain ⟨-, k2, k3⟩ := h.man s hm
  unfold tV
  rw [iW (by omega), nD (l := s.Man.Parts) (F := F) (fun p => p.Ids.any fun x => decide (d = x)) (Lp.ret true) (by omega) (fun j p hp hm' hj => by
   have k4 := (k3 p hm').2
   unfold tU
   rw [iW (by omega), nD (l := p.Ids) (F := F) (fun x => decide (d = x)) (Lp.ret (Lp.ret true)) (by omega) (fun k x hx _ hk => by
    unfold tT
    rw [iW (by omega)]
    simp only [bT, hs, hp, hx, Option.bind_some, Int.ofNat_lt, hk, decide_true, if_true, decide_eq_true_eq, eq_comm (a := x)]
    split <;> rfl) (by unfold tT; simp [bT, hs, hp])]
   simp only [bT, hs, Option.bind_some, Int.ofNat_lt, hj, decide_true, if_true]
   cases p.Ids.any fun x => decide (d = x) <;> rfl) (by unfold tU; simp [bT, hs])]
  simp only [Int.ofNat_lt, hi, decide_true, if_true]
  cases s.Man.Parts.any fun p => p.Ids.any fun x => decide (d = x) <;> rfl) (by unfold tV; simp)]
 unfold wD
 cases c.Snaps.any fun s => s.Man.Parts.any fun p => p.Ids.any fun x => decide (d = x) <;> rfl
open Go.Vm
def LD (c : aB) (p need : Int) (r : List Int) (nt st : Int) (i : Nat) : Bool := match c.Vols[i]?, r[i]? with
 | some x, some z => x.Pool == p && (i : Int) != nt && x.State == st && decide (need ≤ z)
 | _, _ => false
open Go.Vm
def vB {α : Type} (l : List α) (q : α → Bool) : Int := match (List.range l.length).find? fun i => (l[i]?).any q with
 | none => -1
 | some i => (i : Int)
theorem nQ {α : Type} {l : List α} (q : α → Bool) {F : Nat} {body : Int → Option (Lp Int Int)} (hF : l.length < F)
    (hb : ∀ (i : Nat) (x : α), l[i]? = some x → x ∈ l → i < l.length → body (i : Int) = some (if q x then .ret (i : Int) else .go ((i + 1 : Nat) : Int))) (he : body (l.length : Int) = some (.brk (l.length : Int))) :
    (after (aY body F 0) fun _ => some (-1)) = some (vB l q) := by
  rw [eQ (s0 := (0 : Int)) (n := l.length) (F := F) (fun i : Nat => (i : Int)) (fun i => (l[i]?).any q) (fun i => (i : Int)) hF rfl (fun i hi _ => by
    rw [hb i l[i] (List.getElem?_eq_getElem hi) (List.getElem_mem hi) hi, List.getElem?_eq_getElem hi]; rfl) (fun _ => he)]
  unfold LF vB
  cases (List.range l.length).find? fun i => (l[i]?).any q <;> rfl
theorem VB {F : Nat} {c : aB} {nm : ByteArray} (hF : 1000 ≤ F) (hl : c.Snaps.length < 1000) : u6 F c nm = some (vB c.Snaps fun s => s.Man.Name.toList == nm.toList) := by
 unfold u6
 refine nQ _ (by omega) (fun i x hx hm hi => ?_) (by unfold mC; simp)
 unfold mC
 rw [iW (by omega)]
 simp only [bT, hx, Option.bind_some, Int.ofNat_lt, hi, decide_true, if_true]
 cases x.Man.Name.toList == nm.toList <;> simp
def lN (l : List Int) : aB := { Seq := 0, Snaps := [], Chunks := [], Exps := [], Vols := l.map fun p => { Pool := p, Epoch := 0, State := 1, Files := 0 } }
theorem ZU {F : Nat} {l : List Int} (hF : 1000 ≤ F) (hl : l.length ≤ 100) : QV F l = some (lN l) := by
  unfold QV
  rw [nO (s0 := (([] : List aK), (0 : Int))) (n := l.length) (F := F) (fun i : Nat => ((l.take i).map fun p => ({ Pool := p, Epoch := 0, State := 1, Files := 0 } : aK), (i : Int))) (by omega) (by simp) (fun i hi => by
      unfold tQ
      have hx : l[i]? = some l[i] := List.getElem?_eq_getElem hi
      rw [iW (by omega)]
      simp only [bT, hx, Option.bind_some, Int.ofNat_lt, hi, decide_true, if_true]
      rw [dR (by simp; omega), List.take_succ_eq_append_getElem hi, List.map_append]; rfl) (by unfold tQ; simp)]
  simp [lN, after]
def AY (p : Int) : Bool := gJ p 0 1
theorem JL {l : List Int} (hl : l.length ≤ 8) (hg : gL gI l) : Sm (lN l) where
 g := by
  refine ⟨by simp [lN, gI], fun _ h => by simp [lN] at h, fun _ h => by simp [lN] at h, fun _ h => by simp [lN] at h, fun x hx => ?_⟩
  obtain ⟨p, hp, rfl⟩ := List.mem_map.1 hx
  exact ⟨hg p hp, by simp [gI], by simp [gI], by simp [gI]⟩
 sn := by simp [lN]
 ch := by simp [lN]
 ex := by simp [lN]
 vo := by simp [lN]; omega
 sl := by simp [lN]
 man := by simp [lN]
 cl := by simp [lN]
 el := by simp [lN]
theorem EU {l : List Int} (hl : gJ l.length 1 8 = true) (hp : l.all AY = true) : iO (lN l) = true := by
 have h1 : (lN l).Vols.all mR = true := by
  rw [List.all_eq_true]
  intro x hx
  obtain ⟨p, hq, rfl⟩ := List.mem_map.1 hx
  have := List.all_eq_true.1 hp p hq
  simp only [AY, gJ, Bool.and_eq_true, decide_eq_true_eq] at this
  simp [mR, gJ, this.1, this.2]
 have h2 : (lN l).Vols.length = l.length := by simp [lN]
 unfold iO
 rw [h1, h2, hl]
 simp [lN, qS, xY, u7, gJ]
theorem M4 {c : aB} (hg : iO c = true) {i : Nat} {s : aE} (hs : c.Snaps[i]? = some s) : zI c i = true ∧ E6 c s.Man = true := by
 unfold iO xY at hg
 simp only [Bool.and_eq_true, Bool.not_eq_true', List.any_eq_false, List.mem_range] at hg
 obtain ⟨⟨⟨⟨-, -⟩, -, -⟩, h2, -⟩, -, -⟩ := hg
 have h := h2 i (List.getElem?_eq_some_iff.1 hs).1
 have h : zI c i = true ∧ BH c i = true := by simpa using h
 refine ⟨h.1, ?_⟩
 have := h.2
 unfold BH at this
 rw [hs] at this
 exact this
theorem M5 {c : aB} (hg : iO c = true) {i : Nat} {x : aA} (hs : c.Chunks[i]? = some x) : DL c i = true := by
 unfold iO qS at hg
 simp only [Bool.and_eq_true, Bool.not_eq_true', List.any_eq_false, List.mem_range] at hg
 obtain ⟨⟨⟨⟨-, -⟩, h1, -⟩, -, -⟩, -, -⟩ := hg
 have h := h1 i (List.getElem?_eq_some_iff.1 hs).1
 simpa using h
open Go.Vm
structure YA (c : aB) : Prop where
 seq : 0 ≤ c.Seq ∧ c.Seq ≤ 1073741824
 sn : c.Snaps.length ≤ 8
 ch : c.Chunks.length ≤ 200
 ex : c.Exps.length ≤ 200
 vo : c.Vols.length ≤ 8
 s : ∀ s ∈ c.Snaps, 0 ≤ s.Seq ∧ s.Seq < c.Seq ∧ qT s.Man = true ∧ gR c s.Locs = true
 k : ∀ x ∈ c.Chunks, x.Data.length ≤ 64 ∧ gR c x.Locs = true
 e : ∀ x ∈ c.Exps, 0 ≤ x.Seq ∧ x.Seq < c.Seq ∧ 0 ≤ x.Of ∧ x.Of < c.Seq ∧ gR c x.Locs = true
 v : ∀ x ∈ c.Vols, 0 ≤ x.Pool ∧ x.Pool ≤ 1 ∧ 0 ≤ x.Epoch ∧ x.Epoch ≤ 1048576 ∧ 1 ≤ x.State ∧ x.State ≤ 3 ∧ 0 ≤ x.Files ∧ x.Files ≤ 65535
theorem YB {c : aB} (hg : iO c = true) : YA c := by
 obtain ⟨q1, q2, q3⟩ := ET hg
 have hg0 := hg
 unfold iO at hg0
 simp only [Bool.and_eq_true, gJ, decide_eq_true_eq] at hg0
 obtain ⟨⟨⟨⟨g1, g2, g3⟩, g4, g5⟩, g6, g7⟩, g8, g9⟩ := hg0
 refine ⟨g1, g7, g5, g9, by omega, fun s hs => ?_, fun x hx => ⟨?_, q1 x hx⟩, fun x hx => ?_, fun x hx => ?_⟩
 ·obtain ⟨i, hi, rfl⟩ := List.getElem_of_mem hs
  have := (M4 hg (List.getElem?_eq_getElem hi)).1
  unfold zI at this
  rw [List.getElem?_eq_getElem hi] at this
  simp only [Bool.and_eq_true, gJ, decide_eq_true_eq] at this
  obtain ⟨⟨⟨⟨h1, h2⟩, h3⟩, h4⟩, h5⟩ := this
  exact ⟨h1.1, by omega, h4, h5⟩
 ·obtain ⟨i, hi, rfl⟩ := List.getElem_of_mem hx
  have := M5 hg (List.getElem?_eq_getElem hi)
  unfold DL at this
  rw [List.getElem?_eq_getElem hi] at this
  simp only [Bool.and_eq_true] at this
  have := this.2
  split at this
  ·simp only [gJ, Bool.and_eq_true, decide_eq_true_eq] at this; omega
  ·simp only [Bool.and_eq_true, Bool.not_eq_true', decide_eq_false_iff_not] at this; omega
 ·obtain ⟨i, hi, rfl⟩ := List.getElem_of_mem hx
  unfold u7 at g8
  simp only [Bool.not_eq_true', List.any_eq_false, List.mem_range] at g8
  have := g8 i hi
  have this : uN c i = true ∧ ES c i = true := by simpa using this
  have := this.1
  unfold uN at this
  rw [List.getElem?_eq_getElem hi] at this
  simp only [Bool.and_eq_true, gJ, decide_eq_true_eq] at this
  obtain ⟨⟨⟨⟨h1, h2⟩, h3⟩, h4⟩, h5⟩ := this
  exact ⟨h1.1, by omega, h3.1, by omega, h5⟩
 ·have hb := List.all_eq_true.1 g2 x hx
  unfold mR gJ at hb
  simp only [Bool.and_eq_true, Bool.or_eq_true, decide_eq_true_eq, beq_iff_eq] at hb
  omega
theorem i1 : ((1 : Nat) : Int) = 1 := rfl
theorem i2 : ((2 : Nat) : Int) = 2 := rfl
theorem i4 : ((4 : Nat) : Int) = 4 := rfl
open Go.Vm
theorem G4 {α : Type} {R : α → α → Prop} (tr : ∀ a b c, R a b → R b c → R a c) : ∀ {l : List α}, (∀ (i : Nat) (x y : α), l[i]? = some y → l[i + 1]? = some x → R y x) → l.Pairwise R
 | [], _ => .nil
 | [a], _ => List.pairwise_singleton _ _
 | a :: b :: t, h => by
  have ih : (b :: t).Pairwise R := G4 tr fun i x y h1 h2 => h (i + 1) x y (by simpa using h1) (by simpa using h2)
  have ab : R a b := h 0 b a rfl rfl
  refine List.pairwise_cons.2 ⟨fun z hz => ?_, ih⟩
  rcases List.mem_cons.1 hz with rfl | hz
  ·exact ab
  ·exact tr _ _ _ ab ((List.pairwise_cons.1 ih).1 z hz)
theorem M6 {α : Type} {R : α → α → Prop} {l : List α} (h : l.Pairwise R) {i : Nat} {x y : α} (hy : l[i]? = some y) (hx : l[i + 1]? = some x) : R y x := by
 obtain ⟨h1, e1⟩ := List.getElem?_eq_some_iff.1 hy
 obtain ⟨h2, e2⟩ := List.getElem?_eq_some_iff.1 hx
 have := List.pairwise_iff_getElem.1 h i (i + 1) h1 h2 (by omega)
 rwa [e1, e2] at this
theorem nE {α : Type} {q : α → α → Bool} (tr : ∀ a b c, q b a = true → q c b = true → q c a = true) (l : List α) :
    (∀ (i : Nat) (x : α), l[i]? = some x → (i == 0 || ((l[i - 1]?).all (q x))) = true) ↔ l.Pairwise fun y x => q x y = true := by
  constructor
  · intro h
    refine G4 (fun a b c h1 h2 => tr a b c h1 h2) fun i x y hy hx => ?_
    have := h (i + 1) x hx
    simpa [hy] using this
  · intro h i x hx
    cases i with
    | zero => rfl
    | succ i =>
      obtain ⟨h1, e1⟩ := List.getElem?_eq_some_iff.1 hx
      have hy : l[i]? = some l[i] := List.getElem?_eq_getElem (by omega)
      have := M6 h hy hx
      simp [hy, this]
theorem JM (a b : bI) : tN a b = true ↔ b.Vol < a.Vol ∨ (a.Vol = b.Vol ∧ (b.File < a.File ∨ (a.File = b.File ∧ b.Off < a.Off))) := by
 unfold tN
 by_cases e1 : a.Vol = b.Vol <;> by_cases f1 : a.File = b.File <;> simp [e1, f1]
theorem G5 (a b c : bI) (h1 : tN b a = true) (h2 : tN c b = true) : tN c a = true := by
 rw [JM] at *
 omega
def AZ (vs : List aK) (x : bI) : Bool := gJ x.Vol 0 ((vs.length : Int) - 1) && (match vs[x.Vol.toNat]? with | none => false | some v => v.State == 2 && gJ x.File 1 v.Files) && gJ x.Off 0 16777215 && gJ x.Len 13 8013
structure Lk (vs : List aK) (l : List bI) : Prop where
 n : l.length ≤ 200
 a : ∀ x ∈ l, AZ vs x = true
 o : l.Pairwise fun y x => tN x y = true
theorem kN {α : Type} {l : List α} {P : α → Prop} : (∀ x ∈ l, P x) ↔ ∀ (i : Nat) (x : α), l[i]? = some x → P x := by
 constructor
 ·exact fun h i x hx => h x (List.mem_of_getElem? hx)
 ·intro h x hx
  obtain ⟨i, hi, rfl⟩ := List.getElem_of_mem hx
  exact h i _ (List.getElem?_eq_getElem hi)
theorem mE {α : Type} {l : List α} {q : Nat → Bool} {P : Nat → α → Prop} (h : ∀ (i : Nat) (x : α), l[i]? = some x → (q i = true ↔ P i x)) : (!(List.range l.length).any fun i => !q i) = true ↔ ∀ (i : Nat) (x : α), l[i]? = some x → P i x := by
 simp only [Bool.not_eq_true', List.any_eq_false, List.mem_range, Bool.not_eq_true, Bool.not_eq_false']
 constructor
 ·intro k i x hx
  exact (h i x hx).1 (by simpa using k i (List.getElem?_eq_some_iff.1 hx).1)
 ·intro k i hi
  have := (h i _ (List.getElem?_eq_getElem hi)).2 (k i _ (List.getElem?_eq_getElem hi))
  simpa using this
theorem lO {c : aB} {l : List bI} : gR c l = true ↔ Lk c.Vols l := by
 unfold gR
 rw [Bool.and_eq_true, mE (P := fun i x => AZ c.Vols x = true ∧ (i == 0 || ((l[i - 1]?).all (tN x))) = true) (fun i x hx => by
  unfold ER AZ
  rw [hx]
  cases l[i - 1]? <;> simp only [Bool.and_eq_true, Option.all_none, Option.all_some] <;> exact Iff.rfl)]
 constructor
 ·rintro ⟨h1, h2⟩
  exact ⟨of_decide_eq_true h1, kN.2 fun i x hx => (h2 i x hx).1, (nE G5 l).1 fun i x hx => (h2 i x hx).2⟩
 ·intro h
  exact ⟨decide_eq_true h.n, fun i x hx => ⟨h.a x (List.mem_of_getElem? hx), (nE G5 l).2 h.o i x hx⟩⟩
structure Gd (c : aB) : Prop where
 q : gJ c.Seq 0 1073741824 = true
 v : ∀ v ∈ c.Vols, mR v = true
 vn : gJ c.Vols.length 1 8 = true
 cn : c.Chunks.length ≤ 200
 co : c.Chunks.Pairwise fun y x => ky y.Id < ky x.Id
 cl : ∀ x ∈ c.Chunks, Lk c.Vols x.Locs
 cs : ∀ x ∈ c.Chunks, if x.Staged = true then gJ x.Data.length 1 64 = true else x.Data = [] ∧ x.Locs ≠ []
 sn : c.Snaps.length ≤ 8
 so : c.Snaps.Pairwise fun y x => y.Seq < x.Seq
 sq : ∀ s ∈ c.Snaps, gJ s.Seq 0 (c.Seq - 1) = true
 sm : c.Snaps.Pairwise fun y x => (x.Man.Name == y.Man.Name) = false
 sb : ∀ s ∈ c.Snaps, qT s.Man = true
 sl : ∀ s ∈ c.Snaps, Lk c.Vols s.Locs
 sp : ∀ s ∈ c.Snaps, E6 c s.Man = true
 en : c.Exps.length ≤ 200
 eo : c.Exps.Pairwise fun y x => y.Seq < x.Seq
 eq : ∀ x ∈ c.Exps, gJ x.Seq 0 (c.Seq - 1) = true ∧ gJ x.Of 0 (x.Seq - 1) = true
 el : ∀ x ∈ c.Exps, Lk c.Vols x.Locs
 ee : ∀ x ∈ c.Exps, x.Locs ≠ []
 ex : ∀ x ∈ c.Exps, ∀ s ∈ c.Snaps, s.Seq ≠ x.Of
theorem DN {β : Type} {f : β → β → Bool} (l : List β) : (∀ (i : Nat) (x : β), l[i]? = some x → (!((l.take i).any fun y => f x y)) = true) ↔ l.Pairwise fun y x => f x y = false := by
 rw [List.pairwise_iff_getElem]
 constructor
 ·intro h i j hi hj hij
  have := h j _ (List.getElem?_eq_getElem hj)
  simp only [Bool.not_eq_true', List.any_eq_false, Bool.not_eq_true] at this
  exact this l[i] (List.mem_of_getElem? (i := i) (by rw [List.getElem?_take_of_lt hij]; exact List.getElem?_eq_getElem hi))
 ·intro h j x hx
  obtain ⟨hj, rfl⟩ := List.getElem?_eq_some_iff.1 hx
  simp only [Bool.not_eq_true', List.any_eq_false, Bool.not_eq_true]
  intro y hy
  obtain ⟨i, hi, rfl⟩ := List.getElem_of_mem hy
  simp only [List.length_take] at hi
  rw [List.getElem_take]
  exact h i j (by omega) hj (by omega)
theorem pO {c : aB} : iO c = true ↔ Gd c := by
  have trS : ∀ a b d : aE, decide (a.Seq < b.Seq) = true → decide (b.Seq < d.Seq) = true → decide (a.Seq < d.Seq) = true := fun a b d h1 h2 => decide_eq_true (by have := of_decide_eq_true h1; have := of_decide_eq_true h2; omega)
  have trE : ∀ a b d : aI, decide (a.Seq < b.Seq) = true → decide (b.Seq < d.Seq) = true → decide (a.Seq < d.Seq) = true := fun a b d h1 h2 => decide_eq_true (by have := of_decide_eq_true h1; have := of_decide_eq_true h2; omega)
  have trC : ∀ a b d : aA, decide (ky a.Id < ky b.Id) = true → decide (ky b.Id < ky d.Id) = true → decide (ky a.Id < ky d.Id) = true := fun a b d h1 h2 => decide_eq_true (by have := of_decide_eq_true h1; have := of_decide_eq_true h2; omega)
  unfold iO qS xY u7
  simp only [Bool.and_eq_true]
  rw [mE (l := c.Chunks) (P := fun i x => ((i == 0 || ((c.Chunks[i - 1]?).all fun y => decide (ky y.Id < ky x.Id))) = true ∧ gR c x.Locs = true) ∧ (if x.Staged then gJ x.Data.length 1 64 else (!decide (0 < x.Data.length) && !(x.Locs.length == 0))) = true) (fun i x hx => by
      unfold DL; rw [hx]; cases c.Chunks[i - 1]? <;> simp only [Bool.and_eq_true, Option.all_none, Option.all_some] <;> exact Iff.rfl),
    mE (l := c.Snaps) (P := fun i s => ((((gJ s.Seq 0 (c.Seq - 1) = true ∧ (i == 0 || ((c.Snaps[i - 1]?).all fun y => decide (y.Seq < s.Seq))) = true) ∧ (!((c.Snaps.take i).any fun y => s.Man.Name == y.Man.Name)) = true) ∧ qT s.Man = true) ∧ gR c s.Locs = true) ∧ E6 c s.Man = true) (fun i x hx => by
      unfold zI BH; rw [hx]; cases c.Snaps[i - 1]? <;> simp only [Bool.and_eq_true, Option.all_none, Option.all_some] <;> exact Iff.rfl),
    mE (l := c.Exps) (P := fun i x => ((((gJ x.Seq 0 (c.Seq - 1) = true ∧ (i == 0 || ((c.Exps[i - 1]?).all fun y => decide (y.Seq < x.Seq))) = true) ∧ gJ x.Of 0 (x.Seq - 1) = true) ∧ (!(x.Locs.length == 0)) = true) ∧ gR c x.Locs = true) ∧ (!c.Snaps.any fun s => s.Seq == x.Of) = true) (fun i x hx => by
      unfold uN ES; rw [hx]; cases c.Exps[i - 1]? <;> simp only [Bool.and_eq_true, Option.all_none, Option.all_some] <;> exact Iff.rfl)]
  constructor
  · rintro ⟨⟨⟨⟨h1, h2, h3⟩, hc, h4⟩, hs, h5⟩, he, h6⟩
    refine ⟨h1, List.all_eq_true.1 h2, h3, of_decide_eq_true h4, ?_, kN.2 fun i x hx => lO.1 (hc i x hx).1.2, kN.2 fun i x hx => ?_, of_decide_eq_true h5, ?_, kN.2 fun i x hx => (hs i x hx).1.1.1.1.1, (DN (f := fun s y : aE => s.Man.Name == y.Man.Name) c.Snaps).1 fun i x hx => (hs i x hx).1.1.1.2, kN.2 fun i x hx => (hs i x hx).1.1.2, kN.2 fun i x hx => lO.1 (hs i x hx).1.2, kN.2 fun i x hx => (hs i x hx).2, of_decide_eq_true h6, ?_, kN.2 fun i x hx => ⟨(he i x hx).1.1.1.1.1, (he i x hx).1.1.1.2⟩, kN.2 fun i x hx => lO.1 (he i x hx).1.2, kN.2 fun i x hx => ?_, kN.2 fun i x hx => ?_⟩
    · exact ((nE (q := fun x y : aA => decide (ky y.Id < ky x.Id)) trC c.Chunks).1 fun i x hx => (hc i x hx).1.1).imp fun h => of_decide_eq_true h
    · have := (hc i x hx).2
      cases hst : x.Staged <;> rw [hst] at this
      · simp only [Bool.false_eq_true, if_false, Bool.and_eq_true] at this ⊢
        obtain ⟨t1, t2⟩ := this
        refine ⟨?_, ?_⟩
        · cases hd : x.Data with
          | nil => rfl
          | cons a b => rw [hd] at t1; simp at t1
        · intro e; rw [e] at t2; simp at t2
      · simpa using this
    · exact ((nE (q := fun x y : aE => decide (y.Seq < x.Seq)) trS c.Snaps).1 fun i x hx => (hs i x hx).1.1.1.1.2).imp fun h => of_decide_eq_true h
    · exact ((nE (q := fun x y : aI => decide (y.Seq < x.Seq)) trE c.Exps).1 fun i x hx => (he i x hx).1.1.1.1.2).imp fun h => of_decide_eq_true h
    · intro e
      have := (he i x hx).1.1.2
      rw [e] at this
      simp at this
    · have := (he i x hx).2
      simp only [Bool.not_eq_true', List.any_eq_false, beq_iff_eq] at this
      exact this
  · intro h
    refine ⟨⟨⟨⟨h.q, List.all_eq_true.2 h.v, h.vn⟩, fun i x hx => ?_, decide_eq_true h.cn⟩, fun i x hx => ?_, decide_eq_true h.sn⟩, fun i x hx => ?_, decide_eq_true h.en⟩
    · have hm := List.mem_of_getElem? hx
      refine ⟨⟨(nE (q := fun x y : aA => decide (ky y.Id < ky x.Id)) trC c.Chunks).2 (h.co.imp fun h => decide_eq_true h) i x hx, lO.2 (h.cl x hm)⟩, ?_⟩
      have := h.cs x hm
      cases hst : x.Staged <;> rw [hst] at this
      · simp only [Bool.false_eq_true, if_false] at this ⊢
        obtain ⟨t1, t2⟩ := this
        rw [t1]
        simp [t2]
      · simpa using this
    · have hm := List.mem_of_getElem? hx
      exact ⟨⟨⟨⟨⟨h.sq x hm, (nE (q := fun x y : aE => decide (y.Seq < x.Seq)) trS c.Snaps).2 (h.so.imp fun h => decide_eq_true h) i x hx⟩, (DN (f := fun s y : aE => s.Man.Name == y.Man.Name) c.Snaps).2 h.sm i x hx⟩, h.sb x hm⟩, lO.2 (h.sl x hm)⟩, h.sp x hm⟩
    · have hm := List.mem_of_getElem? hx
      refine ⟨⟨⟨⟨⟨(h.eq x hm).1, (nE (q := fun x y : aI => decide (y.Seq < x.Seq)) trE c.Exps).2 (h.eo.imp fun h => decide_eq_true h) i x hx⟩, (h.eq x hm).2⟩, by simp [h.ee x hm]⟩, lO.2 (h.el x hm)⟩, ?_⟩
      simp only [Bool.not_eq_true', List.any_eq_false, beq_iff_eq]
      exact h.ex x hm
open Go.Vm
def A0 (m : Nat) (p0 : List bI) : Option (List bI) := app [] p0
theorem M7 {w : Nat} {p0 : List bI} {o : List bI} (h : aH) (m : A0 w p0 = some o) :
 aP Tryz.prog 67 [.sl none 4 (List.map aQ p0)] h (fun r h' => ∃ g : dD, bJ g 4 o.length ∧ bS h [(g.t, .obj 81 (fl aQ o g.sp))] ∧ r = aZ g ∧ h' = hp h [(g.t, .obj 81 (fl aQ o g.sp))]) := by
 refine iA 8 [.tmp 2] Tryz.func67 rfl rfl rfl rfl ?_
 unfold A0 at m
 refine fU fun K1 H1 => dW (oN (gU (.sc (.slice _ _ _)) rfl) (e9 (H1 _ _ (fU fun K1 H1 => fU fun K2 H2 => dW (vE rfl ?_)))))
 refine jE (iM rfl (by rw [m7]; rfl) (by rw [bG]; exact rfl) (.inl ⟨_, _, _, rfl, fun b hb => ?_⟩))
 refine e9 (H2 _ _ ?_)
 refine lA rfl (fun hc => ?_) (fun hc => ?_)
 have h0 : p0 = [] := by
   cases p0 with
   | nil => rfl
   | cons x l => have := hb (by simp); rw [this] at hc; cases hc
 subst h0
 obtain ⟨rfl, -⟩ := hH m
 refine fU fun K1 H1 => dW (oN (gU (.sc (.slice _ _ _)) rfl) (e9 (H1 _ _ (gN ?_))))
 exact dY.one (.inl rfl) (gX.refl _) (fP _) ⟨g0, bJ.g0 _, bS.none (bS.nil _), rfl, rfl⟩
 refine jM (H1 _ _ (fU fun K1 H1 => dW ?_))
 refine jE (nM (c := aQ) (bS.nil _) uU fun u => ?_)
 refine vE rfl ?_
 refine jE (fR (c := aQ) 0 m uU rfl EK rfl iT rfl rfl (bJ.g0 _) u rfl fun g ok u => ?_)
 refine oN (gU (aw _ _ _) rfl) (e9 (H1 _ _ (gN ?_)))
 exact dY.one (.inl rfl) (gX.refl _) (aX.refl _ _) ⟨g, ok, u, rfl, rfl⟩
theorem M8 : aU Tryz.prog 67 = true := by kernel_rfl
def nF (m : Nat) (p0 : List bI) (p1 : bI → Option Bool) (q0 : Int) : Option (Lp (Int) (Int)) :=
 if (decide (q0 < (p0.length : Int))) = true then ((ix p0 q0).bind fun x0 => (p1 x0).bind fun y0 => if y0 = true then (some (.ret q0)) else some (.go (IntKind.wrap .i64 (q0 + 1)))) else some (.brk q0)
def A1 (m : Nat) (p0 : List bI) (p1 : bI → Option Bool) : Option (Int) :=
 after (aY (fun s => nF m p0 p1 s) m 0) fun r0 => some (-1)
theorem QX {w : Nat} {p0 : List bI} {p1 : bI → Option Bool} {o : Int} (h : aH) {g_p0 : dD} (ok_p0 : bJ g_p0 4 p0.length) (K0 : bS h [(g_p0.t, .obj 81 (fl aQ (p0 : List bI) g_p0.sp))]) {p1F : Nat} {p1C : List AV} (p1B : aU Tryz.prog p1F = true) (p1H : ∀ x0 o h0, gX h h0 → p1 x0 = some o → aP Tryz.prog p1F ([.agg (aQ x0)] ++ p1C) h0 (fun r h' => r = .sc (.bool o) ∧ h' = h0)) (m : A1 w p0 p1 = some o) :
 aP Tryz.prog 108 [aZ g_p0, .fn (.func p1F) p1C] (hp h [(g_p0.t, .obj 81 (fl aQ (p0 : List bI) g_p0.sp))]) (fun r h' => r = nZ o ∧ h' = hp h [(g_p0.t, .obj 81 (fl aQ (p0 : List bI) g_p0.sp))]) := by
 refine AE K0 19 [.tmp 4] Tryz.func108 rfl rfl rfl rfl ?_
 unfold A1 at m
 refine vs (v0 (vs (vs (v0 (vn (fun _ => eY iF ok_p0 rfl) ?_)))))
 refine eO m (σ := Int) (τ := Unit) (fun g s => [(g_p0.t, .obj 81 (fl aQ (p0 : List bI) g_p0.sp))]) (fun g s => .c 0 (aZ g_p0) (.c 1 (.fn (.func p1F) p1C) (.c 7 (nZ (p0.length : Int)) (.c 8 (nZ s) .nil)))) () (lx (.k4 .nil)) ?_ ?_
 rintro _ q0 x m
 replace m : nF w p0 p1 q0 = some x := m
 unfold nF at m
 refine vs (v0 (vs (v0 ?_)))
 refine vi m (fun c0 m => ?_) fun c0 m => ?_
 refine v0 (vs (v0 (vs (v0 (vs (v0 ?_))))))
 obtain ⟨x1, X0, m⟩ := aC m
 refine vn (fun _ => dE X0 m7 ok_p0 rfl rfl) (vn (fun u => eZ (fo := 0) (.agg (aQ x1)) X0 iT ok_p0 nA rfl (aO 0 u rfl) (fun _ => rfl)) ?_)
 obtain ⟨_, Y0, m⟩ := aC m
 refine vn (fun u => cE (p1H _ _ _ (aV (List.nil_sublist _) u).1 Y0) rfl p1B rfl) (v0 ?_)
 refine vi m (fun c1 m => ?_) fun c1 m => ?_
 refine vs (v0 (v0 ?_))
 refine gA m fun m => ?_
 injection m with m; subst m
 exact vr fun u => dY.of1 (.inl rfl) (fL _ _ (.sc (.int _ _)) rfl) (bO u [0] rfl).2 (aX.refl _ _) ⟨rfl, rfl⟩
 refine v0 (v0 ?_)
 exact bD m (lx (.k4 .nil))
 refine v0 ?_
 exact iS m (lx (.k4 .nil))
 rintro _ r0 m
 refine vs (v0 (v0 ?_))
 cases m
 exact vr fun u => dY.of1 (.inl rfl) (fL _ _ (.sc (.int _ _)) rfl) (bO u [0] rfl).2 (aX.refl _ _) ⟨rfl, rfl⟩
def nR (m : Nat) (p1 : bI → Option Bool) (q0 : List bI) (q1 : Int) (q2 : Int) : Option (Lp ((List bI) × Int × Int) ((List bI))) :=
 if (decide (q2 < (q0.length : Int))) = true then ((ix q0 q2).bind fun x0 => (p1 x0).bind fun y0 => after (if (!y0) = true then ((ix q0 q1).bind fun _ => some (.brk (q0.set q1.toNat (x0), IntKind.wrap .i64 (q1 + 1)))) else some (.brk (q0, q1)) : Option (Lp ((List bI) × Int) (Lp ((List bI) × Int × Int) ((List bI))))) fun ⟨j0, j1⟩ => some (.go (j0, j1, IntKind.wrap .i64 (q2 + 1)))) else some (.brk (q0, q1, q2))
def G6 (m : Nat) (p0 : List bI) (p1 : bI → Option Bool) : Option ((List bI)) :=
 (A1 m p0 p1).bind fun y3 => if (y3 == (-1)) = true then (some p0) else after (aY (fun s => nR m p1 s.1 s.2.1 s.2.2) m (p0, y3, IntKind.wrap .i64 (y3 + 1))) fun ⟨r0, r1, r2⟩ => grd (decide (0 ≤ r1) && decide (r1 < (r0.length : Int))) <| grd (decide (0 ≤ r1) && decide (r1 ≤ (r0.length : Int))) <| some (r0.take r1.toNat)
theorem VE {w : Nat} {p0 : List bI} {p1 : bI → Option Bool} {o : (List bI)} (h : aH) {g_p0 : dD} (ok_p0 : bJ g_p0 4 p0.length) (K0 : bS h [(g_p0.t, .obj 81 (fl aQ (p0 : List bI) g_p0.sp))]) {p1F : Nat} {p1C : List AV} (p1B : aU Tryz.prog p1F = true) (p1H : ∀ x0 o h0, gX h h0 → p1 x0 = some o → aP Tryz.prog p1F ([.agg (aQ x0)] ++ p1C) h0 (fun r h' => r = .sc (.bool o) ∧ h' = h0)) (m : G6 w p0 p1 = some o) :
 aP Tryz.prog 66 [aZ g_p0, .fn (.func p1F) p1C] (hp h [(g_p0.t, .obj 81 (fl aQ (p0 : List bI) g_p0.sp))]) (fun r h' => ∃ g : dD, bJ g 4 o.length ∧ bS h [(g.t, .obj 81 (fl aQ o g.sp))] ∧ r = aZ g ∧ h' = hp h [(g.t, .obj 81 (fl aQ o g.sp))]) := by
 refine AE K0 42 [.tmp 4] Tryz.func66 rfl rfl rfl rfl ?_
 unfold G6 at m
 refine vs (v0 (vs (v0 ?_)))
 obtain ⟨_, Y4, m⟩ := aC m
 refine ve fun u => dX ((bK u [0] rfl rfl).1.trans (dM h [(g_p0.t, .obj 81 (fl aQ (p0 : List bI) g_p0.sp))] []).symm) (cV (QX (hp h []) ok_p0 (dG [(g_p0.t, .obj 81 (fl aQ (p0 : List bI) g_p0.sp))] [] (bK u [0] rfl rfl).2).2 p1B (fun x0 o h0 hs ho => p1H x0 o h0 ((aV (List.nil_sublist _) (dG [(g_p0.t, .obj 81 (fl aQ (p0 : List bI) g_p0.sp))] [] (bK u [0] rfl rfl).2).1).1.trans hs) ho) Y4) rfl QI rfl ?_)
 rintro x h' ⟨rfl, rfl⟩
 refine qk u ((dM h [(g_p0.t, .obj 81 (fl aQ (p0 : List bI) g_p0.sp))] []).trans (bK u [0] rfl rfl).1.symm) ?_
 refine vs (vs (v0 (v0 ?_)))
 refine vi m (fun c7 m => ?_) fun c7 m => ?_
 refine vs (v0 (v0 ?_))
 injection m with m; subst m
 exact vr fun u => dY.one (.inl rfl) (aV (h0 := h) (L' := [(g_p0.t, .obj 81 (fl aQ (p0 : List bI) g_p0.sp))]) (.refl _) u).1 (aX.refl _ _) ⟨g_p0, ok_p0, (aV (h0 := h) (L' := [(g_p0.t, .obj 81 (fl aQ (p0 : List bI) g_p0.sp))]) (.refl _) u).2, rfl, rfl⟩
 refine v0 (vs (vs (v0 ?_)))
 refine lT m (σ := (List bI) × Int × Int) (τ := dD) (fun g s => [(g.t, .obj 81 (fl aQ (s.1 : List bI) g.sp))]) (fun g s => bJ g 4 (s.1 : List bI).length) (fun g s => .c 0 (aZ g) (.c 1 (.fn (.func p1F) p1C) (.c 5 (nZ s.2.1) (.c 6 (nZ s.2.2) .nil)))) g_p0 ok_p0 (lx (.k4 .nil)) ?_ ?_
 rintro ag0 ⟨q0, q1, q2⟩ x O0 m
 replace m : nR w p1 q0 q1 q2 = some x := m
 unfold nR at m
 refine vs (vs (v0 (vn (fun _ => eY iF O0 rfl) (v0 ?_))))
 refine vi m (fun c0 m => ?_) fun c0 m => ?_
 refine v0 (vs (v0 (vs (v0 ?_))))
 obtain ⟨x1, X0, m⟩ := aC m
 refine vn (fun _ => dE X0 m7 O0 rfl rfl) (vn (fun u => eZ (fo := 0) (.agg (aQ x1)) X0 iT O0 nA rfl (aO 0 u rfl) (fun _ => rfl)) ?_)
 refine ve fun u => bE ([nZ 0, nZ 0, nZ 0, nZ 0]) u EK rfl rfl fun k86 K1 => qk K1 rfl ?_
 refine ve fun u => aL 0 (aQ x1) u rfl rfl rfl rfl GG rfl rfl fun K2 => qk K2 rfl ?_
 refine vs (v0 (vl 0 (.agg (aQ x1)) nA rfl rfl rfl ?_))
 obtain ⟨_, Y0, m⟩ := aC m
 refine vn (fun u => cE (p1H _ _ _ (aV (List.nil_sublist _) u).1 Y0) rfl p1B rfl) ?_
 refine pX m (σ := (List bI) × Int) (τ := dD) (fun g s => [(some k86, .obj 81 (aQ x1)), (g.t, .obj 81 (fl aQ (s.1 : List bI) g.sp))]) (fun g s => bJ g 4 (s.1 : List bI).length) (fun g s => .c 0 (aZ g) (.c 1 (.fn (.func p1F) p1C) (.c 5 (nZ s.2) (.c 6 (nZ q2) .nil)))) (fun x m => ?_) ?_
 refine v0 ?_
 refine vi m (fun c1 m => ?_) fun c1 m => ?_
 refine vs (v0 (vl 0 (.agg (aQ x1)) nA rfl rfl rfl ?_))
 obtain ⟨_, X1, m⟩ := aC m
 refine vn (fun _ => dE X1 m7 O0 rfl rfl) ?_
 refine ve fun u => cR (fo := 0) (x1 : bI) 1 u X1 iT O0 rfl rfl rfl rfl (cO.refl _ _) GG rfl rfl fun K3 => qk K3 rfl ?_
 refine v0 ?_
 exact fH m ag0 (bJ.set O0) (lx (.k4 .nil))
 refine v0 ?_
 exact fH m ag0 O0 (lx (.k4 .nil))
 rintro ag1 ⟨j0, j1⟩ O1 m
 refine v0 ?_
 exact fH m ag1 O1 (kR [1] rfl rfl (.k4 .nil))
 refine v0 ?_
 exact lD m ag0 O0 (lx (.k4 .nil))
 rintro ag2 ⟨r0, r1, r2⟩ t0 m
 refine vs (v0 ?_)
 obtain ⟨Z0, m⟩ := lX m
 refine vn (fun _ => B6 Z0 m7 t0 rfl rfl) ?_
 refine ve fun u => F0 0 u Z0 iT t0 YK EK rfl rfl rfl rfl fun sp0 O2 K4 => qk K4 rfl ?_
 refine vs (v0 ?_)
 obtain ⟨Z1, m⟩ := lX m
 refine vn (fun _ => B7 Z1 t0 m7 rfl rfl) (v0 ?_)
 cases m
 exact vr fun u => dY.one (.inl rfl) (aV (h0 := h) (L' := [((⟨ag2.t, r1.toNat, ag2.cap, sp0⟩ : dD).t, .obj 81 (fl aQ (r0.take r1.toNat : List bI) (⟨ag2.t, r1.toNat, ag2.cap, sp0⟩ : dD).sp))]) (.refl _) u).1 (aX.refl _ _) ⟨(⟨ag2.t, r1.toNat, ag2.cap, sp0⟩ : dD), O2, (aV (h0 := h) (L' := [((⟨ag2.t, r1.toNat, ag2.cap, sp0⟩ : dD).t, .obj 81 (fl aQ (r0.take r1.toNat : List bI) (⟨ag2.t, r1.toNat, ag2.cap, sp0⟩ : dD).sp))]) (.refl _) u).2, rfl, rfl⟩
theorem VF : aU Tryz.prog 66 = true := by kernel_rfl
open Go.Vm
theorem qV {α : Type} {l : List α} {q : α → Bool} (h : l.any q = true) : ∃ (i : Nat) (x : α), vB l q = (i : Int) ∧ l[i]? = some x ∧ q x = true ∧ ∀ y ∈ l.take i, q y = false := by
 unfold vB
 cases e : (List.range l.length).find? fun i => (l[i]?).any q with
 | none =>
  exfalso
  obtain ⟨x, hx, hq⟩ := List.any_eq_true.1 h
  obtain ⟨i, hi, rfl⟩ := List.getElem_of_mem hx
  have := List.find?_eq_none.1 e i (List.mem_range.2 hi)
  simp [hi, hq] at this
 | some i =>
  obtain ⟨h1, h2, h3⟩ := List.find?_range_eq_some.1 e
  cases e2 : l[i]? with
  | none => rw [e2] at h1; cases h1
  | some x =>
   refine ⟨i, x, rfl, e2, by rw [e2] at h1; simpa using h1, fun y hy => ?_⟩
   obtain ⟨j, hj, rfl⟩ := List.getElem_of_mem hy
   rw [List.length_take] at hj
   have h4 := h3 j (by omega)
   have : l[j]? = some l[j] := List.getElem?_eq_getElem (by omega)
   rw [this] at h4
   rw [List.getElem_take]
   simpa using h4
theorem qW {α : Type} {l : List α} {q : α → Bool} (h : l.any q = false) : vB l q = -1 := by
 unfold vB
 have : (List.range l.length).find? (fun i => (l[i]?).any q) = none := by
  rw [List.find?_eq_none]
  intro i hi
  have hi := List.mem_range.1 hi
  rw [List.getElem?_eq_getElem hi]
  have := List.any_eq_false.1 h l[i] (List.getElem_mem hi)
  simpa using this
 rw [this]
theorem tW {α ρ : Type} {l : List α} {q : α → Bool} {F : Nat} {body : List α × Int × Int → Option (Lp (List α × Int × Int) ρ)} {i0 : Nat} {x0 : α} (hF : l.length < F) (h0 : l[i0]? = some x0) (hq : q x0 = true) (hn : ∀ y ∈ l.take i0, q y = false)
    (hb : ∀ (cur : List α) (w r : Nat) (x : α), cur.length = l.length → w < r → r < l.length → cur[r]? = some x → x ∈ l → body (cur, (w : Int), (r : Int)) = some (.go (if q x then (cur, (w : Int), ((r + 1 : Nat) : Int)) else (cur.set w x, ((w + 1 : Nat) : Int), ((r + 1 : Nat) : Int)))))
    (he : ∀ (cur : List α) (w : Nat), cur.length = l.length → body (cur, (w : Int), (l.length : Int)) = some (.brk (cur, (w : Int), (l.length : Int)))) :
    ∃ (cur : List α) (w : Nat), aY body F (l, (i0 : Int), ((i0 + 1 : Nat) : Int)) = some (.brk (cur, (w : Int), (l.length : Int))) ∧ w < l.length ∧ cur.length = l.length ∧ cur.take w = l.filter fun x => !q x := by
  have hi0 := (List.getElem?_eq_some_iff.1 h0).1
  have hx0 := (List.getElem?_eq_some_iff.1 h0).2
  obtain ⟨s, ⟨cur, w, e1, e2, e3, e4, e5⟩, h3⟩ := nC (body := body) (I := fun k s => ∃ (cur : List α) (w : Nat), s = (cur, (w : Int), (k : Int)) ∧ w < k ∧ cur.length = l.length ∧ cur.take w = ((l.take k).filter fun x => !q x) ∧ cur.drop k = l.drop k) (n := l.length) (fun k s hk hI => by
    obtain ⟨cur, w, rfl, i2, i3, i4, i5⟩ := hI
    have hx : cur[k]? = l[k]? := by
      have := congrArg (fun z => z[0]?) i5
      simpa [List.getElem?_drop] using this
    have hlk : l[k]? = some l[k] := List.getElem?_eq_getElem hk
    rw [hlk] at hx
    have htk := List.take_succ_eq_append_getElem hk
    have hmem := List.getElem_mem hk
    generalize l[k] = x at hx htk hmem
    have hd : cur.drop (k + 1) = l.drop (k + 1) := by
      have := congrArg (List.drop 1) i5
      simpa [List.drop_drop, Nat.add_comm] using this
    refine ⟨_, hb cur w k x i3 i2 hk hx hmem, ?_⟩
    cases hqx : q x
    · refine ⟨cur.set w x, w + 1, by simp, by omega, by simpa using i3, ?_, ?_⟩
      · rw [htk, List.filter_append, ← i4]
        have hw : w < (cur.set w x).length := by rw [List.length_set]; omega
        rw [List.take_succ_eq_append_getElem hw, List.getElem_set_self, List.take_set_of_le (Nat.le_refl _)]
        simp [List.filter, hqx]
      · rw [List.drop_set_of_lt (by omega)]
        exact hd
    · refine ⟨cur, w, by simp, by omega, i3, ?_, hd⟩
      rw [htk, List.filter_append, ← i4]
      simp [List.filter, hqx]) (fun s hI => by
    obtain ⟨cur, w, rfl, i2, i3, -⟩ := hI
    exact he cur w i3) F (i0 + 1) (l, (i0 : Int), ((i0 + 1 : Nat) : Int)) hi0 (by omega) ⟨l, i0, rfl, by omega, rfl, by
      rw [List.take_succ_eq_append_getElem hi0, List.filter_append, hx0]
      have : (l.take i0).filter (fun x => !q x) = l.take i0 := List.filter_eq_self.2 fun y hy => by simp [hn y hy]
      rw [this]
      simp [List.filter, hq], rfl⟩
  subst e1
  refine ⟨cur, w, h3, by omega, e3, ?_⟩
  rw [e4, List.take_length]
theorem ZV {F : Nat} {l : List bI} {f : bI → Option Bool} (q : bI → Bool) (hF : 1000 ≤ F) (hl : l.length ≤ 300) (hf : ∀ x ∈ l, f x = some (q x)) : G6 F l f = some (l.filter fun x => !q x) := by
 have h119 : A1 F l f = some (vB l q) := by
  unfold A1
  refine nQ q (by omega) (fun i x hx hm hi => ?_) (by unfold nF; simp)
  unfold nF
  rw [iW (by omega)]
  simp only [bT, hx, hf x hm, Option.bind_some, Int.ofNat_lt, hi, decide_true, if_true]
  split <;> rfl
 unfold G6
 rw [h119]
 simp only [Option.bind_some]
 cases ha : l.any q with
 | false =>
  rw [qW ha]
  simp only [beq_self_eq_true, if_true]
  rw [List.filter_eq_self.2 fun x hx => by simpa using List.any_eq_false.1 ha x hx]
 | true =>
  obtain ⟨i, x, h1, h2, h3, h4⟩ := qV ha
  rw [h1]
  have hn : ((i : Int) == -1) = false := by simp
  have hil := (List.getElem?_eq_some_iff.1 h2).1
  rw [hn, iW (by omega)]
  simp only [Bool.false_eq_true, if_false]
  obtain ⟨cur, w, e1, e2, e3, e4⟩ := tW (l := l) (q := q) (F := F) (body := fun s => nR F f s.1 s.2.1 s.2.2) (by omega) h2 h3 h4 (fun cur w r x hc hw hr hx hm => by
   unfold nR
   simp only
   rw [iW (i := r) (by omega), iW (i := w) (by omega)]
   have hcw : cur[w]? = some cur[w] := List.getElem?_eq_getElem (by omega)
   simp only [bT, hx, hf x hm, Option.bind_some, hc, Int.ofNat_lt, hr, decide_true, if_true, hcw, Int.toNat_natCast]
   cases q x <;> rfl) (fun cur w hc => by unfold nR; simp [hc])
  rw [e1]
  simp only [aW]
  have g1 : (decide ((0 : Int) ≤ (w : Int)) && decide ((w : Int) < (cur.length : Int))) = true := by simp; omega
  have g2 : (decide ((0 : Int) ≤ (w : Int)) && decide ((w : Int) ≤ (cur.length : Int))) = true := by simp; omega
  simp only [grd, g1, g2, if_true, Int.toNat_natCast, e4]
end Go.Proofs.YtbbifdfldpfphaaGreat
namespace Go.Vm
abbrev OG := Option dD
def oT (og : OG) : Option bZ := og.bind (·.t)
def oS (og : OG) : List AV := og.elim [] (·.sp)
def awO {β : Type} (ci : β → List AV) (szi : Nat) (og : OG) (l : List β) : AV := match og with
 | some g => aw g.t g.n g.cap
 | none => .sl none szi (l.map ci)
structure dS where
 a : dD
 gs : List OG
def gx (gs : List OG) (i : Nat) : OG := (gs[i]?).getD none
def zg {α : Type} (xs : List α) (gs : List OG) : List (α × OG) := xs.zip gs
def nl {α β : Type} (l : α → List β) (ys : List (α × OG)) : List (List β × OG) := ys.map fun y => (l y.1, y.2)
def kO {β : Type} (ty : TypeId) (ci : β → List AV) (zs : List (List β × OG)) : HL := zs.map fun z => (oT z.2, .obj ty (fl ci z.1 (oS z.2)))
structure rN {α β : Type} (l : α → List β) (sz szi : Nat) (g : dS) (xs : List α) : Prop where
 a : bJ g.a sz xs.length
 len : g.gs.length = xs.length
 el : ∀ z ∈ nl l (zg xs g.gs), ∀ g', z.2 = some g' → bJ g' szi z.1.length
section
variable {α β : Type} {l : α → List β} {sz szi : Nat}
theorem CR {xs : List α} {gs : List OG} (h : gs.length = xs.length) : (zg xs gs).length = xs.length := by simp [zg, List.length_zip, h]
theorem rN.z {g : dS} {xs : List α} (ok : rN l sz szi g xs) : bJ g.a sz (zg xs g.gs).length := by rw [CR ok.len]; exact ok.a
theorem CS {xs : List α} {gs : List OG} (h : gs.length = xs.length) {k : Nat} {x : α} (hx : xs[k]? = some x) : (zg xs gs)[k]? = some (x, gx gs k) := by
 obtain ⟨hk, rfl⟩ := List.getElem?_eq_some_iff.1 hx
 have hk' : k < gs.length := by omega
 simp [zg, gx, List.getElem?_zip_eq_some, hk, hk']
theorem QY {xs : List α} {gs : List OG} (h : gs.length = xs.length) {i : Int} {x : α} (hx : ix xs i = some x) : ix (zg xs gs) i = some (x, gx gs i.toNat) := by
 obtain ⟨h1, h2, h3⟩ := fF hx
 unfold ix
 rw [if_pos h1]
 exact CS h h3
theorem G7 {xs : List α} {gs : List OG} (k : Nat) (x : α) (og : OG) : (zg xs gs).set k (x, og) = zg (xs.set k x) (gs.set k og) := by
 unfold zg
 induction xs generalizing gs k with
 | nil => simp
 | cons y ys ih => cases gs with
  | nil => simp
  | cons g gs => cases k with
   | zero => simp
   | succ k => simp [ih]
theorem JN {gs : List OG} (k : Nat) (h : k < gs.length) : gs.set k (gx gs k) = gs := by
 apply List.ext_getElem?
 intro i
 rw [List.getElem?_set]
 split
 ·rename_i e; subst e; simp [gx, h]
 ·rfl
theorem rN.ix {g : dS} {xs : List α} (ok : rN l sz szi g xs) {i : Int} {x : α} (hx : ix xs i = some x) : Vm.ix (zg xs g.gs) i = some (x, gx g.gs i.toNat) := QY ok.len hx
theorem rN.set {g : dS} {xs : List α} {i : Int} {x x' : α} (ok : rN l sz szi g xs) (hx : Vm.ix xs i = some x) (e : l x' = l x) :
    rN l sz szi g (xs.set i.toNat x') ∧ (zg xs g.gs).set i.toNat (x', gx g.gs i.toNat) = zg (xs.set i.toNat x') g.gs ∧ nl l (zg (xs.set i.toNat x') g.gs) = nl l (zg xs g.gs) := by
  obtain ⟨h1, h2, h3⟩ := fF hx
  have hk : i.toNat < xs.length := (List.getElem?_eq_some_iff.1 h3).1
  have e1 : (zg xs g.gs).set i.toNat (x', gx g.gs i.toNat) = zg (xs.set i.toNat x') g.gs := by rw [G7, JN _ (by have := ok.len; omega)]
  have e2 : nl l (zg (xs.set i.toNat x') g.gs) = nl l (zg xs g.gs) := by
    rw [← e1]
    unfold nl
    rw [List.map_set]
    apply List.ext_getElem?
    intro j
    rw [List.getElem?_set]
    split
    · rename_i q; subst q
      have h5 := CS ok.len h3
      rw [List.getElem?_map, h5]
      simp [e, CR ok.len, hk]
    · rfl
  exact ⟨⟨by rw [List.length_set]; exact ok.a, by rw [List.length_set]; exact ok.len, by rw [e2]; exact ok.el⟩, e1, e2⟩
theorem rN.setL {g : dS} {xs : List α} {i : Int} {x x' : α} (ok : rN l sz szi g xs) (hx : Vm.ix xs i = some x) (g' : dD) (hg : bJ g' szi (l x').length) :
    rN l sz szi ⟨g.a, g.gs.set i.toNat (some g')⟩ (xs.set i.toNat x') ∧ (zg xs g.gs).set i.toNat (x', some g') = zg (xs.set i.toNat x') (g.gs.set i.toNat (some g')) ∧
      nl l (zg (xs.set i.toNat x') (g.gs.set i.toNat (some g'))) = (nl l (zg xs g.gs)).set i.toNat (l x', some g') := by
  obtain ⟨h1, h2, h3⟩ := fF hx
  have e1 : (zg xs g.gs).set i.toNat (x', some g') = zg (xs.set i.toNat x') (g.gs.set i.toNat (some g')) := G7 _ _ _
  have e2 : nl l (zg (xs.set i.toNat x') (g.gs.set i.toNat (some g'))) = (nl l (zg xs g.gs)).set i.toNat (l x', some g') := by
    rw [← e1]; unfold nl; rw [List.map_set]
  refine ⟨⟨by rw [List.length_set]; exact ok.a, by simp [ok.len], ?_⟩, e1, e2⟩
  show ∀ z ∈ nl l (zg (xs.set i.toNat x') (g.gs.set i.toNat (some g'))), _
  rw [e2]
  intro z hz g2 hg2
  rcases List.mem_or_eq_of_mem_set hz with hz | rfl
  · exact ok.el z hz g2 hg2
  · cases hg2; exact hg
theorem rN.nlat {g : dS} {xs : List α} {i : Int} {x : α} (ok : rN l sz szi g xs) (hx : Vm.ix xs i = some x) : (nl l (zg xs g.gs))[i.toNat]? = some (l x, gx g.gs i.toNat) := by
 obtain ⟨h1, h2, h3⟩ := fF hx
 unfold nl
 rw [List.getElem?_map, CS ok.len h3]
 rfl
theorem rN.plain {a : dD} {xs : List α} (ok : bJ a sz xs.length) : rN l sz szi ⟨a, List.replicate xs.length none⟩ xs := ⟨ok, by simp, fun z hz g' e => by
 unfold nl zg at hz
 obtain ⟨y, hy, rfl⟩ := List.mem_map.1 hz
 have := (List.of_mem_zip hy).2
 rw [List.mem_replicate] at this
 simp only at e
 rw [this.2] at e
 cases e⟩
variable {ty : TypeId} {ci : β → List AV} {h0 : aH}
theorem tX {γ : Type} : ∀ {zs : List γ} {j : Nat} {z : γ}, zs[j]? = some z → zs.Perm (z :: zs.eraseIdx j)
 | [], _, _, h => by simp at h
 | y :: ys, 0, z, h => by
  simp only [List.getElem?_cons_zero, Option.some.injEq] at h
  subst h
  exact .refl _
 | y :: ys, j + 1, z, h => by
  have := tX (zs := ys) (j := j) (z := z) (by simpa using h)
  simp only [List.eraseIdx_cons_succ]
  exact (this.cons y).trans (.swap z y _)
theorem DO {zs : List (List β × OG)} {j : Nat} {z : List β × OG} (hz : zs[j]? = some z) : (kO ty ci zs).Perm ((oT z.2, .obj ty (fl ci z.1 (oS z.2))) :: kO ty ci (zs.eraseIdx j)) := by
 exact (tX hz).map _
theorem JO {zs : List (List β × OG)} {j : Nat} (z : List β × OG) (hj : j < zs.length) : (kO ty ci (zs.set j z)).Perm ((oT z.2, .obj ty (fl ci z.1 (oS z.2))) :: kO ty ci (zs.eraseIdx j)) := by
 have := DO (ty := ty) (ci := ci) (zs := zs.set j z) (j := j) (z := z) (by simp [hj])
 rwa [List.eraseIdx_set_eq] at this
theorem xZ {k : bZ} {e : iH} : ∀ {L : HL}, bS h0 L → (some k, e) ∈ L → hp h0 L k = some e
 | [], _, h => by cases h
 | (t, e') :: r, ok, h => by
  rcases List.mem_cons.1 h with h | h
  ·cases h; simp only [hp, dB]
  ·have ih := xZ (L := r) ok.1 h
   cases t with
   | none => exact ih
   | some k' =>
    have hne : k ≠ k' := fun q => by
     have := ok.2 k' rfl
     rw [← q, ih] at this
     cases this
    simp only [hp]
    rw [cC _ _ hne, ih]
theorem G8 {k : bZ} {e : iH} : ∀ {L : HL}, bS h0 L → (some k, e) ∈ L → h0 k = none
 | [], _, h => by cases h
 | (t, e') :: r, ok, h => by
  rcases List.mem_cons.1 h with h | h
  ·cases h
   have := ok.2 k rfl
   exact lK (aV (List.nil_sublist r) ok.1).1 this
  ·exact G8 ok.1 h
theorem G9 {k : bZ} : ∀ {L : HL}, h0 k = none → (∀ e, (some k, e) ∉ L) → hp h0 L k = none
 | [], h, _ => h
 | (t, e') :: r, h, hn => by
  have ih := G9 (L := r) h fun e q => hn e (List.mem_cons_of_mem _ q)
  cases t with
  | none => exact ih
  | some k' =>
   have hne : k ≠ k' := fun q => hn e' (by rw [q]; exact List.mem_cons_self)
   simp only [hp]
   rw [cC _ _ hne, ih]
theorem DP {k : bZ} {e e' : iH} : ∀ {A F : HL}, bS h0 (A ++ F) → (some k, e) ∈ F → (some k, e') ∉ A
 | [], _, _, _ => nofun
 | (t, e2) :: A, F, ok, h => fun q => by
  rcases List.mem_cons.1 q with q | q
  ·cases q
   have := ok.2 k rfl
   rw [xZ ok.1 (List.mem_append_right _ h)] at this
   cases this
  ·exact DP ok.1 h q
theorem uO.append {H : aH} {xs ys : List AV} (h : uO H xs ys) {us vs : List AV} (h2 : uO H us vs) : uO H (xs ++ us) (ys ++ vs) := by
 induction h with
 | nil => exact h2
 | cons a _ ih => exact .cons a ih
theorem uO.flat {γ : Type} {H : aH} {c c' : γ → List AV} : ∀ {ys : List γ}, (∀ y ∈ ys, uO H (c y) (c' y)) → uO H (ys.map c).flatten (ys.map c').flatten
 | [], _ => .nil
 | y :: ys, h => by
  simp only [List.map_cons, List.flatten_cons]
  exact (h y List.mem_cons_self).append (uO.flat fun z hz => h z (List.mem_cons_of_mem _ hz))
theorem HA {γ : Type} {xs : List α} {gs : List OG} (h : gs.length = xs.length) (c : α → γ) : (zg xs gs).map (fun y => c y.1) = xs.map c := by
 unfold zg
 have : (xs.zip gs).map Prod.fst = xs := List.map_fst_zip (by omega)
 conv => rhs; rw [← this, List.map_map]
 rfl
theorem Br.awO {H : aH} {og : OG} {xs : List β} (hc : ∀ y, (ci y).length = szi) (ok : ∀ g, og = some g → bJ g szi xs.length) (hk : ∀ k, oT og = some k → H k = some (.obj ty (fl ci xs (oS og)))) : Br H (Vm.awO ci szi og xs) (.sl none szi (xs.map ci)) := by
 cases og with
 | none => exact Br.refl _ _
 | some g =>
  have ok := ok g rfl
  show Br H (Vm.aw g.t g.n g.cap) _
  rw [ok.eqn]
  cases ht : g.t with
  | none =>
   have h0 : xs = [] := List.length_eq_zero_iff.1 (ok.nil ht)
   subst h0
   exact Br.ale (xC _ szi)
  | some k => exact Br.vw hc (hk k ht)
theorem nV.append {H H' : aH} {xs ys : List AV} (h : nV H H' xs ys) {us vs : List AV} (h2 : nV H H' us vs) : nV H H' (xs ++ us) (ys ++ vs) := by
 induction h with
 | nil => exact h2
 | cons a _ ih => exact .cons a ih
theorem nV.flat {γ : Type} {H H' : aH} {c c' : γ → List AV} : ∀ {ys : List γ}, (∀ y ∈ ys, nV H H' (c y) (c' y)) → nV H H' (ys.map c).flatten (ys.map c').flatten
 | [], _ => .nil
 | y :: ys, h => by
  simp only [List.map_cons, List.flatten_cons]
  exact (h y List.mem_cons_self).append (nV.flat fun z hz => h z (List.mem_cons_of_mem _ hz))
theorem Fz.awO {H H' : aH} (hs : gX H' H) {og : OG} {xs : List β} (hc : ∀ y, (ci y).length = szi) (ok : ∀ g, og = some g → bJ g szi xs.length) (hk : ∀ k, oT og = some k → H k = some (.obj ty (fl ci xs (oS og))) ∧ H' k = none) : Fz H H' (Vm.awO ci szi og xs) (.sl none szi (xs.map ci)) := by
 cases og with
 | none => exact Fz.refl _ _ _
 | some g =>
  have ok := ok g rfl
  show Fz H H' (Vm.aw g.t g.n g.cap) _
  rw [ok.eqn]
  cases ht : g.t with
  | none =>
   have h0 : xs = [] := List.length_eq_zero_iff.1 (ok.nil ht)
   subst h0
   exact Fz.ale hs (xC _ szi)
  | some k => exact Fz.vw hc (hk k ht).1 (hk k ht).2
end
def gW : List HL → HL
 | [] => []
 | [x] => x
 | x :: y :: r => x ++ gW (y :: r)
theorem fM : ∀ b : List HL, gW b = b.flatten
 | [] => rfl
 | [x] => by simp [gW]
 | x :: y :: r => by rw [gW, fM (y :: r)]; rfl
theorem nS {bl bl' : List HL} (p : bl.Perm bl') : (gW bl).Perm (gW bl') := by rw [fM, fM]; exact p.flatten
theorem nT {bl : List HL} {b : Nat} {F : HL} (h : bl[b]? = some F) : (gW bl).Perm (F ++ (bl.eraseIdx b).flatten) := by
 rw [fM]
 exact (tX h).flatten
theorem pP {bl : List HL} {b : Nat} {F : HL} (F' : HL) (h : bl[b]? = some F) : (gW (bl.set b F')).Perm (F' ++ (bl.eraseIdx b).flatten) := by
 have hb : b < bl.length := (List.getElem?_eq_some_iff.1 h).1
 have := nT (bl := bl.set b F') (b := b) (F := F') (by simp [hb])
 rwa [List.eraseIdx_set_eq] at this
section
variable {h0 : aH} {L L' R : HL}
theorem wE (hk : bS h0 L) (bl : List HL) (hL : gW bl = L) (σ : List Nat) (hL' : gW (pick σ bl) = L') (ho : σ.isPerm (List.range bl.length) = true) : hp h0 L = hp h0 L' ∧ bS h0 L' := by
 subst hL hL'
 exact gP (nS (jV ho)) hk
theorem KN (hk : bS h0 L) (bl : List HL) (hL : gW bl = L) (σ : List Nat) (hL' : gW (pick σ bl) = L') (ho : (σ ++ rA σ bl.length).isPerm (List.range bl.length) = true) : bS h0 L' ∧ gX (hp h0 L') (hp h0 L) := by
 subst hL hL'
 have p := nS (jV ho)
 have e2 : pick (σ ++ rA σ bl.length) bl = pick σ bl ++ pick (rA σ bl.length) bl := List.filterMap_append
 rw [e2, fM (_ ++ _), List.flatten_append, ← fM (pick σ bl)] at p
 obtain ⟨e, k⟩ := gP p hk
 have := aV (List.sublist_append_left (gW (pick σ bl)) (pick (rA σ bl.length) bl).flatten) k
 exact ⟨this.2, by rw [e]; exact this.1⟩
variable {β : Type} {ty : TypeId} {ci : β → List AV}
theorem yA (hk : bS h0 L) (bl : List HL) (hL : gW bl = L) (b : Nat) {zs : List (List β × OG)} {j : Nat} {z : List β × OG} (hb : bl[b]? = some (kO ty ci zs)) (hz : zs[j]? = some z) (hR : gW (bl.set b (kO ty ci (zs.eraseIdx j))) = R) :
    hp h0 L = hp h0 ((oT z.2, .obj ty (fl ci z.1 (oS z.2))) :: R) ∧ bS h0 ((oT z.2, .obj ty (fl ci z.1 (oS z.2))) :: R) := by
  subst hL hR
  refine gP ?_ hk
  refine (nT hb).trans (((DO hz).append_right _).trans ?_)
  exact ((pP (kO ty ci (zs.eraseIdx j)) hb).symm.cons _)
theorem qX (bl : List HL) (hR : gW bl = R) (b : Nat) {zs : List (List β × OG)} {j : Nat} (z : List β × OG) (hj : j < zs.length) (hb : bl[b]? = some (kO ty ci (zs.eraseIdx j))) (hk : bS h0 ((oT z.2, .obj ty (fl ci z.1 (oS z.2))) :: R)) (hL' : gW (bl.set b (kO ty ci (zs.set j z))) = L') :
    hp h0 ((oT z.2, .obj ty (fl ci z.1 (oS z.2))) :: R) = hp h0 L' ∧ bS h0 L' := by
  subst hR hL'
  refine gP ?_ hk
  refine ((nT hb).cons _).trans ?_
  refine (((JO z hj).symm.append_right _).trans ?_)
  exact (pP _ hb).symm
theorem A2 (a b : List HL) : gW (a ++ b) = gW a ++ gW b := by rw [fM, fM, fM, List.flatten_append]
theorem HB {γ : Type} (σ τ : List Nat) (l : List γ) : pick (σ ++ τ) l = pick σ l ++ pick τ l := List.filterMap_append
theorem nG {A : HL} (hk : bS h0 L) (bl : List HL) (hL : gW bl = L) (σ τ : List Nat) (hA : gW (pick σ bl) = A) (hR : gW (pick τ bl) = R) (ho : (σ ++ τ).isPerm (List.range bl.length) = true) : hp h0 L = hp (hp h0 R) A ∧ bS h0 R ∧ bS (hp h0 R) A := by
 subst hL hA hR
 obtain ⟨e, k⟩ := gP (nS (jV ho)) hk
 rw [HB, A2] at e k
 obtain ⟨k1, k2⟩ := dG _ _ k
 exact ⟨e.trans (dM h0 _ _).symm, k1, k2⟩
theorem mK {A : HL} (hR : bS h0 R) (hA : bS (hp h0 R) A) (ba br : List HL) (hA' : gW ba = A) (hR' : gW br = R) (σ : List Nat) (hL' : gW (pick σ (ba ++ br)) = L') (ho : σ.isPerm (List.range (ba ++ br).length) = true) : hp (hp h0 R) A = hp h0 L' ∧ bS h0 L' := by
 subst hA' hR' hL'
 have k := eU hR hA
 rw [dM]
 rw [← A2] at k ⊢
 exact gP (nS (jV ho)) k
end
structure oP {α β : Type} (l : α → List β) (sz szi : Nat) (g : dS) (xs : List α) : Prop where
 k : rN l sz szi g xs
 own : ∀ og ∈ g.gs, og ≠ none
section
variable {α β : Type} {l : α → List β} {sz szi : Nat} {g : dS} {xs : List α} {i : Int} {x x' : α}
theorem oP.gx (ok : oP l sz szi g xs) (hx : Vm.ix xs i = some x) : ∃ gv, Vm.gx g.gs i.toNat = some gv ∧ bJ gv szi (l x).length ∧ (nl l (zg xs g.gs))[i.toNat]? = some (l x, some gv) := by
 have h1 := ok.k.nlat hx
 obtain ⟨_, _, h3⟩ := fF hx
 have hk : i.toNat < xs.length := (List.getElem?_eq_some_iff.1 h3).1
 have hk' : i.toNat < g.gs.length := by have := ok.k.len; omega
 cases hg : Vm.gx g.gs i.toNat with
 | none =>
  have : g.gs[i.toNat] = none := by unfold Vm.gx at hg; rw [List.getElem?_eq_getElem hk'] at hg; exact hg
  exact absurd this (ok.own _ (List.getElem_mem hk'))
 | some gv =>
  rw [hg] at h1
  exact ⟨gv, rfl, ok.k.el _ (List.mem_of_getElem? h1) gv rfl, h1⟩
theorem oP.set (ok : oP l sz szi g xs) (hx : Vm.ix xs i = some x) (e : l x' = l x) : oP l sz szi g (xs.set i.toNat x') := ⟨(ok.k.set hx e).1, ok.own⟩
theorem oP.setL (ok : oP l sz szi g xs) (hx : Vm.ix xs i = some x) (g' : dD) (hg : bJ g' szi (l x').length) : oP l sz szi ⟨g.a, g.gs.set i.toNat (some g')⟩ (xs.set i.toNat x') :=
 ⟨(ok.k.setL hx g' hg).1, fun og h => by rcases List.mem_or_eq_of_mem_set h with h | rfl; exact ok.own og h; exact nofun⟩
end
theorem jW {γ : Type} {l : List γ} {j : Nat} {z : γ} (h : l[j]? = some z) : j < l.length := (List.getElem?_eq_some_iff.1 h).1
theorem YC {h0 : aH} {L L' : HL} (hk : bS h0 L) (e : L = L') : hp h0 L = hp h0 L' ∧ bS h0 L' := by subst e; exact ⟨rfl, hk⟩
theorem rN.br {α β : Type} {l : α → List β} {sz szi : Nat} {ty : TypeId} {ci : β → List AV} {h0 : aH} {L : HL} {g : dS} {xs : List α} {i : Int} {x : α} (ok : rN l sz szi g xs) (hx : Vm.ix xs i = some x) (hci : ∀ y, (ci y).length = szi) (hk : bS h0 L)
    (hm : ∀ e ∈ kO ty ci (nl l (zg xs g.gs)), e ∈ L) : Br (hp h0 L) (awO ci szi (Vm.gx g.gs i.toNat) (l x)) (.sl none szi ((l x).map ci)) := by
  have hn := List.mem_of_getElem? (ok.nlat hx)
  refine Br.awO (ty := ty) hci (ok.el _ hn) fun k hk' => xZ hk (hm _ ?_)
  rw [← hk']
  exact List.mem_map.2 ⟨_, hn, rfl⟩
theorem wF {β : Type} (ci : β → List AV) (szi : Nat) (og : OG) (l : List β) : fS (awO ci szi og l) = true := by
 cases og with
 | none => rfl
 | some g => exact bX _ _ _
section
variable {α β : Type} {l : α → List β} {sz szi : Nat} {ty : TypeId} {ci : β → List AV} {h0 : aH} {L L' : HL}
theorem JP {n : Nat} {f : FR} {cN : α × OG → List AV} {c : α → List AV} {tyo : TypeId} {g : dS} {xs : List α} (bl : List HL) (hL : gW bl = L) (i b : Nat) (hci : ∀ y, (ci y).length = szi)
    (hb : ∀ (H H' : aH) (y : α × OG), Fz H H' (awO ci szi y.2 (l y.1)) (.sl none szi ((l y.1).map ci)) → nV H H' (cN y) (c y.1))
    (ok : rN l sz szi g xs) (hi : bl[i]? = some [(g.a.t, .obj tyo (fl cN (zg xs g.gs) g.a.sp))]) (hbf : bl[b]? = some (kO ty ci (nl l (zg xs g.gs)))) (hib : i < b)
    (hL' : gW ((bl.eraseIdx b).set i [(g.a.t, .obj tyo (fl c xs g.a.sp))]) = L') (hk : bS h0 L) : bS h0 L' ∧ gY (fm n f.k) (hp h0 L') (fm n f.k) (hp h0 L) := by
  subst hL hL'
  -- the array's block and the family's block, ahead of the rest
  have hi' : (bl.eraseIdx b)[i]? = some [(g.a.t, .obj tyo (fl cN (zg xs g.gs) g.a.sp))] := by
    rw [List.getElem?_eraseIdx]; simp [hib, hi]
  generalize hR : ((bl.eraseIdx b).eraseIdx i).flatten = R
  have p1 : (gW bl).Perm (kO ty ci (nl l (zg xs g.gs)) ++ ((g.a.t, .obj tyo (fl cN (zg xs g.gs) g.a.sp)) :: R)) := by
    refine (nT hbf).trans (List.Perm.append_left _ ?_)
    have := nT hi'
    rw [fM, hR] at this
    exact this
  have p2 : (gW ((bl.eraseIdx b).set i [(g.a.t, .obj tyo (fl c xs g.a.sp))])).Perm ((g.a.t, .obj tyo (fl c xs g.a.sp)) :: R) := by
    have := pP [(g.a.t, iH.obj tyo (fl c xs g.a.sp))] hi'
    rw [hR] at this
    exact this
  obtain ⟨e1, k1⟩ := gP p1 hk
  have k2 : bS h0 ((g.a.t, .obj tyo (fl cN (zg xs g.gs) g.a.sp)) :: R) := (dG _ _ k1).1
  have k3 : bS h0 ((g.a.t, .obj tyo (fl c xs g.a.sp)) :: R) := ⟨k2.1, k2.2⟩
  obtain ⟨e2, k4⟩ := gP p2.symm k3
  refine ⟨k4, ?_⟩
  rw [e1, ← e2]
  have hs : gX (hp h0 ((g.a.t, .obj tyo (fl cN (zg xs g.gs) g.a.sp)) :: R)) (hp h0 (kO ty ci (nl l (zg xs g.gs)) ++ ((g.a.t, .obj tyo (fl cN (zg xs g.gs) g.a.sp)) :: R))) := (aV (List.sublist_append_right _ _) k1).1
  intro E w vs r v
  have r1 := o4 r hs
  have kk : eB E w (BE E _ (hp h0 ((g.a.t, .obj tyo (fl cN (zg xs g.gs) g.a.sp)) :: R)) w) w := fX r
  cases ht : g.a.t with
  | none => rw [ht] at r1 kk; exact ⟨_, kk, r1, cB kk _ _ v⟩
  | some k =>
    rw [ht] at r1 kk k2 k1 hs r
    have hg1 : hp h0 ((some k, iH.obj tyo (fl cN (zg xs g.gs) g.a.sp)) :: R) k = some (.obj tyo (fl cN (zg xs g.gs) g.a.sp)) := bB 0 k2 rfl
    obtain ⟨gg, cur, f1, f2, f3, f4⟩ := r.obj k tyo _ (hs _ _ hg1)
    have hfz : nV (hp h0 (kO ty ci (nl l (zg xs g.gs)) ++ ((some k, .obj tyo (fl cN (zg xs g.gs) g.a.sp)) :: R))) (hp h0 ((some k, .obj tyo (fl cN (zg xs g.gs) g.a.sp)) :: R)) (fl cN (zg xs g.gs) g.a.sp) (fl c xs g.a.sp) := by
      unfold fl
      refine nV.append ?_ (nV.refl _ _ _)
      rw [← HA ok.len c]
      refine nV.flat fun y hy => hb _ _ y (Fz.awO (ty := ty) hs hci (ok.el (l y.1, y.2) (List.mem_map.2 ⟨y, hy, rfl⟩)) fun k' hk' => ?_)
      have hm : (some k', iH.obj ty (fl ci (l y.1) (oS y.2))) ∈ kO ty ci (nl l (zg xs g.gs)) := by rw [← hk']; exact List.mem_map.2 ⟨(l y.1, y.2), List.mem_map.2 ⟨y, hy, rfl⟩, rfl⟩
      refine ⟨xZ k1 (List.mem_append_left _ hm), G9 (G8 k1 (List.mem_append_left _ hm)) fun e q => ?_⟩
      have p3 := List.perm_append_comm (l₁ := kO ty ci (nl l (zg xs g.gs))) (l₂ := (some k, iH.obj tyo (fl cN (zg xs g.gs) g.a.sp)) :: R)
      exact DP (gP p3 k1).2 hm q
    obtain ⟨q1, q2⟩ := r1.set_obj hg1 (show (BE E _ (hp h0 ((some k, .obj tyo (fl cN (zg xs g.gs) g.a.sp)) :: R)) w).ob k = some gg from f1) (w' := w) f2 (fun _ _ => rfl) (Nat.le_refl _) rfl rfl rfl (hfz.spec r f3) f4
    have e3 : upd (hp h0 ((some k, iH.obj tyo (fl cN (zg xs g.gs) g.a.sp)) :: R)) k (some (.obj tyo (fl c xs g.a.sp))) = hp h0 ((some k, .obj tyo (fl c xs g.a.sp)) :: R) := by
      funext z
      simp only [hp, upd]
      split <;> rfl
    rw [e3] at q2
    exact ⟨_, kk.trans q1, q2, cB (kk.trans q1) _ _ v⟩
end
theorem NA {P : Program} {h : aH} {n : Nat} {rs : List ResultVar} {Q : AV → aH → Prop} {e : Exit} {f g : FR} {L L' : HL} (le : bS h L → bS h L' ∧ gY (fm n g.k) (hp h L') (fm n f.k) (hp h L)) (k : RV P rs Q h n e g L') : RV P rs Q h n e f L :=
 ⟨fun hk => let ⟨h1, h2⟩ := le hk; let ⟨fr, hh, l2, q⟩ := k.r h1; ⟨fr, hh, h2.trans l2, q⟩⟩
structure yB {α β : Type} (l : α → List β) (sz szi : Nat) (g : dS) (xs : List α) (m N : Nat) : Prop where
 k : rN l sz szi g xs
 len : xs.length = N
 pre : ∀ j, j < m → j < xs.length → gx g.gs j ≠ none
 post : ∀ j, m ≤ j → gx g.gs j = none
section
variable {α β : Type} {l : α → List β} {sz szi : Nat} {g : dS} {xs : List α} {q : Int} {x x' : α} {ty : TypeId} {ci : β → List AV} {h0 : aH} {L L' : HL}
theorem NB (n j : Nat) : gx (List.replicate n none) j = none := by
 unfold gx
 rw [List.getElem?_replicate]
 split <;> rfl
theorem yB.zero {a : dD} (ok : bJ a sz xs.length) : yB l sz szi ⟨a, List.replicate xs.length none⟩ xs 0 xs.length := ⟨rN.plain ok, rfl, fun j h => absurd h (Nat.not_lt_zero _), fun j _ => NB _ _⟩
theorem HC {gs : List OG} {i j : Nat} {og : OG} : gx (gs.set i og) j = if i = j ∧ j < gs.length then og else gx gs j := by
 unfold gx
 rw [List.getElem?_set]
 by_cases e : i = j
 ·subst e
  by_cases h : i < gs.length
  ·simp [h]
  ·simp [h]
 ·simp [e]
theorem yB.step {N : Nat} (ok : yB l sz szi g xs q.toNat N) (hx : Vm.ix xs q = some x) (g' : dD) (hg : bJ g' szi (l x').length) : yB l sz szi ⟨g.a, g.gs.set q.toNat (some g')⟩ (xs.set q.toNat x') (IntKind.wrap .i64 (q + 1)).toNat N := by
 obtain ⟨h1, h2, h3⟩ := fF hx
 have hm := ok.k.a.mx
 have hl := ok.k.a.le
 have hw : (IntKind.wrap .i64 (q + 1)).toNat = q.toNat + 1 := by
  rw [IntKind.wrap_i64]; simp only [maxLen] at hm; omega
 have hk : q.toNat < g.gs.length := by have := ok.k.len; omega
 rw [hw]
 refine ⟨(ok.k.setL hx g' hg).1, by rw [List.length_set]; exact ok.len, fun j hj hj2 => ?_, fun j hj => ?_⟩
 ·simp only [HC]
  rw [List.length_set] at hj2
  split
  ·exact nofun
  ·rename_i q1
   exact ok.pre j (by have := ok.k.len; by_cases e : q.toNat = j <;> omega) hj2
 ·simp only [HC]
  rw [if_neg (by omega)]
  exact ok.post j (by omega)
theorem yB.set {N : Nat} (ok : yB l sz szi g xs q.toNat N) (hx : Vm.ix xs q = some x) (e : l x' = l x) : yB l sz szi g (xs.set q.toNat x') q.toNat N := ⟨(ok.k.set hx e).1, by rw [List.length_set]; exact ok.len, fun j hj hj2 => ok.pre j hj (by rwa [List.length_set] at hj2), ok.post⟩
theorem yB.all {N : Nat} (ok : yB l sz szi g xs q.toNat N) (hq : decide (q < (N : Int)) = false) : oP l sz szi g xs := by
 have hq := of_decide_eq_false hq
 have hN := ok.len
 refine ⟨ok.k, fun og ho => ?_⟩
 obtain ⟨j, hj, rfl⟩ := List.getElem_of_mem ho
 have hl := ok.k.len
 have := ok.pre j (by omega) (by omega)
 unfold gx at this
 rwa [List.getElem?_eq_getElem hj] at this
theorem VG {n : Nat} {f : FR} {cN : α × OG → List AV} {c : α → List AV} {tyo : TypeId} {a : dD} (hc : ∀ x, cN (x, none) = c x) (bl : List HL) (hL : gW bl = L) (i : Nat) (hi : bl[i]? = some [(a.t, .obj tyo (fl c xs a.sp))])
    (hL' : gW (bl.set i [(a.t, .obj tyo (fl cN (zg xs (List.replicate xs.length none)) a.sp))] ++ [kO ty ci (nl l (zg xs (List.replicate xs.length none)))]) = L') (hk : bS h0 L) : bS h0 L' ∧ gY (fm n f.k) (hp h0 L') (fm n f.k) (hp h0 L) := by
  have e1 : fl cN (zg xs (List.replicate xs.length none)) a.sp = fl c xs a.sp := by
    unfold fl
    have : (zg xs (List.replicate xs.length none)).map cN = xs.map c := by
      have h1 : (zg xs (List.replicate xs.length none)).map cN = (zg xs (List.replicate xs.length none)).map (fun y => c y.1) := by
        refine List.map_congr_left fun y hy => ?_
        have h2 := (List.of_mem_zip hy).2
        rw [List.mem_replicate] at h2
        obtain ⟨y1, y2⟩ := y
        simp only at h2
        rw [h2.2, hc]
      rw [h1, HA (by simp)]
    rw [this]
  have e2 : bl.set i [(a.t, iH.obj tyo (fl c xs a.sp))] = bl := by
    obtain ⟨hi', he⟩ := List.getElem?_eq_some_iff.1 hi
    rw [← he]
    exact List.set_getElem_self hi'
  rw [e1, e2] at hL'
  subst hL hL'
  have key : ∀ zs : List (List β × OG), (∀ z ∈ zs, z.2 = none) → ∀ {L : HL}, bS h0 L → bS h0 (kO ty ci zs ++ L) ∧ hp h0 (kO ty ci zs ++ L) = hp h0 L := by
    intro zs
    induction zs with
    | nil => intro _ L hk; exact ⟨hk, rfl⟩
    | cons z zs ih =>
      intro hz L hk
      obtain ⟨k1, k2⟩ := ih (fun z hz' => hz z (List.mem_cons_of_mem _ hz')) hk
      have h1 : oT z.2 = none := by rw [hz z List.mem_cons_self]; rfl
      show bS h0 ((oT z.2, _) :: (kO ty ci zs ++ L)) ∧ hp h0 ((oT z.2, _) :: (kO ty ci zs ++ L)) = _
      rw [h1]
      exact ⟨⟨k1, nofun⟩, k2⟩
  have hz : ∀ z ∈ nl l (zg xs (List.replicate xs.length none)), z.2 = none := by
    intro z hz
    obtain ⟨y, hy, rfl⟩ := List.mem_map.1 hz
    have h2 := (List.of_mem_zip hy).2
    rw [List.mem_replicate] at h2
    exact h2.2
  obtain ⟨k1, k2⟩ := key _ hz hk
  have p : (kO ty ci (nl l (zg xs (List.replicate xs.length none))) ++ gW bl).Perm (gW (bl ++ [kO ty ci (nl l (zg xs (List.replicate xs.length none)))])) := by
    rw [fM, fM, List.flatten_append]
    simp only [List.flatten_cons, List.flatten_nil, List.append_nil]
    exact List.perm_append_comm
  obtain ⟨k3, k4⟩ := gP p k1
  exact ⟨k4, gY.eqh (k2.symm.trans k3)⟩
theorem HD {n : Nat} {f : FR} (bl : List HL) (hL : gW bl = L) (b : Nat) {zs : List (List β × OG)} (j : Nat) (hb : bl[b]? = some (kO ty ci zs)) (hL' : gW (bl.set b (kO ty ci (zs.eraseIdx j))) = L') (hk : bS h0 L) : bS h0 L' ∧ gY (fm n f.k) (hp h0 L') (fm n f.k) (hp h0 L) := by
 subst hL hL'
 obtain ⟨e1, k1⟩ := gP (nT hb) hk
 have hs : (kO ty ci (zs.eraseIdx j) ++ (bl.eraseIdx b).flatten).Sublist (kO ty ci zs ++ (bl.eraseIdx b).flatten) := ((List.eraseIdx_sublist zs j).map _).append_right _
 obtain ⟨s1, k2⟩ := aV hs k1
 obtain ⟨e2, k3⟩ := gP (pP (kO ty ci (zs.eraseIdx j)) hb).symm k2
 refine ⟨k3, gY.of ?_ (cO.refl _ _)⟩
 rw [e1, ← e2]
 exact s1
end
theorem NC {P : Program} {h : aH} {n : Nat} {τ σ ρ : Type} {id : Nat} {c : Code} {kn : FR → HL → Prop} {ke : Exit → FR → HL → Prop} {f : FR} {L : HL} {step : σ → Option (Lp σ ρ)} {fuel : Nat} {s0 : σ} {k : σ → Option ρ} {o : ρ} (hm : after (aY step fuel s0) k = some o)
    (Lg : τ → σ → HL) (J JB : τ → σ → Prop) (sl : τ → σ → FR) (g0 : τ) (i0 : J g0 s0) (h0 : LX h n f L (sl g0 s0) (Lg g0 s0))
    (round : ∀ g s x, J g s → step s = some x → VC P h n c (GN h n J sl Lg .go x) (GE h n JB sl Lg (some id) ke o x) (sl g s) (Lg g s))
    (next : ∀ g s, JB g s → k s = some o → kn (sl g s) (Lg g s)) : VC P h n (.block id (.loop c)) kn ke f L := by
  refine ⟨fun hkL => sJ ?_⟩
  obtain ⟨out, hout, hk⟩ : ∃ out, aY step fuel s0 = some out ∧ ((∃ s, out = .brk s ∧ k s = some o) ∨ ∃ r, out = .ret r ∧ r = o) := by
    cases e : aY step fuel s0 with
    | none => rw [e] at hm; cases hm
    | some out =>
      rw [e] at hm
      cases out with
      | go s => cases hm
      | brk s => exact ⟨_, rfl, .inl ⟨s, rfl, hm⟩⟩
      | ret r => exact ⟨_, rfl, .inr ⟨r, rfl, Option.some.inj hm⟩⟩
  obtain ⟨hk1, le1⟩ := h0 hkL
  refine C5 (fun m fr' h' => ∃ s, aY step m s = some out ∧ ∃ g, J g s ∧ bS h (Lg g s) ∧ gY (fm n (sl g s).k) (hp h (Lg g s)) fr' h') fuel ⟨s0, hout, g0, i0, hk1, le1⟩ ?_
  rintro m fr' h' ⟨s, hs, g, hj, hk2, hle⟩
  cases m with
  | zero => cases hs
  | succ m =>
    simp only [aY] at hs
    cases e : step s with
    | none => rw [e] at hs; cases hs
    | some x =>
      rw [e] at hs
      refine hle.aw (((round g s x hj e).r hk2).mono ?_)
      rintro ex fr'' h'' ⟨f1, L1, hk3, le3, q⟩
      have fin : ∀ {ex : Exit}, GE h n JB sl Lg (some id) ke o x ex f1 L1 → ex ≠ .normal → (∃ s', x = .brk s' ∧ ex = .exit id ∧ ∃ g', JB g' s' ∧ LX h n f1 L1 (sl g' s') (Lg g' s')) ∨ (ke ex f1 L1 ∧ ex ≠ .exit id) := by
        intro ex q hne
        cases q with
        | b i' hi he q =>
          cases hi
          obtain ⟨s', g', e1, j', le4⟩ := q.g
          exact .inl ⟨s', e1, he, g', j', le4⟩
        | r y hx h1 h2 k2 =>
          subst hx; cases hs
          rcases hk with ⟨s2, e2, _⟩ | ⟨r', e2, e3⟩
          · cases e2
          · cases e2; exact .inr ⟨k2 e3, h2 id rfl⟩
      cases ex with
      | normal =>
        obtain ⟨s', g', rfl, j', le4⟩ := q.g
        obtain ⟨hk5, le5⟩ := le4.le hk3 le3
        exact ⟨m, Nat.lt_succ_self m, s', hs, g', j', hk5, le5⟩
      | exit i =>
        rcases fin q nofun with ⟨s', rfl, he, g', j', le4⟩ | ⟨hke, hne⟩
        · cases he
          obtain ⟨hk5, le5⟩ := le4.le hk3 le3
          cases hs
          simp only [Seq, E8, if_true]
          rcases hk with ⟨s2, e2, hk⟩ | ⟨r, e2, _⟩
          · cases e2; exact ⟨_, _, hk5, le5, next _ _ j' hk⟩
          · cases e2
        · have : i ≠ id := fun e => hne (by rw [e])
          simp only [Seq, E8, this, if_false]
          exact ⟨_, _, hk3, le3, hke⟩
      | goto l =>
        rcases fin q nofun with ⟨_, _, he, _⟩ | ⟨hke, _⟩
        · cases he
        · exact ⟨_, _, hk3, le3, hke⟩
      | ret =>
        rcases fin q nofun with ⟨_, _, he, _⟩ | ⟨hke, _⟩
        · cases he
        · exact ⟨_, _, hk3, le3, hke⟩
      | panic c =>
        rcases fin q nofun with ⟨_, _, he, _⟩ | ⟨hke, _⟩
        · cases he
        · exact ⟨_, _, hk3, le3, hke⟩
      | outgrown =>
        rcases fin q nofun with ⟨_, _, he, _⟩ | ⟨hke, _⟩
        · cases he
        · exact ⟨_, _, hk3, le3, hke⟩
section
variable {P : Program}
theorem A3 (w : World) (dT sT ty e : TypeId) (i : TypeInfo) (hu : P.underlying dT = some (.slice e)) (hi : P.info? e = some i) (g o dLen dCap : Nat) (cur : Array Value) (hg : w.heap[g]? = some (.cells cur e (0, 0)))
    (a : Addr) (sLen sCap : Nat) (cs : List Value) (hn : cs.length = min sLen dLen * i.size) (hsrc : ∀ j v, cs[j]? = some v → w.cell? (a.add j) = some v) (h1 : ∀ v ∈ cs, v.oneCell' = true) (hfit : o + cs.length ≤ cur.size) :
    (Builtin.copy_ #[dT, sT] ty #[.slice (some ⟨g, o, none⟩) dLen dCap, .slice (some a) sLen sCap]).run P w =
      .ok (goInt (min sLen dLen : Nat)) (w.setRow g (cur.toList.take o ++ cs ++ cur.toList.drop (o + cs.length)).toArray) := by
  have hf := run_firstCells_some (P := P) w i.size (min sLen dLen) a sLen sCap cs hn hsrc
  have hst := run_storeCells_at P g o e cs 0 cur w hg (by simpa using hfit) h1
  simp only [Nat.add_zero] at hst
  have hm : Nat.min sLen dLen = min sLen dLen := rfl
  simp [Builtin.copy_, run_underlying hu, Builtin.lenOf, sizeOf, typeInfo, hi, hm, hf, hst]
variable {ops : Array Oper} {h h0 : aH} {L : HL} {n : Nat} {kvs : KV} {l : List Oper} {ty : TypeId} {pos : String} {dP : Array Edge}
def IE (h : aH) (x : AV) (m k : Nat) (cs : List AV) : Prop := ∀ E w v, fD E h w → VR E w x v → ∃ a cap cv, v = .slice (some a) m cap ∧ cL E w cs cv ∧ (∀ u ∈ cv, u.oneCell' = true) ∧ (∀ j u, cv[j]? = some u → w.cell? (a.add j) = some u)
theorem IE.sl {tag : Option bZ} {sz : Nat} {ys : List (List AV)} (hne : ys ≠ []) (k : Nat) : IE h (.sl tag sz ys) ys.length k ys.flatten := by
 intro E w v r hv
 obtain ⟨g, o, cap, cv, e, c1, c2, c3, c4⟩ := kA hv hne
 exact ⟨_, cap, cv, e, c1, c2, fun j u hj => by rw [Addr.add_lit]; exact (c4 j u hj).1⟩
theorem IE.view {k : bZ} {off m c : Nat} {cs : List AV} {e : TypeId} (hk : h k = some (.obj e cs)) : IE h (.view k off m) m c ((cs.drop off).take c) := by
 intro E w v r hv
 simp only [VR] at hv
 obtain ⟨g, cap, hg, rfl, h1, h2⟩ := hv
 obtain ⟨g', cur, e1, e2, e3, e4⟩ := r.obj _ _ _ hk
 rw [hg] at e1; cases e1
 refine ⟨_, cap, (cur.toList.drop off).take c, rfl, fN _ (hC _ e3), fun u hu => e4 u (List.mem_of_mem_drop (List.mem_of_mem_take hu)), fun j u hj => ?_⟩
 rw [List.getElem?_take] at hj
 split at hj
 ·rw [List.getElem?_drop] at hj
  rw [Addr.add_lit]
  simp only [World.cell?, e2]
  simpa using hj
 ·cases hj
theorem HE {K : AV → aH → Prop} {dst : Option Tmp} {d s : Operand} {dT sT e : TypeId} {sz b : Nat} (ht : jD P dT e sz b) {k : bZ} {off n1 m : Nat} {cur cs : List AV} (hd : dN n kvs d = .view k off n1) (hk : h k = some (.obj e cur))
    (hs : IE h (dN n kvs s) m cs.length cs) (hl : cs.length = min m n1 * sz) (hfit : off + cs.length ≤ cur.length)
    (hK : K .any (upd h k (some (.obj e (eT cur off cs))))) :
    iB P ⟨dst, .call { callee := .builtin .copy, args := #[d, s], argTypes := #[dT, sT] }, ty, pos, dP, none⟩ K (fm n kvs) h := by
  obtain ⟨i, z, hi, hz, rfl, rfl, hzs, hsp⟩ := ht.inf
  intro E w a r hv Nx Qx hn
  have vd := hv d (by simp [Op.operands, Call.operands])
  have vs := hv s (by simp [Op.operands, Call.operands])
  rw [bG] at vd vs
  rw [hd] at vd
  simp only [VR] at vd
  obtain ⟨g, dc, hg, ed, d1, d2⟩ := vd
  obtain ⟨sa, sc, cv, es, c1, c2, c3⟩ := hs E w _ r vs
  obtain ⟨g', cu, f1, f2, f3, f4⟩ := r.obj _ _ _ hk
  rw [hg] at f1; cases f1
  have hlen : cur.length = cu.size := by simpa using cT f3
  have hcl : cs.length = cv.length := cT c1
  have hrun := A3 (P := P) w dT sT ty e i ht.ut hi g off n1 dc cu f2 sa m sc cv (by rw [← hcl]; exact hl) c3 c2 (by omega)
  have hv' : cL E w (eT cur off cs) (cu.toList.take off ++ cv ++ cu.toList.drop (off + cv.length)) := by
    unfold eT
    rw [hcl]
    exact cU (cU (fN _ f3) c1) (hC _ f3)
  have h1' : ∀ u ∈ cu.toList.take off ++ cv ++ cu.toList.drop (off + cv.length), u.oneCell' = true := by
    intro u hu
    rcases List.mem_append.1 hu with hu | hu
    · rcases List.mem_append.1 hu with hu | hu
      · exact f4 u (List.mem_of_mem_take hu)
      · exact c2 u hu
    · exact f4 u (List.mem_of_mem_drop hu)
  obtain ⟨k1, k2⟩ := r.set_obj (cur := (cu.toList.take off ++ cv ++ cu.toList.drop (off + cv.length)).toArray) hk hg
    (w' := w.setRow g (cu.toList.take off ++ cv ++ cu.toList.drop (off + cv.length)).toArray)
    (setRow_heap w g cu _ e _ f2) (fun g' hg' => setRow_other w g g' _ hg') (by simp) rfl rfl rfl (by simpa using hv') (by simpa using h1')
  unfold Oper.wp
  have hex : (execOp a.eval ⟨dst, .call { callee := .builtin .copy, args := #[d, s], argTypes := #[dT, sT] }, ty, pos, dP, none⟩).run P w = .ok (.value (goInt (min m n1 : Nat))) (w.setRow g (cu.toList.take off ++ cv ++ cu.toList.drop (off + cv.length)).toArray) := by
    simp only [execOp, resolve, invoke, builtin, List.map_toArray, List.map_cons, List.map_nil, ed, es, Sem.run_bind, Sem.run_pure, Result.andThen_ok, hrun]
  rw [hex]
  exact hn .any _ _ E _ k1 k2 (by simp only [VR]) hK
theorem yC {K : AV → aH → Prop} {dst : Option Tmp} {d s : Operand} {dT sT e : TypeId} {sz b : Nat} (p : Nat) (ht : jD P dT e sz b) (hk : bS h0 L) {k : bZ} {off n1 m : Nat} {cur cs : List AV} (hd : dN n kvs d = .view k off n1) (hi : L[p]? = some (some k, .obj e cur))
    (hs : IE (hp h0 L) (dN n kvs s) m cs.length cs) (hl : cs.length = min m n1 * sz) (hfit : off + cs.length ≤ cur.length) (cur' : List AV) (hc : eT cur off cs = cur')
    (hK : bS h0 (L.set p (some k, .obj e cur')) → K .any (hp h0 (L.set p (some k, .obj e cur')))) :
    iB P ⟨dst, .call { callee := .builtin .copy, args := #[d, s], argTypes := #[dT, sT] }, ty, pos, dP, none⟩ K (fm n kvs) (hp h0 L) := by
  subst hc
  obtain ⟨h1, h2, _⟩ := iC (e' := .obj e (eT cur off cs)) p hk hi (.inl rfl)
  refine HE ht hd (bB p hk hi) hs hl hfit ?_
  rw [h1]
  exact hK h2
theorem ND {dst : Option Tmp} {s : Operand} {t e : TypeId} {k : bZ} {m cap : Nat} (hu : P.underlying t = some (.slice e)) (ha : dN n kvs s = .vw k m cap) :
    eI P ⟨dst, .call { callee := .builtin .cap, args := #[s], argTypes := #[t] }, ty, pos, dP, none⟩ (.sc (.int .i64 cap)) (fm n kvs) h := by
  refine eR (x := .sc (.int .i64 cap)) (fun E w ac r hv => ?_) ⟨rfl, rfl⟩
  have vs := hv s (by simp [Op.operands, Call.operands])
  rw [bG, ha] at vs
  simp only [VR] at vs
  obtain ⟨g, hg, es, h1, h2⟩ := vs
  refine ⟨.int .i64 cap, ?_, by simp only [VR]⟩
  simp [execOp, resolve, invoke, builtin, es, Builtin.cap_, run_underlying hu, goInt]
theorem KO {dst : Option Tmp} {s : Nat} {hi : Operand} {t : TypeId} {k : bZ} {m cap sz : Nat} {q : IntKind} {i : Int} (h0' : 0 ≤ i) (h1' : i ≤ (cap : Int)) (ht : lS P t = some sz) (ha : dN n kvs (.tmp s) = .vw k m cap) (hb : dN n kvs hi = .sc (.int q i)) :
    eI P ⟨dst, .slice t (.tmp s) none (some hi) none, ty, pos, dP, none⟩ (.vw k i.toNat cap) (fm n kvs) h := by
  obtain ⟨e, hu, he⟩ := fO ht
  refine eR (x := .vw k i.toNat cap) (fun E w ac r hv => ?_) ⟨rfl, rfl⟩
  have va := hv (.tmp s) (by simp [Op.operands])
  have vb := hv hi (by simp [Op.operands])
  rw [bG, ha] at va; rw [bG, hb] at vb
  simp only [VR] at va vb
  obtain ⟨g, hg, e1, e2, e3⟩ := va
  have hbd := fQ (P := P) (w := w) (sl := true) (len := m) (cap := cap) (l := 0) (h := i) (lo := none) (hi := some (.sc (.int q i))) (lv := none) (hv := some (.int q i)) rfl rfl (E := E) nofun (fun _ => rfl)
    (fun x hx => by cases hx; exact ⟨_, rfl, by simp only [VR]⟩) nofun (by omega) h0' (by omega)
  refine ⟨.slice (some ⟨g, 0, none⟩) i.toNat cap, ?_, by simp only [VR]; exact ⟨g, hg, rfl, by omega, e3⟩⟩
  by_cases hz : cap = 0
  · subst hz
    have hi0 : i.toNat = 0 := by omega
    simp [execOp, e1, vb, Instr.sliceAt, Instr.slice, run_underlying hu, hbd, cP he, hi0]
  · have : ¬ cap = (0 : Int).toNat := by simpa using hz
    simp [execOp, e1, vb, Instr.sliceAt, Instr.slice, run_underlying hu, hbd, cP he, hz, Addr.add]
theorem QZ {dst : Option Tmp} {s : Nat} {lo : Operand} {t : TypeId} {k : bZ} {m cap sz : Nat} {q : IntKind} {i : Int} (h0' : 0 ≤ i) (h1' : i ≤ (m : Int)) (ht : lS P t = some sz) (ha : dN n kvs (.tmp s) = .vw k m cap) (hb : dN n kvs lo = .sc (.int q i)) :
    eI P ⟨dst, .slice t (.tmp s) (some lo) none none, ty, pos, dP, none⟩ .any (fm n kvs) h := by
  obtain ⟨e, hu, he⟩ := fO ht
  refine eR (x := .any) (fun E w ac r hv => ?_) ⟨rfl, rfl⟩
  have va := hv (.tmp s) (by simp [Op.operands])
  have vb := hv lo (by simp [Op.operands])
  rw [bG, ha] at va; rw [bG, hb] at vb
  simp only [VR] at va vb
  obtain ⟨g, hg, e1, e2, e3⟩ := va
  have hbd := fQ (P := P) (w := w) (sl := true) (len := m) (cap := cap) (l := i) (h := m) (lo := some (.sc (.int q i))) (hi := none) (lv := some (.int q i)) (hv := none) rfl rfl (E := E) (fun x hx => by cases hx; exact ⟨_, rfl, by simp only [VR]⟩) nofun
    nofun (fun _ => rfl) h0' h1' (by omega)
  refine ⟨.slice (if cap = i.toNat then some ⟨g, 0, none⟩ else some (Addr.add ⟨g, 0, none⟩ (i.toNat * sz))) (m - i.toNat) (cap - i.toNat), ?_, by simp only [VR]⟩
  simp [execOp, e1, vb, Instr.sliceAt, Instr.slice, run_underlying hu, hbd, cP he]
theorem tY {dst : Option Tmp} {s : Nat} {lo : Operand} {t : TypeId} {k : bZ} {m cap sz : Nat} {q : IntKind} {i : Int} (h0' : 0 ≤ i) (h1' : i < (m : Int)) (ht : lS P t = some sz) (ha : lk n kvs s = .vw k m cap) (hb : dN n kvs lo = .sc (.int q i)) :
    eI P ⟨dst, .slice t (.tmp s) (some lo) none none, ty, pos, dP, none⟩ (.view k (i.toNat * sz) (m - i.toNat)) (fm n kvs) h := by
  have hT : zM P t = true := by simp [zM, ht]
  refine o1 (s := s) (.view k 0 m) (by rw [ha]; exact xB _ _ _ _) (iJ (c := 0 ≤ i ∧ i < (m : Int) ∧ (m : Int) ≤ m) ?_ ⟨h0', h1', by omega⟩)
  have e : dN n (kp kvs s (.view k 0 m)) (.tmp s) = .view k 0 m := AA ha (by simp)
  have e2 : dN n (kp kvs s (.view k 0 m)) lo = .sc (.int q i) := BW ha (by simp) hb
  simp only [pv, bG, e, Option.map_some, e2, Option.map_none, wN, ht, Option.bind_some, mJ, jC, hT, if_true, Nat.zero_add, Int.toNat_natCast]
theorem NE {K : AV → aH → Prop} {dst : Option Tmp} {s x : Operand} {t tn e : TypeId} {sz b : Nat} {ik : IntKind} {zv : List Value} (p : Nat) (ht : jD P t e sz b) (htn : P.underlying tn = some (.int ik)) (hzr : p8 P e = some zv) (hzo : zv.all (·.oneCell') = true) (hpos : 0 < sz)
    (hk : bS h0 L) {k : bZ} {i m cap : Nat} {cs : List AV} (ha : dN n kvs s = .vw k i cap) (hi : L[p]? = some (some k, .obj e cs)) (hx : dN n kvs x = .sc (.int ik (m : Int))) (hfull : cap < i + m) (hcs : i * sz ≤ cs.length) (hb : (i + m) * (b + 1) ≤ 140737488355328)
    (k2 : ∀ (q : bZ) (cap' : Nat) (R : List AV), i + m ≤ cap' → cap' ≤ maxLen → i * sz + R.length = cap' * sz → bS h0 ((some q, .obj e (cs.take (i * sz) ++ R)) :: L) → K (.vw q (i + m) cap') (hp h0 ((some q, .obj e (cs.take (i * sz) ++ R)) :: L))) :
    iB P ⟨dst, .call { callee := .builtin .append, args := #[s, x], argTypes := #[t, tn] }, ty, pos, dP, none⟩ K (fm n kvs) (hp h0 L) := by
  obtain ⟨ii, z, hii, hz, rfl, rfl, hzs, hsp⟩ := ht.inf
  have hzc : ∀ u ∈ z.cells.toList, u.oneCell' = true := by
    have : zv = z.cells.toList := by
      unfold p8 at hzr
      rw [hii] at hzr
      simp only [Option.bind_some, hz, Option.map_some, Option.some.injEq] at hzr
      exact hzr.symm
    subst this
    exact fun u hu => List.all_eq_true.1 hzo u hu
  rw [Nat.mul_add, Nat.mul_one] at hb
  intro E w a r hv Nx Qx hn
  have vs := hv s (by simp [Op.operands, Call.operands])
  have vx := hv x (by simp [Op.operands, Call.operands])
  rw [bG] at vs vx
  rw [ha] at vs; rw [hx] at vx
  simp only [VR] at vs vx
  obtain ⟨g, hg, es, h1, h2⟩ := vs
  obtain ⟨g', cur, f1, f2, f3, f4⟩ := r.obj _ _ _ (bB p hk hi)
  rw [hg] at f1; cases f1
  have hlen : cs.length = cur.size := by simpa using cT f3
  have htl : (cur.toList.take (i * ii.size)).length = i * ii.size := by
    rw [List.length_take]
    have : cur.toList.length = cur.size := by simp
    omega
  have hold : ∀ j u, (cur.toList.take (i * ii.size))[j]? = some u → w.drew.cell? ((⟨g, 0, none⟩ : Addr).add j) = some u := by
    intro j u hj
    rw [Addr.add_lit, Nat.zero_add]
    rw [List.getElem?_take] at hj
    split at hj
    · show w.cell? ⟨g, j, none⟩ = some u
      simp only [World.cell?, f2]
      simpa using hj
    · cases hj
  have hf := run_firstCells_some (P := P) w.drew ii.size i ⟨g, 0, none⟩ i cap (cur.toList.take (i * ii.size)) htl hold
  have hm0 : 0 < m := by omega
  have hw : IntKind.i64.wrap (m : Int) = m := by rw [IntKind.wrap_i64]; omega
  have hnn : ¬ ((m : Int) < 0) := by omega
  have hfit : Builtin.nextslicecap (i + m) cap * ii.bytes ≤ 281474976710656 := growslice_fits (by omega) (by omega)
  have hmb : ¬ (281474976710656 < (m : Int) * (ii.bytes : Int)) := by
    rw [← Int.natCast_mul]
    have : m * ii.bytes ≤ (i + m) * ii.bytes := Nat.mul_le_mul_right _ (by omega)
    omega
  have hnr : ¬ (i + m ≤ cap) := by omega
  have h63 : ¬ (9223372036854775807 < (i : Int) + (m : Int)) := by omega
  have hnf : ¬ (281474976710656 < Builtin.nextslicecap (i + m) cap * ii.bytes) := by omega
  have hns : ¬ (m * ii.size = 0) := Nat.mul_ne_zero (by omega) (by omega)
  have hm00 : m ≠ 0 := by omega
  have hsz0 : ii.size ≠ 0 := by omega
  have hrun : (Builtin.append_ #[t, tn] ty #[.slice (some ⟨g, 0, none⟩) i cap, .int ik m]).run P w =
      .ok (.slice (some ⟨w.heap.size, 0, none⟩) (i + m) (grownCap w (i + m) cap e)) (w.drew.alloc (.cells ((cur.toList.take (i * ii.size)).toArray ++ Builtin.zeroCells z.cells m ++ Builtin.zeroCells z.cells (grownCap w (i + m) cap e - (i + m))) e)) := by
    simp [Builtin.append_, run_underlying ht.ut, run_underlying htn, sizeOf, typeInfo, zeroValue, hii, hz, asInt, asIntOf, hw, hnn, hmb, hnr, h63, hnf, hns, hm00, hsz0, Question.forced, hf, newRow, grownCap]
  have hge := grownCap_ge w (i + m) cap e
  have hcm : grownCap w (i + m) cap e ≤ maxLen := grownCap_le_maxLen w (i + m) cap e (by simp only [maxLen]; omega)
  generalize hgc : grownCap w (i + m) cap e = gc at hge hcm hrun
  obtain ⟨rd, kd⟩ := r.drewn (w.drawn + 1)
  have rd' : fD E (hp h0 L) w.drew := rd
  obtain ⟨nn, hE1⟩ := rd'.fresh 0
  have hlz : ∀ q, (Builtin.zeroCells z.cells q).toList.length = q * ii.size := fun q => by rw [Array.length_toList, size_zeroCells, hzs]
  have hvl : cL E w.drew (cs.take (i * ii.size) ++ List.replicate ((Builtin.zeroCells z.cells m).toList.length + (Builtin.zeroCells z.cells (gc - (i + m))).toList.length) AV.any) ((cur.toList.take (i * ii.size)).toArray ++ Builtin.zeroCells z.cells m ++ Builtin.zeroCells z.cells (gc - (i + m))).toList := by
    rw [Array.toList_append, Array.toList_append, List.append_assoc]
    exact cU (cB kd _ _ (fN _ f3)) (oR _ (by rw [List.length_append]))
  obtain ⟨E', e1, e2, e3⟩ := fD.new_obj (w := w.drew) rd' hE1 e hvl (by
    intro v hv
    rw [Array.toList_append, Array.toList_append] at hv
    rcases List.mem_append.1 hv with hv | hv
    · rcases List.mem_append.1 hv with hv | hv
      · exact f4 v (List.mem_of_mem_take (by simpa using hv))
      · exact iE hzc v hv
    · exact iE hzc v hv)
  unfold Oper.wp
  have hex : (execOp a.eval ⟨dst, .call { callee := .builtin .append, args := #[s, x], argTypes := #[t, tn] }, ty, pos, dP, none⟩).run P w = .ok (.value (.slice (some ⟨w.heap.size, 0, none⟩) (i + m) gc)) (w.drew.alloc (.cells ((cur.toList.take (i * ii.size)).toArray ++ Builtin.zeroCells z.cells m ++ Builtin.zeroCells z.cells (gc - (i + m))) e)) := by
    simp only [execOp, resolve, invoke, builtin, List.map_toArray, List.map_cons, List.map_nil, es, vx, Sem.run_bind, Sem.run_pure, Result.andThen_ok, hrun]
  rw [hex]
  have hno : hp h0 L (0, nn) = none := by
    cases hh : hp h0 L (0, nn) with
    | none => rfl
    | some en => exact absurd (r.hus _ _ hh) hE1
  have hkk := k2 (0, nn) gc (List.replicate ((Builtin.zeroCells z.cells m).toList.length + (Builtin.zeroCells z.cells (gc - (i + m))).toList.length) AV.any) hge hcm (by
    rw [List.length_replicate, hlz, hlz, ← Nat.add_mul, ← Nat.add_mul]
    congr 1; omega) ⟨hk, fun k e => by cases e; exact hno⟩
  refine hn (.vw (0, nn) (i + m) gc) _ _ E' _ (kd.trans e2) e3 ?_ hkk
  simp only [VR]
  exact ⟨_, e1, rfl, hge, hcm⟩
theorem yD {K : AV → aH → Prop} {dst : Option Tmp} {x y : Operand} {ts : Array TypeId} {f : FuncId} {fn : Func} {tS tR e : TypeId} {sz : Nat} (hf : P.funcs[f]? = some fn) (hname : (fn.name == "runtime.NumGoroutine") = false)
    (hb : fn.body.isNone = true) (hn' : Extern.findNext fn = none) (he : Extern.find fn = some (Extern.SlicesOverlaps.overlaps #[tS, tS] #[tR])) {b : Nat} (het : jD P tS e sz b) {ys : List (List AV)} (hne : ys ≠ []) {k : bZ} {off m : Nat} {cs : List AV} {ty2 : TypeId}
    (hsz : 0 < sz) (hx : dN n kvs x = .sl none sz ys) (hy : dN n kvs y = .view k off m) (hk : h k = some (.obj ty2 cs)) (hcs : 0 < cs.length) (k1 : K (.sc (.bool false)) h) :
    iB P ⟨dst, .call { callee := .value (.func f), args := #[x, y], argTypes := ts }, ty, pos, dP, none⟩ K (fm n kvs) h := by
  obtain ⟨ii, z, hii, -, -, -, -, -⟩ := het.inf
  have ht := het.ut
  refine eR (x := .sc (.bool false)) (fun E w a r hv => ?_) k1
  have vx := hv x (by simp [Op.operands, Call.operands])
  have vy := hv y (by simp [Op.operands, Call.operands])
  rw [bG] at vx vy
  rw [hx] at vx; rw [hy] at vy
  have hall : ∀ z ∈ ys, z.length = sz := by
    have := vx
    simp only [VR] at this
    obtain ⟨_, _, _, _, _, _, h4, _⟩ := this
    exact h4
  obtain ⟨gb, o, cap, cv, ex, c1, c2, c3, c4⟩ := kA vx hne
  simp only [VR] at vx vy
  obtain ⟨g, yc, hg, ey, y1, y2⟩ := vy
  obtain ⟨a0, cap0, ea, -, -, h3, -, -⟩ := vx
  obtain ⟨g', cur, f1, f2, f3, f4⟩ := r.obj _ _ _ hk
  rw [hg] at f1; cases f1
  have hlen : cs.length = cur.size := by simpa using cT f3
  have hcl : 0 < cv.length := by
    rw [c3]
    exact Nat.mul_pos (List.length_pos_iff.2 hne) hsz
  obtain ⟨u, hu⟩ : ∃ u, cv[0]? = some u := ⟨cv[0], List.getElem?_eq_getElem hcl⟩
  obtain ⟨hc0, hp0⟩ := c4 0 u hu
  rw [Nat.add_zero] at hc0
  have himm : E.imm gb o := by
    rcases hp0 with h5 | ⟨kk, t, h5, _⟩
    · simpa using h5
    · cases h5
  have hbne : gb ≠ g := fun q => (r.dis k g (.inl ⟨_, rfl, hk, hg⟩)).2 o (q ▸ himm)
  have hb1 : (gb != g) = true := by simpa using hbne
  have hb2 : (gb == g) = false := by simpa using hbne
  obtain ⟨bs, bt, bz, hblk⟩ : ∃ cells ty fz, w.heap[gb]? = some (.cells cells ty fz) := by
    cases hh : w.heap[gb]? with
    | none => simp [World.cell?, hh] at hc0
    | some ob => cases ob with
      | cells a b c => exact ⟨a, b, c, rfl⟩
      | _ => simp [World.cell?, hh] at hc0
  have hsa : w.shape? gb = some (bt, bs.size) := by simp [World.shape?, hblk]
  have hsb : w.shape? g = some (ty2, cur.size) := by simp [World.shape?, f2]
  have hfb : ∀ off, w.frozen? ⟨g, off, none⟩ = false := fun off => by simp [World.frozen?, f2]
  have hcz : cur.size ≠ 0 := by omega
  have hbz : bs.size ≠ 0 := by
    intro hz
    have : bs = #[] := by simpa using hz
    rw [this] at hblk
    simp [World.cell?, hblk] at hc0
  have hrun : (Extern.SlicesOverlaps.overlaps #[tS, tS] #[tR] #[.slice (some ⟨gb, o, none⟩) ys.length cap, .slice (some ⟨g, off, none⟩) m yc]).run P w = .ok (.bool false) w := by
    refine (Sem.run_bind (x := underlying tS) ..).trans ?_
    rw [run_underlying ht]
    simp only [Result.andThen_ok]
    have hsz' : (sizeOf e).run P w = .ok ii.size w := by simp [sizeOf, typeInfo, hii]
    by_cases hz : ys.length = 0 ∨ m = 0 ∨ ii.size = 0
    · rcases hz with hz | hz | hz
      · exact absurd (List.length_eq_zero_iff.1 hz) hne
      · simp [run_underlying ht, hsz', hz]
      · simp [run_underlying ht, hsz', hz]
    · cases hsc : cur.size with
      | zero => exact absurd hsc hcz
      | succ q =>
        cases hbc : bs.size with
        | zero => exact absurd hbc hbz
        | succ q2 =>
        rw [hsc] at hsb
        rw [hbc] at hsa
        simp [run_underlying ht, hsz', hz, hb1, hb2, frozen, noView, viewAt, mayBeOne, stringish, shape, Sem.run, hsa, hsb, hfb]
  refine ⟨.bool false, ?_, by simp only [VR]⟩
  rw [ex] at ea
  have hfu : a.eval (.func f) = .func (.func f) #[] #[] := rfl
  simp only [execOp, resolve, hfu, Deferred.ofValue, invoke, List.map_toArray, List.map_cons, List.map_nil, Sem.run_bind, Sem.run_pure, Result.andThen_ok, ex, ey]
  simp [run_callFunc_extern hf hname hb hn' he, hrun]
end
section
variable {α : Type} {c : α → List AV} {sz : Nat}
def A4 (xs : List α) (i : Int) (x : α) : Option (List α) := if 0 ≤ i ∧ i ≤ (xs.length : Int) ∧ xs.length < 1000000000 then some (xs.take i.toNat ++ x :: xs.drop i.toNat) else none
theorem nU {xs o : List α} {i : Int} {x : α} (h : A4 xs i x = some o) : 0 ≤ i ∧ i ≤ (xs.length : Int) ∧ xs.length < 1000000000 ∧ o = xs.take i.toNat ++ x :: xs.drop i.toNat := by
 unfold A4 at h
 split at h
 ·rename_i q; cases h; exact ⟨q.1, q.2.1, q.2.2, rfl⟩
 ·cases h
theorem JQ {xs : List α} {x : α} (h : xs.length < 1000000000) : app xs [x] = some (xs ++ [x]) := by
 unfold app
 rw [if_pos (by simp only [List.length_append, List.length_singleton]; omega)]
theorem NF {P : Program} {n : Nat} {kvs : KV} {h : aH} {ty : TypeId} {pos : String} {dP : Array Edge} {dst : Option Tmp} {s : Nat} {lo : Operand} {t : TypeId} {g : dD} {m : Nat} {q : IntKind} {i : Int} (h0' : 0 ≤ i) (h1' : i ≤ (m : Int)) (ok : bJ g sz m) (ht : lS P t = some sz) (ha : dN n kvs (.tmp s) = aw g.t g.n g.cap) (hb : dN n kvs lo = .sc (.int q i)) :
    eI P ⟨dst, .slice t (.tmp s) (some lo) none none, ty, pos, dP, none⟩ .any (fm n kvs) h := by
  rw [ok.eqn] at ha
  cases ht' : g.t with
  | some k => rw [ht'] at ha; exact QZ h0' h1' ht ha hb
  | none =>
    rw [ht'] at ha
    have := ok.nil ht'
    have hi0 : i = 0 := by omega
    subst hi0
    have hT : zM P t = true := by simp [zM, ht]
    have ha : dN n kvs (.tmp s) = .e0 := ha
    refine iD (x := .e0) (iJ (c := (0 : Int) = 0 ∧ (0 : Int) = 0) ?_ ⟨rfl, rfl⟩) (fun _ _ _ _ _ => by simp only [VR])
    simp only [pv, bG, ha, Option.map_some, hb, Option.map_none, wN, ht, Option.bind_some, mJ, jC, hT, if_true]
theorem EV (hc : ∀ y, (c y).length = sz) {xs : List α} {i : Nat} (hi : i ≤ xs.length) (sp : List AV) :
    fl c xs sp = ((xs.take i).map c).flatten ++ (((xs.drop i).map c).flatten ++ sp) ∧ ((xs.take i).map c).flatten.length = i * sz ∧ ((xs.drop i).map c).flatten.length = (xs.length - i) * sz ∧
      ∀ (x : α) (sp' : List AV), fl c (xs.take i ++ x :: xs.drop i) sp' = ((xs.take i).map c).flatten ++ (c x ++ (((xs.drop i).map c).flatten ++ sp')) := by
  refine ⟨?_, ?_, ?_, fun x sp' => ?_⟩
  · unfold fl
    rw [← List.append_assoc, ← List.flatten_append, ← List.map_append, List.take_append_drop]
  · rw [kG hc, List.length_take]; congr 1; omega
  · rw [kG hc, List.length_drop]
  · unfold fl
    simp [List.map_append, List.flatten_append]
theorem mF {A B B' C : List AV} {n : Nat} (hn : A.length = n) (hb : B.length = B'.length) : eT (A ++ (B ++ C)) n B' = A ++ (B' ++ C) := by
 subst hn
 unfold eT
 rw [List.take_left, ← hb, ← List.append_assoc A B C, show A.length + B.length = (A ++ B).length from by simp, List.drop_left]
 simp
end
section
variable {α β : Type} {l : α → List β} {sz szi : Nat} {ty : TypeId} {ci : β → List AV} {h0 : aH} {L L' : HL}
def vD (gs : List OG) (i : Nat) (og : OG) : List OG := gs.take i ++ og :: gs.drop i
theorem A5 {γ δ : Type} : ∀ (i : Nat) (xs : List γ) (gs : List δ), (xs.take i).zip (gs.take i) = (xs.zip gs).take i
 | 0, _, _ => by simp
 | i + 1, [], _ => by simp
 | i + 1, _ :: _, [] => by simp
 | i + 1, x :: xs, g :: gs => by simp [A5 i xs gs]
theorem A6 {γ δ : Type} : ∀ (i : Nat) (xs : List γ) (gs : List δ), (xs.drop i).zip (gs.drop i) = (xs.zip gs).drop i
 | 0, _, _ => by simp
 | i + 1, [], _ => by simp
 | i + 1, _ :: _, [] => by simp
 | i + 1, x :: xs, g :: gs => by simp [A6 i xs gs]
theorem JR {xs : List α} {gs : List OG} (hl : gs.length = xs.length) (i : Nat) (x : α) (og : OG) : zg (xs.take i ++ x :: xs.drop i) (vD gs i og) = (zg xs gs).take i ++ (x, og) :: (zg xs gs).drop i := by
 unfold zg vD
 rw [List.zip_append (by simp [hl]), List.zip_cons_cons, A5, A6]
theorem NG {xs y : List α} {gs : List OG} (hl : gs.length = xs.length) {i : Int} {x : α} (og : OG) (h : A4 xs i x = some y) : (nl l (zg y (vD gs i.toNat og))).Perm ((l x, og) :: nl l (zg xs gs)) := by
 obtain ⟨h1, h2, h3, rfl⟩ := nU h
 rw [JR hl]
 unfold nl
 rw [List.map_append, List.map_cons]
 refine List.perm_middle.trans (List.Perm.cons _ ?_)
 rw [← List.map_append, List.take_append_drop]
theorem HF {xs y : List α} {i : Int} {x : α} (h : A4 xs i x = some y) : y.length = xs.length + 1 := by
 obtain ⟨h1, h2, h3, rfl⟩ := nU h
 simp only [List.length_append, List.length_take, List.length_cons, List.length_drop]
 omega
theorem rN.ins {g : dS} {xs y : List α} (ok : rN l sz szi g xs) {i : Int} {x : α} (h : A4 xs i x = some y) (hx : l x = []) {g' : dD} (og : OG) (hog : ∀ g2, og = some g2 → bJ g2 szi 0) (ok' : bJ g' sz (zg y (vD g.gs i.toNat og)).length) : rN l sz szi ⟨g', vD g.gs i.toNat og⟩ y := by
 obtain ⟨h1, h2, h3, e⟩ := nU h
 have hl : (vD g.gs i.toNat og).length = y.length := by
  rw [HF h, vD]
  have := ok.len
  simp only [List.length_append, List.length_take, List.length_cons, List.length_drop]
  omega
 refine ⟨by rw [CR hl] at ok'; exact ok', hl, fun z hz g2 hg2 => ?_⟩
 have hz2 := (NG (l := l) ok.len og h).mem_iff.1 hz
 rcases List.mem_cons.1 hz2 with rfl | hz2
 ·simp only [hx]
  exact hog g2 hg2
 ·exact ok.el z hz2 g2 hg2
theorem oP.ins {g : dS} {xs y : List α} (ok : oP l sz szi g xs) {i : Int} {x : α} (h : A4 xs i x = some y) (hx : l x = []) {g' : dD} (ok' : bJ g' sz (zg y (vD g.gs i.toNat (some g0))).length) : oP l sz szi ⟨g', vD g.gs i.toNat (some g0)⟩ y :=
 ⟨ok.k.ins h hx (some g0) (fun g2 e => by cases e; exact bJ.g0 szi) ok', fun og ho => by
  unfold vD at ho
  rcases List.mem_append.1 ho with ho | ho
  ·exact ok.own og (List.mem_of_mem_take ho)
  ·rcases List.mem_cons.1 ho with rfl | ho
   ·exact nofun
   ·exact ok.own og (List.mem_of_mem_drop ho)⟩
end
end Go.Vm
namespace Go.Proofs.YtbbifdfldpfphaaGreat
open Go.Vm
def jG (y : aA × OG) : List AV := bF y.1.Id ++ ([.sc (.bool y.1.Staged), .sl none 1 (List.map cZ y.1.Data), awO aQ 4 y.2 y.1.Locs] : List AV)
theorem jX : ∀ y, (jG y).length = 35 := fun y => by first | rfl | simp [jG, bF, bP.len]
theorem tZ : ∀ (H H' : aH) (y : aA × OG), Fz H H' (awO aQ 4 y.2 y.1.Locs) (.sl none 4 (y.1.Locs.map aQ)) → nV H H' (jG y) (aD y.1) := fun H H' y b => nV.app 32 rfl (.cons (Fz.refl _ _ _) (.cons (Fz.refl _ _ _) (.cons b .nil)))
def kZ (y : aE × OG) : List AV := [.sc (.int .i64 y.1.Seq), .sc (.string y.1.Man.Name), .sl none 3 (List.map bV y.1.Man.Parts), awO aQ 4 y.2 y.1.Locs]
theorem lP : ∀ y, (kZ y).length = 4 := fun y => by first | rfl | simp [kZ, bF, bP.len]
theorem yE : ∀ (H H' : aH) (y : aE × OG), Fz H H' (awO aQ 4 y.2 y.1.Locs) (.sl none 4 (y.1.Locs.map aQ)) → nV H H' (kZ y) (aN y.1) := fun H H' y b => .cons (Fz.refl _ _ _) (.cons (Fz.refl _ _ _) (.cons (Fz.refl _ _ _) (.cons b .nil)))
def nH (y : aI × OG) : List AV := [.sc (.int .i64 y.1.Seq), .sc (.int .i64 y.1.Of), awO aQ 4 y.2 y.1.Locs]
theorem rS : ∀ y, (nH y).length = 3 := fun y => by first | rfl | simp [nH, bF, bP.len]
theorem CT : ∀ (H H' : aH) (y : aI × OG), Fz H H' (awO aQ 4 y.2 y.1.Locs) (.sl none 4 (y.1.Locs.map aQ)) → nV H H' (nH y) (aR y.1) := fun H H' y b => .cons (Fz.refl _ _ _) (.cons (Fz.refl _ _ _) (.cons b .nil))
abbrev cF (g : dD) (e : List aA) : Option bZ × iH := (g.t, .obj 44 (fl aD e g.sp))
abbrev bY (g : dS) (e : List aA) : Option bZ × iH := (g.a.t, .obj 44 (fl jG (zg e g.gs) g.a.sp))
abbrev cD (g : dS) (e : List aA) : HL := kO 81 aQ (nl aA.Locs (zg e g.gs))
abbrev bL (g : dD) (e : List aK) : Option bZ × iH := (g.t, .obj 49 (fl aT e g.sp))
abbrev cJ (g : dD) (e : List aE) : Option bZ × iH := (g.t, .obj 60 (fl aN e g.sp))
abbrev cX (g : dS) (e : List aE) : Option bZ × iH := (g.a.t, .obj 60 (fl kZ (zg e g.gs) g.a.sp))
abbrev dI (g : dS) (e : List aE) : HL := kO 81 aQ (nl aE.Locs (zg e g.gs))
abbrev h9 (g : dD) (e : List bI) : Option bZ × iH := (g.t, .obj 81 (fl aQ e g.sp))
abbrev eC (g : dD) (e : List aI) : Option bZ × iH := (g.t, .obj 99 (fl aR e g.sp))
abbrev dC (g : dS) (e : List aI) : Option bZ × iH := (g.a.t, .obj 99 (fl nH (zg e g.gs) g.a.sp))
abbrev dF (g : dS) (e : List aI) : HL := kO 81 aQ (nl aI.Locs (zg e g.gs))
abbrev OC (k : bZ) (q : Int) (a b c d : dD) : Option bZ × iH := (some k, .obj 30 [.sc (.int .i64 q), aw a.t a.n a.cap, aw b.t b.n b.cap, aw c.t c.n c.cap, aw d.t d.n d.cap])
open Go.Vm
def Q0 (m : Nat) (p0 : aB) (p1 : a8) : Option (Int × (List aK)) :=
 after (if (decide (p1.Vol < 0)) = true then (some (.brk true)) else if (decide ((p0.Vols.length : Int) ≤ p1.Vol)) = true then (some (.brk true)) else (ix p0.Vols p1.Vol).bind fun x0 => some (.brk (x0.State != 3)) : Option (Lp (Bool) (Int × (List aK)))) fun j0 => if j0 = true then (some (1, p0.Vols)) else (ix p0.Vols p1.Vol).bind fun x1 => (ix (p0.Vols.set p1.Vol.toNat ({ x1 with State := 1 })) p1.Vol).bind fun x2 => (ix (p0.Vols.set p1.Vol.toNat ({ x1 with State := 1 })) p1.Vol).bind fun x3 => some (0, (p0.Vols.set p1.Vol.toNat ({ x1 with State := 1 })).set p1.Vol.toNat ({ x3 with Epoch := IntKind.wrap .i64 (x2.Epoch + 1) }))
theorem ZW {w : Nat} {p0 : aB} {p1 : a8} {o : Int × (List aK)} (h : aH) {p0K : bZ} {gS : dD} (ok_Snaps : bJ gS 4 p0.Snaps.length) {gC : dD} (oC : bJ gC 35 p0.Chunks.length) {gE : dD} (oE : bJ gE 3 p0.Exps.length) {gV : dD} (oV : bJ gV 4 p0.Vols.length) (K0 : bS h [OC p0K p0.Seq gS gC gE gV, cJ gS p0.Snaps, cF gC p0.Chunks, eC gE p0.Exps, bL gV p0.Vols]) (m : Q0 w p0 p1 = some o) :
 aP Tryz.prog 76 [.ptr p0K 0, .agg (aG p1)] (hp h [OC p0K p0.Seq gS gC gE gV, cJ gS p0.Snaps, cF gC p0.Chunks, eC gE p0.Exps, bL gV p0.Vols]) (fun r h' => ∃ g_Vols' : dD, bJ g_Vols' 4 (o.2 : List aK).length ∧ bS h [OC p0K p0.Seq gS gC gE g_Vols', cJ gS p0.Snaps, cF gC p0.Chunks, eC gE p0.Exps, bL g_Vols' o.2] ∧ r = nZ o.1 ∧ h' = hp h [OC p0K p0.Seq gS gC gE g_Vols', cJ gS p0.Snaps, cF gC p0.Chunks, eC gE p0.Exps, bL g_Vols' o.2]) := by
 refine AE K0 50 [.tmp 4] Tryz.func76 rfl rfl rfl rfl ?_
 unfold Q0 at m
 refine vs (v0 ?_)
 refine ve fun u => cQ u rfl rfl fun k2 K3 => qk K3 rfl ?_
 refine vs (vs ?_)
 refine cW m (σ := Bool) (τ := Unit) (fun g s => [(some k2, .obj 62 (aG p1)), OC p0K p0.Seq gS gC gE gV, cJ gS p0.Snaps, cF gC p0.Chunks, eC gE p0.Exps, bL gV p0.Vols]) (fun g s => .c 0 (.ptr p0K 0) (.c 3 (.ptr k2 0) (.c 29 (.sc (.bool s)) .nil))) (fun x m => ?_) ?_
 refine v0 (AK (by kernel_rfl) (vn (fun _ => aJ fJ rfl rfl) (vl 0 _ cG rfl rfl rfl ?_)))
 refine vi m (fun b0 m => ?_) fun b0 m => ?_
 rw [b0]
 exact bD m (lx (.k3 .nil))
 rw [b0]
 refine vn (fun _ => aJ fJ rfl rfl) (vl 0 _ cG rfl rfl rfl (vn (fun _ => bU rfl) (vn (fun _ => aJ fI rfl rfl) (vl 1 (aZ gV) fZ rfl rfl rfl (vn (fun _ => eY qG oV rfl) ?_)))))
 refine vi m (fun b1 m => ?_) fun b1 m => ?_
 rw [b1]
 exact bD m (lx (.k3 .nil))
 rw [b1]
 refine vn (fun _ => bU rfl) (vn (fun _ => aJ fI rfl rfl) (vl 1 (aZ gV) fZ rfl rfl rfl (vn (fun _ => aJ fJ rfl rfl) (vl 0 _ cG rfl rfl rfl ?_))))
 obtain ⟨x0, X0, m⟩ := aC m
 refine vn (fun _ => dE X0 i9 oV rfl rfl) (vn (fun _ => dJ (bJ.ne oV X0) l8 rfl rfl) (vn (fun u => eZ (fo := 2) (nZ x0.State) X0 eJ oV cG rfl (aO 5 u rfl) (fun _ => rfl)) ?_))
 exact bD m (lx (.k3 .nil))
 rintro _ j0 m
 refine v0 ?_
 refine vi m (fun c0 m => ?_) fun c0 m => ?_
 refine vs (v0 (v0 ?_))
 cases m
 exact vr fun u => dY.of1 (.inl rfl) (fL _ _ (.sc (.int _ _)) rfl) (bO u [1, 2, 3, 4, 5] rfl).2 (aX.refl _ _) ⟨gV, oV, (bO u [1, 2, 3, 4, 5] rfl).1, rfl, rfl⟩
 refine v0 (vs (v0 ?_))
 refine vz [(1000000, some p0K, .obj 30 ([nZ p0.Seq, aZ gS, aZ gC, aZ gE, aZ gV])), (1000000, some k2, .obj 62 (aG p1))] mixed (fun u => ⟨fun _ => aO 1 u rfl, fun _ => aO 0 u rfl, trivial⟩) fun u => ?_
 refine aM 0 rfl (fun _ _ _ _ => bN (.ptr _ _) rfl) ?_
 refine aM 1 rfl (fun _ _ _ _ => bU rfl) ?_
 refine aM 2 rfl (fun _ _ _ _ => aJ fI rfl rfl) ?_
 refine aM 3 rfl (fun _ _ hi hB => bH (aZ gV) fZ rfl (At.s (bR.get 0 hi rfl (hB 1000000 (by kernel_rfl)))) rfl) ?_
 refine aM 4 rfl (fun _ _ _ _ => aJ fJ rfl rfl) ?_
 refine aM 5 rfl (fun _ _ hi hB => bH (nZ p1.Vol) cG rfl (At.s (bR.get 1 hi rfl (hB 1000000 (by kernel_rfl)))) rfl) ?_
 obtain ⟨x1, X1, m⟩ := aC m
 refine aM 6 rfl (fun _ _ _ _ => dE X1 i9 oV rfl rfl) ?_
 refine aM 7 rfl (fun _ _ _ _ => dJ (bJ.ne oV X1) l8 rfl rfl) ?_
 refine eX 8 rfl (by kernel_rfl) (cR (fo := 2) ({ x1 with State := 1 } : aK) 5 u X1 eJ oV rfl rfl rfl rfl (cO.refl _ _) xN rfl rfl fun K1 => ⟨⟨fun _ => aO 1 K1 rfl, fun _ => aO 0 K1 rfl, trivial⟩, ?_⟩)
 refine dL (by kernel_rfl) (qk (f := .c 37 _ (.c 36 _ (.c 35 _ (.c 34 _ (.c 33 _ (.c 32 _ (.c 31 _ (.c 30 _ _)))))))) K1 rfl ?_)
 refine vs (v0 ?_)
 refine vz [(1000000, some p0K, .obj 30 ([nZ p0.Seq, aZ gS, aZ gC, aZ gE, aZ gV])), (1000000, some k2, .obj 62 (aG p1)), (12, gV.t, .obj 49 (fl aT (p0.Vols.set p1.Vol.toNat ({ x1 with State := 1 }) : List aK) gV.sp))] mixed (fun u => ⟨fun _ => aO 1 u rfl, fun _ => aO 0 u rfl, fun _ => aO 5 u rfl, trivial⟩) fun u => ?_
 refine aM 0 rfl (fun _ _ _ _ => bN (.ptr _ _) rfl) ?_
 refine aM 1 rfl (fun _ _ _ _ => bU rfl) ?_
 refine aM 2 rfl (fun _ _ _ _ => aJ fI rfl rfl) ?_
 refine aM 3 rfl (fun _ _ hi hB => bH (aZ gV) fZ rfl (At.s (bR.get 0 hi rfl (hB 1000000 (by kernel_rfl)))) rfl) ?_
 refine aM 4 rfl (fun _ _ _ _ => aJ fJ rfl rfl) ?_
 refine aM 5 rfl (fun _ _ hi hB => bH (nZ p1.Vol) cG rfl (At.s (bR.get 1 hi rfl (hB 1000000 (by kernel_rfl)))) rfl) ?_
 obtain ⟨x2, X2, m⟩ := aC m
 refine aM 6 rfl (fun _ _ _ _ => dE X2 i9 (bJ.set oV) rfl rfl) ?_
 refine aM 7 rfl (fun _ _ _ _ => dJ (bJ.ne (bJ.set oV) X2) xS rfl rfl) ?_
 refine aM 8 rfl (fun _ _ hi hB => eZ (fo := 1) (nZ x2.Epoch) X2 eJ (bJ.set oV) cG rfl (bR.get 2 hi rfl (hB 12 (by kernel_rfl))) (fun _ => rfl)) ?_
 refine aM 9 rfl (fun _ _ _ _ => lJ rfl rfl rfl trivial) ?_
 obtain ⟨x3, X3, m⟩ := aC m
 refine aM 10 rfl (fun _ _ _ _ => dE X3 i9 (bJ.set oV) rfl rfl) ?_
 refine aM 11 rfl (fun _ _ _ _ => dJ (bJ.ne (bJ.set oV) X3) xS rfl rfl) ?_
 refine eX 12 rfl (by kernel_rfl) (cR (fo := 1) ({ x3 with Epoch := IntKind.wrap .i64 (x2.Epoch + 1) } : aK) 5 u X3 eJ (bJ.set oV) rfl rfl rfl rfl (cO.refl _ _) xN rfl rfl fun K2 => ⟨⟨fun _ => aO 1 K2 rfl, fun _ => aO 0 K2 rfl, fun e => absurd e (by decide), trivial⟩, ?_⟩)
 refine dL (by kernel_rfl) (qk (f := .c 49 _ (.c 48 _ (.c 47 _ (.c 46 _ (.c 45 _ (.c 44 _ (.c 43 _ (.c 42 _ (.c 41 _ (.c 40 _ (.c 39 _ (.c 38 _ _)))))))))))) K2 rfl ?_)
 refine vs (v0 (v0 ?_))
 cases m
 exact vr fun u => dY.of1 (.inl rfl) (fL _ _ (.sc (.int _ _)) rfl) (bO u [1, 2, 3, 4, 5] rfl).2 (aX.refl _ _) ⟨gV, (bJ.set (bJ.set oV)), (bO u [1, 2, 3, 4, 5] rfl).1, rfl, rfl⟩
theorem VH : aU Tryz.prog 76 = true := by kernel_rfl
open Go.Vm
theorem VI {α : Type} {c : α → List AV} (hc : ∀ y, (c y).length = 35) {p0 o : List α} {p1 : Int} {x : α} (h : aH) {g : dD} (ok : bJ g 35 p0.length) (K0 : bS h [(g.t, .obj 44 (fl c p0 g.sp))]) (u : A4 p0 p1 x = some o) :
 aP Tryz.prog 117 [aZ g, nZ p1, .sl none 35 (List.map c [x])] (hp h [(g.t, .obj 44 (fl c p0 g.sp))]) (fun r h' => ∃ g : dD, bJ g 35 o.length ∧ bS h [(g.t, .obj 44 (fl c o g.sp))] ∧ r = aZ g ∧ h' = hp h [(g.t, .obj 44 (fl c o g.sp))]) := by
 obtain ⟨i0, i1, i2, ho⟩ := nU u
 have hv1 : ((([x] : List α).length : Int) == 0) = false := rfl
 refine AE K0 95 [.tmp 6] Tryz.func117 rfl rfl rfl rfl ?_
 repeat refine vs ?_
 refine v0 ?_
 repeat refine vs ?_
 refine v0 (vn (fun _ => NF i0 i1 ok eW rfl rfl) ?_)
 repeat refine vs ?_
 refine v0 (dH hS rfl ?_)
 repeat refine vs ?_
 refine v0 (v0 ?_)
 show VC _ _ _ Code.skip _ _ _ _
 refine v0 ?_
 repeat refine vs ?_
 refine v0 (vn (fun _ => eY hS ok rfl) ?_)
 repeat refine vs ?_
 refine v0 (v0 ?_)
 by_cases hi : p1 = (p0.length : Int)
 refine vt (by simpa using hi) ?_
 repeat refine vs ?_
 refine v0 ?_
 refine ve fun w => fR (c := c) 0 (JQ i2) jP rfl l6 rfl hc rfl rfl ok w rfl fun g' ok' hk' => qk hk' rfl ?_
 refine v0 ?_
 have e : o = p0 ++ [x] := by subst hi; rw [ho]; simp
 subst e
 exact vr fun w => dY.one (.inl rfl) (gX.refl _) (aX.refl _ _) ⟨g', ok', w, rfl, rfl⟩
 refine vf (by simpa using hi) (v0 ?_)
 have hlt : p1.toNat < p0.length := by omega
 obtain ⟨gt, gn, cap, sp⟩ := g
 have hne : gt ≠ none := fun e => by have := ok.nil e; omega
 obtain ⟨k, rfl⟩ : ∃ k, gt = some k := by cases gt with
 | none => exact absurd rfl hne
 | some k => exact ⟨k, rfl⟩
 have hgn : gn = p0.length := ok.eqn
 subst hgn
 have hle : p0.length ≤ cap := ok.le
 have hmx : cap ≤ maxLen := ok.mx
 have hlen : p0.length * 35 + sp.length = cap * 35 := ok.len
 have hw : IntKind.wrap .i64 ((p0.length : Int) + (([x] : List α).length : Int)) = ((p0.length + 1 : Nat) : Int) := by
   rw [IntKind.wrap_i64]; simp only [List.length_singleton]; omega
 have hw2 : IntKind.wrap .i64 (IntKind.wrap .i64 ((p0.length : Int) + (([x] : List α).length : Int)) - p1) = ((p0.length + 1 - p1.toNat : Nat) : Int) := by
   rw [hw, IntKind.wrap_i64]; omega
 have hw3 : IntKind.wrap .i64 (p1 + (([x] : List α).length : Int)) = ((p1.toNat + 1 : Nat) : Int) := by
   rw [IntKind.wrap_i64]; simp only [List.length_singleton]; omega
 obtain ⟨q1, q2, q3, q4⟩ := EV hc (i := p1.toNat) (by omega : p1.toNat ≤ p0.length) sp
 generalize hA : ((p0.take p1.toNat).map c).flatten = A at q1 q2 q4
 generalize hB : ((p0.drop p1.toNat).map c).flatten = B at q1 q3 q4
 repeat refine vs ?_
 refine v0 (vn (fun _ => ND XQ rfl) (v0 ?_))
 by_cases hcap : cap < p0.length + 1
 refine vt (by rw [hw]; exact decide_eq_true (show (cap : Int) < ((p0.length + 1 : Nat) : Int) by omega)) ?_
 repeat refine vs ?_
 refine v0 (vn (fun _ => KO (cap := cap) i0 (by omega) eW rfl rfl) ?_)
 refine ve fun w => NE (cap := cap) (cs := fl c p0 sp) (i := p1.toNat) (m := p0.length + 1 - p1.toNat) 0 jP u3 l6 rfl (by decide) w rfl rfl (congrArg (fun z => AV.sc (.int .i64 z)) hw2) (by omega) (by rw [q1]; simp only [List.length_append]; omega) (by omega) fun q cap' R h1 h2 h3 hk' => qk hk' rfl ?_
 repeat refine vs ?_
 refine v0 (vn (fun _ => tY i0 (by omega) eW rfl rfl) ?_)
 have hn0 : p1.toNat + (p0.length + 1 - p1.toNat) = p0.length + 1 := by omega
 have hn1 : p1.toNat + (p0.length + 1 - p1.toNat) - p1.toNat = p0.length + 1 - p1.toNat := by omega
 have e1 : List.take (p1.toNat * 35) (fl c p0 sp) = A := by rw [q1, ← q2, List.take_left]
 have hxl := hc x
 have hR : 35 + B.length ≤ R.length := by omega
 have hfl : (fl c p0 sp).length = A.length + (B.length + sp.length) := by rw [q1]; simp
 obtain ⟨R1, R2, R3, hR0, hR1, hR2⟩ : ∃ R1 R2 R3 : List AV, R = R1 ++ (R2 ++ R3) ∧ R1.length = (c x).length ∧ R2.length = B.length :=
 ⟨R.take 35, (R.drop 35).take B.length, (R.drop 35).drop B.length, by rw [List.take_append_drop, List.take_append_drop], by rw [List.length_take, hxl]; omega, by rw [List.length_take, List.length_drop]; omega⟩
 refine ve fun w => yC 0 jP w rfl rfl (IE.sl (ys := List.map c [x]) (by simp) _) (by simp [hxl]; omega) (by rw [e1]; simp only [List.length_append]; simp [hxl, q2]; omega) (A ++ (c x ++ (R2 ++ R3))) (by
 rw [e1, hR0]
 simp only [List.map_cons, List.map_nil, List.flatten_cons, List.flatten_nil, List.append_nil]
 exact mF q2 hR1) fun hk' => qk hk' rfl ?_
 repeat refine vs ?_
 refine v0 ?_
 have hv4 : AV.view q ((IntKind.wrap .i64 (p1 + (([x] : List α).length : Int))).toNat * 35) (p1.toNat + (p0.length + 1 - p1.toNat) - (IntKind.wrap .i64 (p1 + (([x] : List α).length : Int))).toNat) = .view q ((p1.toNat + 1) * 35) (p0.length - p1.toNat) := by
   rw [hw3, Int.toNat_natCast, show p1.toNat + (p0.length + 1 - p1.toNat) - (p1.toNat + 1) = p0.length - p1.toNat from by omega]
 refine vz [] mixed (fun w => trivial) fun w => ?_
 refine aM 0 rfl (fun _ _ _ _ => bN (.vw _ _ _) rfl) ?_
 refine aM 1 rfl (fun _ _ _ _ => bN (.sc (.int _ _)) rfl) ?_
 refine aM 2 rfl (fun _ _ _ _ => bN (.sc (.int _ _)) rfl) ?_
 refine aM 3 rfl (fun _ _ _ _ => lJ rfl rfl rfl trivial) ?_
 refine aM 4 rfl (fun _ _ _ _ => iD (tY (by rw [hw3]; omega) (by rw [hw3]; omega) eW rfl rfl) (aX.of_eq hv4)) ?_
 refine aM 5 rfl (fun _ _ _ _ => bN (.vw _ _ _) rfl) ?_
 refine aM 6 rfl (fun _ _ _ _ => bN (.sc (.int _ _)) rfl) ?_
 refine aM 7 rfl (fun _ _ _ _ => tY (m := p0.length) i0 (by omega) eW rfl rfl) ?_
 have e2 : (List.drop (p1.toNat * 35) (fl c p0 sp)).take ((p0.length - p1.toNat) * 35) = B := by
   rw [q1, ← q2, List.drop_left, ← q3, List.take_left]
 refine eX 8 rfl (by kernel_rfl) (yC 0 jP w rfl rfl (cs := B) (by rw [← e2]; exact IE.view (bB 1 w rfl)) (n1 := p0.length - p1.toNat) (m := p0.length - p1.toNat) (by rw [q3, Nat.min_self]) (by simp only [List.length_append, hxl, q2, hR2]; omega) (fl c (p0.take p1.toNat ++ x :: p0.drop p1.toNat) R3) (by
 rw [q4 x R3, ← List.append_assoc A, ← List.append_assoc A]
 exact mF (A := A ++ c x) (by rw [List.length_append, hxl, q2]; omega) hR2) fun K1 => ⟨trivial, ?_⟩)
 refine dL (by kernel_rfl) (qk (f := .c 54 _ (.c 53 _ (.c 52 _ (.c 51 _ (.c 50 _ (.c 49 _ (.c 48 _ (.c 47 _ (.c 46 _ _))))))))) K1 rfl ?_)
 repeat refine vs ?_
 refine v0 (v0 ?_)
 subst ho
 have hol : (List.take p1.toNat p0 ++ x :: List.drop p1.toNat p0).length = p0.length + 1 := by simp; omega
 refine vr fun w => dY.one (.inl rfl) (bO K1 [0] rfl).2 (aX.of_eq (show AV.vw q _ cap' = aw (some q) (p0.length + 1) cap' by rw [hn0]; rfl)) ⟨⟨some q, p0.length + 1, cap', R3⟩, ⟨hol.symm, nofun, by rw [hol]; show p0.length + 1 ≤ cap'; omega, h2, by rw [hol]; show (p0.length + 1) * 35 + R3.length = cap' * 35; simp only [hR0, List.length_append, hR1, hR2, hxl] at h3; omega⟩, (bO K1 [0] rfl).1, rfl, rfl⟩
 refine vf (by rw [hw]; exact decide_eq_false (show ¬ (cap : Int) < ((p0.length + 1 : Nat) : Int) by omega)) (v0 ?_)
 repeat refine vs ?_
 refine v0 ?_
 have hv0 : AV.vw k (IntKind.wrap .i64 ((p0.length : Int) + (([x] : List α).length : Int))).toNat cap = .vw k (p0.length + 1) cap := by rw [hw, Int.toNat_natCast]
 refine vn (fun _ => iD (KO (cap := cap) (by rw [hw]; omega) (by rw [hw]; omega) eW rfl rfl) (aX.of_eq hv0)) ?_
 repeat refine vs ?_
 refine v0 ?_
 have hv4 : AV.view k ((IntKind.wrap .i64 (p1 + (([x] : List α).length : Int))).toNat * 35) (p0.length + 1 - (IntKind.wrap .i64 (p1 + (([x] : List α).length : Int))).toNat) = .view k ((p1.toNat + 1) * 35) (p0.length - p1.toNat) := by
   rw [hw3, Int.toNat_natCast, show p0.length + 1 - (p1.toNat + 1) = p0.length - p1.toNat from by omega]
 refine vn (fun _ => iD (tY (m := p0.length + 1) (by rw [hw3]; omega) (by rw [hw3]; omega) eW rfl rfl) (aX.of_eq hv4)) ?_
 have hfl : (fl c p0 sp).length = p1.toNat * 35 + ((p0.length - p1.toNat) * 35 + sp.length) := by rw [q1, List.length_append, List.length_append, q2, q3]
 refine ve fun w => yD (sz := 35) (tS := 26) (tR := 4) Tryz.func173 (by kernel_rfl) (by kernel_rfl) (by kernel_rfl) (by kernel_rfl) jP (ys := List.map c [x]) (by simp) (by decide) rfl rfl (bB 0 w rfl) (by rw [hfl]; omega) (qk w rfl ?_)
 refine v0 ?_
 repeat refine vs ?_
 refine v0 ?_
 refine vz [] mixed (fun w => trivial) fun w => ?_
 refine aM 0 rfl (fun _ _ _ _ => bN (.vw _ _ _) rfl) ?_
 refine aM 1 rfl (fun _ _ _ _ => bN (.sc (.int _ _)) rfl) ?_
 refine aM 2 rfl (fun _ _ _ _ => bN (.sc (.int _ _)) rfl) ?_
 refine aM 3 rfl (fun _ _ _ _ => lJ rfl rfl rfl trivial) ?_
 refine aM 4 rfl (fun _ _ _ _ => iD (tY (m := p0.length + 1) (by rw [hw3]; omega) (by rw [hw3]; omega) eW rfl rfl) (aX.of_eq hv4)) ?_
 refine aM 5 rfl (fun _ _ _ _ => bN (.vw _ _ _) rfl) ?_
 refine aM 6 rfl (fun _ _ _ _ => bN (.sc (.int _ _)) rfl) ?_
 refine aM 7 rfl (fun _ _ _ _ => tY (m := p0.length + 1) i0 (by omega) eW rfl rfl) ?_
 have hxl := hc x
 have e2 : (List.drop (p1.toNat * 35) (fl c p0 sp)).take ((p0.length - p1.toNat) * 35) = B := by
   rw [q1, ← q2, List.drop_left, ← q3, List.take_left]
 have hsp : 35 ≤ sp.length := by omega
 obtain ⟨X0, Y, Z, hXY, hX0, hY⟩ : ∃ X0 Y Z : List AV, B ++ sp = X0 ++ (Y ++ Z) ∧ X0.length = 35 ∧ Y.length = B.length :=
 ⟨(B ++ sp).take 35, ((B ++ sp).drop 35).take B.length, ((B ++ sp).drop 35).drop B.length, by rw [List.take_append_drop, List.take_append_drop], by rw [List.length_take, List.length_append]; omega, by rw [List.length_take, List.length_drop, List.length_append]; omega⟩
 have hZ : Z.length + 35 = sp.length := by
   have := congrArg List.length hXY
   simp only [List.length_append] at this
   omega
 refine eX 8 rfl (by kernel_rfl) (yC 0 jP w rfl rfl (cs := B) (by rw [← e2]; exact IE.view (bB 0 w rfl)) (n1 := p0.length - p1.toNat) (m := p0.length + 1 - p1.toNat) (by rw [q3]; congr 1; omega) (by show (p1.toNat + 1) * 35 + B.length ≤ (fl c p0 sp).length; rw [hfl]; omega) (A ++ (X0 ++ (B ++ Z))) (by
 show eT (fl c p0 sp) ((p1.toNat + 1) * 35) B = _
 rw [q1, hXY, ← List.append_assoc A, ← List.append_assoc A]
 exact mF (A := A ++ X0) (by rw [List.length_append, hX0, q2]; omega) hY) fun K1 => ⟨trivial, ?_⟩)
 refine dL (by kernel_rfl) (qk (f := .c 77 _ (.c 76 _ (.c 75 _ (.c 74 _ (.c 73 _ (.c 72 _ (.c 71 _ (.c 70 _ (.c 69 _ _))))))))) K1 rfl ?_)
 repeat refine vs ?_
 refine v0 (vn (fun _ => tY (m := p0.length + 1) i0 (by omega) eW rfl rfl) ?_)
 refine ve fun w => yC 0 jP w rfl rfl (IE.sl (ys := List.map c [x]) (by simp) _) (by simp [hxl]; omega) (by simp only [List.map_cons, List.map_nil, List.flatten_cons, List.flatten_nil, List.append_nil, List.length_append, q2, hX0, hxl]; omega) (fl c (p0.take p1.toNat ++ x :: p0.drop p1.toNat) Z) (by
 simp only [List.map_cons, List.map_nil, List.flatten_cons, List.flatten_nil, List.append_nil]
 rw [q4 x Z]
 exact mF q2 (by rw [hX0, hxl])) fun K1 => qk K1 rfl ?_
 repeat refine vs ?_
 refine v0 (v0 ?_)
 subst ho
 have hol : (List.take p1.toNat p0 ++ x :: List.drop p1.toNat p0).length = p0.length + 1 := by simp; omega
 refine vr fun w => dY.one (.inl rfl) (bO w [0] rfl).2 (aX.of_eq (show AV.vw k _ cap = aw (some k) (p0.length + 1) cap by rfl)) ⟨⟨some k, p0.length + 1, cap, Z⟩, ⟨hol.symm, nofun, by rw [hol]; show p0.length + 1 ≤ cap; omega, hmx, by rw [hol]; show (p0.length + 1) * 35 + Z.length = cap * 35; omega⟩, (bO w [0] rfl).1, rfl, rfl⟩
theorem Q1 : aU Tryz.prog 117 = true := by kernel_rfl
open Go.Vm
def yF (m : Nat) (p0 : List bQ) (p1 : bQ → Option Bool) (q0 : Int) : Option (Lp (Int) (Int)) :=
 if (decide (q0 < (p0.length : Int))) = true then ((ix p0 q0).bind fun x0 => (p1 x0).bind fun y0 => if y0 = true then (some (.ret q0)) else some (.go (IntKind.wrap .i64 (q0 + 1)))) else some (.brk q0)
def NH (m : Nat) (p0 : List bQ) (p1 : bQ → Option Bool) : Option (Int) :=
 after (aY (fun s => yF m p0 p1 s) m 0) fun r0 => some (-1)
theorem VJ {w : Nat} {p0 : List bQ} {p1 : bQ → Option Bool} {o : Int} (h : aH) {p1F : Nat} {p1C : List AV} (p1B : aU Tryz.prog p1F = true) (p1H : ∀ x0 o h0, gX h h0 → p1 x0 = some o → aP Tryz.prog p1F ([.agg (bM x0)] ++ p1C) h0 (fun r h' => r = .sc (.bool o) ∧ h' = h0)) (m : NH w p0 p1 = some o) :
 aP Tryz.prog 175 [.sl none 37 (List.map bM p0), .fn (.func p1F) p1C] h (fun r h' => r = nZ o ∧ h' = h) := by
 refine fW 19 [.tmp 4] Tryz.func175 rfl rfl rfl rfl ?_
 unfold NH at m
 refine v (v (dH oI rfl ?_))
 refine eO m (σ := Int) (τ := Unit) (fun g s => []) (fun g s => .c 0 (.sl none 37 (List.map bM p0)) (.c 1 (.fn (.func p1F) p1C) (.c 7 (nZ (p0.length : Int)) (.c 8 (nZ s) .nil)))) () (lx (.k4 .nil)) ?_ ?_
 rintro _ q0 x m
 replace m : yF w p0 p1 q0 = some x := m
 unfold yF at m
 refine v (v ?_)
 refine vi m (fun c0 m => ?_) fun c0 m => ?_
 refine v (v (v (v ?_)))
 refine vx m s9 rfl rfl fun x1 _ m => ?_
 refine va (.agg (bM x1)) F4 rfl rfl ?_
 obtain ⟨_, Y0, m⟩ := aC m
 refine vn (fun u => cE (p1H _ _ _ (aV (List.nil_sublist _) u).1 Y0) rfl p1B rfl) (v ?_)
 refine vi m (fun c1 m => ?_) fun c1 m => ?_
 refine v (v ?_)
 refine gA m fun m => ?_
 injection m with m; subst m
 exact eM rfl
 refine v (v ?_)
 exact bD m (lx (.k4 .nil))
 refine v ?_
 exact iS m (lx (.k4 .nil))
 rintro _ r0 m
 refine v (v ?_)
 cases m
 exact eM rfl
theorem Q2 : aU Tryz.prog 175 = true := by kernel_rfl
def NI (m : Nat) (p0 : List bQ) (p1 : bQ → Option Bool) : Option (Bool) :=
 (NH m p0 p1).bind fun y3 => some (decide (0 ≤ y3))
theorem VK {w : Nat} {p0 : List bQ} {p1 : bQ → Option Bool} {o : Bool} (h : aH) {p1F : Nat} {p1C : List AV} (p1B : aU Tryz.prog p1F = true) (p1H : ∀ x0 o h0, gX h h0 → p1 x0 = some o → aP Tryz.prog p1F ([.agg (bM x0)] ++ p1C) h0 (fun r h' => r = .sc (.bool o) ∧ h' = h0)) (m : NI w p0 p1 = some o) :
 aP Tryz.prog 121 [.sl none 37 (List.map bM p0), .fn (.func p1F) p1C] h (fun r h' => r = .sc (.bool o) ∧ h' = h) := by
 refine fW 9 [.tmp 4] Tryz.func121 rfl rfl rfl rfl ?_
 unfold NI at m
 refine v (v ?_)
 obtain ⟨_, Y4, m⟩ := aC m
 refine vn (fun u => cE (VJ _ p1B (fun x0 o h0 hs ho => p1H x0 o h0 ((aV (List.nil_sublist _) u).1.trans hs) ho) Y4) rfl Q2 rfl) (v ?_)
 cases m
 exact eM rfl
theorem Q3 : aU Tryz.prog 121 = true := by kernel_rfl
end Go.Proofs.YtbbifdfldpfphaaGreat
