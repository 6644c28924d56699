/-
  Plain laws: snapshots; the whole check.
-/
import Derived.Test.YtoomgangpjcaoaaK7PlG
set_option linter.unusedSimpArgs false
set_option linter.unusedVariables false
namespace Go.Proofs.Ytoomgangpjcaoaa
open Go.Vm

theorem toList_inj {a b : ByteArray} (h : a.toList = b.toList) : a = b := Go.WideShapes.bytes_inj (by rwa [Go.Lib.toList_data, Go.Lib.toList_data] at h)
theorem gsn {c : TCatalog} (h : Sm c) {s : TSnap} (hs : s ∈ c.Snaps) : gI s.Seq ∧ ∀ p ∈ s.Man.Parts, ∀ d ∈ p.Ids, gId d := by
  have := h.g.2.1 s hs
  exact ⟨this.1, fun p hp d hd => (this.2.1.2 p hp).2.2 d hd⟩

theorem m63 {F : Nat} {m : TManifest} (hF : 1000 ≤ F) (hp : m.Parts.length ≤ 10) (hi : ∀ p ∈ m.Parts, p.Ids.length ≤ 40) (hg : ∀ p ∈ m.Parts, ∀ d ∈ p.Ids, gId d) :
    ∃ ids, M63 F m = some ids ∧ (∀ x, x ∈ ids ↔ ∃ p ∈ m.Parts, x ∈ p.Ids) ∧ ids.length ≤ 400 := by
  unfold M63
  let I : Nat → List Id32 × Int → Prop := fun i s => s.2 = (i : Int) ∧ s.1.length ≤ 40 * i ∧ ∀ x, x ∈ s.1 ↔ ∃ p ∈ m.Parts.take i, x ∈ p.Ids
  obtain ⟨s, ⟨h1, h2, h3⟩, h4⟩ := loop_inv (body := fun s : List Id32 × Int => M63_L0 F m s.1 s.2) (I := I) (n := m.Parts.length) (fun i s hi' hI => by
      obtain ⟨l, q⟩ := s
      obtain ⟨rfl, hl, hm⟩ := hI
      simp only at hl hm
      have hx : m.Parts[i]? = some m.Parts[i] := List.getElem?_eq_getElem hi'
      have hmem := List.getElem_mem hi'
      have htk : m.Parts.take (i + 1) = m.Parts.take i ++ [m.Parts[i]] := by simp
      generalize m.Parts[i] = p at hx hmem htk
      have hpi := hi p hmem
      have hgp := hg p hmem
      have hgl : ∀ x ∈ l, gId x := fun x hx => by
        obtain ⟨p', hp', hx'⟩ := (hm x).1 hx
        exact hg p' (List.mem_of_mem_take hp') x hx'
      let J : Nat → List Id32 × Int → Prop := fun k s => s.2 = (k : Int) ∧ s.1.length ≤ 40 * i + k ∧ ∀ x, x ∈ s.1 ↔ (x ∈ l ∨ x ∈ p.Ids.take k)
      obtain ⟨t, ⟨j1, j2, j3⟩, j4⟩ := loop_inv (ρ := Lp (List Id32 × Int) (List Id32)) (body := fun s : List Id32 × Int => M63_L2 F m (i : Int) s.1 s.2) (I := J) (n := p.Ids.length) (fun k s hk hJ => by
          obtain ⟨u, q⟩ := s
          obtain ⟨rfl, hu, hv⟩ := hJ
          simp only at hu hv
          have hd : p.Ids[k]? = some p.Ids[k] := List.getElem?_eq_getElem hk
          have hdm := List.getElem_mem hk
          have hdk : p.Ids.take (k + 1) = p.Ids.take k ++ [p.Ids[k]] := by simp
          generalize p.Ids[k] = d at hd hdm hdk
          obtain ⟨r, r1, r2, r3⟩ := m105 (F := F) (l := u) (d := d) hF (by omega) (fun x hx => by
            rcases (hv x).1 hx with q | q
            · exact hgl x q
            · exact hgp x (List.mem_of_mem_take q)) (hgp d hdm)
          refine ⟨(r.1, ((k + 1 : Nat) : Int)), ?_, rfl, by simp only; omega, fun x => ?_⟩
          · unfold M63_L2
            rw [wr1 (by omega)]
            simp only [ix_nat, hx, Option.bind_some, Int.ofNat_lt, hk, decide_true, if_true, hd, r1]
          · simp only [r2, hv, hdk, List.mem_append, List.mem_singleton, or_assoc]) (fun s hs => by
          obtain ⟨u, q⟩ := s
          obtain ⟨rfl, -, -⟩ := hs
          unfold M63_L2
          simp [ix_nat, hx]) F 0 (l, 0) (by omega) (by omega) ⟨rfl, by simp only; omega, by simp⟩
      refine ⟨(t.1, ((i + 1 : Nat) : Int)), ?_, rfl, by simp only; omega, fun x => ?_⟩
      · unfold M63_L0
        rw [wr1 (by omega)]
        simp only [Int.ofNat_lt, hi', decide_true, if_true, j4, after_brk]
      · simp only [j3, hm, htk, List.take_length, List.mem_append, List.mem_singleton]
        constructor
        · rintro (⟨p', hp', hx'⟩ | hx')
          · exact ⟨p', .inl hp', hx'⟩
          · exact ⟨p, .inr rfl, hx'⟩
        · rintro ⟨p', hp' | rfl, hx'⟩
          · exact .inl ⟨p', hp', hx'⟩
          · exact .inr hx') (fun s hs => by
      obtain ⟨u, q⟩ := s
      obtain ⟨rfl, -, -⟩ := hs
      unfold M63_L0
      simp) F 0 ([], 0) (by omega) (by omega) ⟨rfl, by simp, by simp⟩
  rw [h4]
  exact ⟨s.1, by simp only [after_brk], by simpa using h3, by omega⟩

/-- The least number of a row's elements that are such, or -1. -/
theorem m64 {F : Nat} {c : TCatalog} {d : Id32} (hF : 1000 ≤ F) (hl : c.Chunks.length < 1000) : ∃ n : Int, M64 F c d = some n ∧ (decide (n < 0)) = !hasB c.Chunks d := by
  have := idx_loop (l := c.Chunks) (fun x => decide (x.Id = d)) (F := F) (body := M64_L0 F c d) (by omega) (fun i hi => by
    unfold M64_L0
    have hx : c.Chunks[i]? = some c.Chunks[i] := List.getElem?_eq_getElem hi
    rw [wr1 (by omega)]
    simp only [ix_nat, hx, Option.bind_some, Int.ofNat_lt, hi, decide_true, if_true, Option.any_some]
    split <;> rfl) (by unfold M64_L0; simp)
  rw [show (after (loopM (M64_L0 F c d) F 0) fun _ => some (-1)) = M64 F c d from rfl] at this
  obtain ⟨n, h1, h2⟩ := Option.bind_eq_some_iff.1 this
  refine ⟨n, h1, ?_⟩
  have h3 := Option.some.inj h2
  unfold hasB
  rw [← h3, ← decide_not]
  congr 1
  simp

theorem m50 {F : Nat} {c : TCatalog} {i : Nat} {s : TSnap} (hF : 1000 ≤ F) (hl : c.Snaps.length < 1000) (hs : c.Snaps[i]? = some s) :
    ∃ n : Int, M50 F c s.Man.Name = some n ∧ (n != (i : Int)) = (c.Snaps.take i).any fun y => s.Man.Name == y.Man.Name := by
  have hi : i < c.Snaps.length := (List.getElem?_eq_some_iff.1 hs).1
  have hsi : c.Snaps[i] = s := by have := List.getElem?_eq_getElem hi; rw [hs] at this; exact (Option.some.inj this).symm
  unfold M50
  rw [loop_ff (s0 := (0 : Int)) (n := c.Snaps.length) (F := F) (fun i : Nat => (i : Int)) (fun i => (c.Snaps[i]?).any fun y => y.Man.Name.toList == s.Man.Name.toList) (fun i => (i : Int)) (by omega) rfl]
  · unfold LF
    have hp : ((c.Snaps[i]?).any fun y => y.Man.Name.toList == s.Man.Name.toList) = true := by rw [hs]; simp
    cases h : (List.range c.Snaps.length).find? fun i => (c.Snaps[i]?).any fun y => y.Man.Name.toList == s.Man.Name.toList with
    | none =>
      have := List.find?_eq_none.1 h i (List.mem_range.2 hi)
      exact absurd hp this
    | some k =>
      refine ⟨(k : Int), rfl, ?_⟩
      obtain ⟨hk1, hk2, hk3⟩ := List.find?_range_eq_some.1 h
      rw [Bool.eq_iff_iff]
      simp only [bne_iff_ne, ne_eq, List.any_eq_true]
      have hkl : k < c.Snaps.length := List.mem_range.1 hk2
      rw [List.getElem?_eq_getElem hkl] at hk1
      simp only [Option.any_some, beq_iff_eq] at hk1
      constructor
      · intro hne
        have hki : k < i := by
          rcases Nat.lt_or_ge k i with q | q
          · exact q
          · have := hk3 i (by omega)
            rw [hp] at this; cases this
        refine ⟨c.Snaps[k], ?_, ?_⟩
        · rw [List.mem_take_iff_getElem]
          exact ⟨k, by omega, rfl⟩
        · exact (bytes_beq _ _).2 (toList_inj hk1.symm)
      · rintro ⟨y, hy, he⟩ hc
        rw [List.mem_take_iff_getElem] at hy
        obtain ⟨j, hj, rfl⟩ := hy
        have := hk3 j (by omega)
        rw [List.getElem?_eq_getElem (by omega)] at this
        rw [(bytes_beq _ _).1 he] at this
        simp at this
  · intro j hj _
    unfold M50_L0
    have hx : c.Snaps[j]? = some c.Snaps[j] := List.getElem?_eq_getElem hj
    rw [wr1 (by omega)]
    simp only [ix_nat, hx, Option.bind_some, Int.ofNat_lt, hj, decide_true, if_true, Option.any_some]
    split <;> rfl
  · intro _; unfold M50_L0; simp

def plB (c : TCatalog) (m : TManifest) : Bool := m.Parts.all fun p => p.Ids.all fun d => hasB c.Chunks d
def snB (c : TCatalog) (i : Nat) : Bool := match c.Snaps[i]? with
  | none => true
  | some s => inR s.Seq 0 (c.Seq - 1) && (i == 0 || (match c.Snaps[i - 1]? with | none => true | some y => decide (y.Seq < s.Seq))) && !((c.Snaps.take i).any fun y => s.Man.Name == y.Man.Name) && manB s.Man && locsB c s.Locs
def snC (c : TCatalog) (i : Nat) : Bool := match c.Snaps[i]? with
  | none => true
  | some s => plB c s.Man
def snX (c : TCatalog) (i : Nat) : Bool := match c.Snaps[i]? with
  | none => true
  | some s => !c.Exps.any fun x => x.Of == s.Seq
/-- The names of the snapshots below i. -/
def nmz (c : TCatalog) (i : Nat) : List ByteArray := (c.Snaps.take i).foldl (fun l s => madd l s.Man.Name) []
theorem nmz_any (c : TCatalog) (x : ByteArray) : ∀ i, ((nmz c i).any fun z => x == z) = (c.Snaps.take i).any fun y => x == y.Man.Name := by
  have : ∀ (l : List TSnap) (acc : List ByteArray), ((l.foldl (fun l s => madd l s.Man.Name) acc).any fun z => x == z) = ((acc.any fun z => x == z) || l.any fun y => x == y.Man.Name) := by
    intro l
    induction l with
    | nil => simp
    | cons s l ih =>
      intro acc
      rw [List.foldl_cons, ih, List.any_cons, ← Bool.or_assoc]
      congr 1
      unfold madd
      split
      · rename_i h
        rw [Bool.eq_iff_iff]
        simp only [Bool.or_eq_true, List.any_eq_true] at h ⊢
        constructor
        · exact .inl
        · rintro (q | q)
          · exact q
          · obtain ⟨y, hy, he⟩ := h
            rw [(bytes_beq _ _).1 q, (bytes_beq _ _).1 he]
            exact ⟨y, hy, (bytes_beq _ _).2 rfl⟩
      · simp
  intro i
  rw [nmz, this]
  simp
end Go.Proofs.Ytoomgangpjcaoaa
