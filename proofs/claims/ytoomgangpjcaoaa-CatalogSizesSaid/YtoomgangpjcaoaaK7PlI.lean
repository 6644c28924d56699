/-
  Plain laws: the whole check.
-/
import Derived.Test.YtoomgangpjcaoaaK7PlH
set_option linter.unusedSimpArgs false
set_option linter.unusedVariables false
namespace Go.Proofs.Ytoomgangpjcaoaa
open Go.Vm

theorem m71_in {F : Nat} {c : TCatalog} {s : TSnap} (hF : 1000 ≤ F) (h : Sm c) (hr : Ris c.Chunks) (hs : s ∈ c.Snaps) :
    loopM (fun q => M71_L2 F c s q) F 0 = some (if !plB c s.Man then .ret (.ret false) else .brk (s.Man.Parts.length : Int)) := by
  obtain ⟨-, h2, h3⟩ := h.man s hs
  have hg := (gsn h hs).2
  have hc := h.ch
  rw [loop_ff (s0 := (0 : Int)) (n := s.Man.Parts.length) (F := F) (fun i : Nat => (i : Int)) (fun i => (s.Man.Parts[i]?).any fun p => !p.Ids.all fun d => hasB c.Chunks d) (fun _ => .ret false) (by omega) rfl, LF_all, range_any, all_any]
  · rfl
  · intro i hi _
    unfold M71_L2
    have hx : s.Man.Parts[i]? = some s.Man.Parts[i] := List.getElem?_eq_getElem hi
    have hm := List.getElem_mem hi
    generalize s.Man.Parts[i] = p at hx hm
    have h4 := (h3 p hm).2
    rw [wr1 (by omega)]
    simp only [ix_nat, hx, Option.bind_some, Int.ofNat_lt, hi, decide_true, if_true, Option.any_some]
    rw [loop_ff (s0 := (0 : Int)) (n := p.Ids.length) (F := F) (fun i : Nat => (i : Int)) (fun i => (p.Ids[i]?).any fun d => !hasB c.Chunks d) (fun _ => .ret (.ret false)) (by omega) rfl, LF_all, range_any, all_any]
    · cases p.Ids.all fun d => hasB c.Chunks d <;> simp [after]
    · intro k hk _
      unfold M71_L4
      have hd : p.Ids[k]? = some p.Ids[k] := List.getElem?_eq_getElem hk
      have hdm := List.getElem_mem hk
      generalize p.Ids[k] = d at hd hdm
      obtain ⟨z, hz⟩ := m113 (F := F) (l := c.Chunks) (d := d) hF hr (hg p hm d hdm) (by omega)
      rw [wr1 (by omega)]
      simp only [ix_nat, hd, Option.bind_some, Int.ofNat_lt, hk, decide_true, if_true, Option.any_some, hz]
      split <;> rfl
    · intro _; unfold M71_L4; simp
  · intro _; unfold M71_L2; simp

theorem nmz_succ {c : TCatalog} {i : Nat} {s : TSnap} (hx : c.Snaps[i]? = some s) : nmz c (i + 1) = madd (nmz c i) s.Man.Name := by
  unfold nmz
  have hi := (List.getElem?_eq_some_iff.1 hx)
  obtain ⟨hi, rfl⟩ := hi
  rw [List.take_succ_eq_append_getElem hi, List.foldl_append]
  rfl

theorem m71_L0 {F : Nat} {c : TCatalog} (hF : 1000 ≤ F) (h : Sm c) (hr : Ris c.Chunks) (hq : inR c.Seq 0 1073741824 = true) {i : Nat} (hi : i < c.Snaps.length) :
    M71_L0 F c (nmz c i) i = some (if !(snB c i && snC c i) then .ret false else .go (nmz c (i + 1), ((i + 1 : Nat) : Int))) := by
  have hv := h.vo
  have hsn := h.sn
  have hq' : 0 ≤ c.Seq ∧ c.Seq ≤ 1073741824 := by simpa [inR] using hq
  unfold M71_L0 snB snC
  have hx : c.Snaps[i]? = some c.Snaps[i] := List.getElem?_eq_getElem hi
  have hm := List.getElem_mem hi
  generalize c.Snaps[i] = x at hx hm
  rw [wr1 (by omega), wr (n := c.Seq - 1) (by omega) (by omega), nmz_succ hx]
  simp only [ix_nat, hx, m68, m73 hF, m112 hF (show c.Vols.length < 1000 by omega), Option.bind_some, after_ite, after_brk, after_ret, bind_ite', Int.ofNat_lt, hi, decide_true, if_true, nmz_any, m71_in hF h hr hm]
  generalize ((c.Snaps.take i).any fun y => x.Man.Name == y.Man.Name) = nb
  generalize locsB c x.Locs = lb
  generalize plB c x.Man = pb
  have e1 : ((if manB x.Man = true then (0 : Int) else 1) != 0) = !manB x.Man := by cases manB x.Man <;> rfl
  rw [e1]
  generalize manB x.Man = mb
  generalize inR x.Seq 0 (c.Seq - 1) = ib
  by_cases h0 : i = 0
  · subst h0
    cases nb <;> cases lb <;> cases pb <;> cases mb <;> cases ib <;> simp [after_brk, after_ret]
  · have h5 : c.Snaps[i - 1]? = some c.Snaps[i - 1] := List.getElem?_eq_getElem (by omega)
    generalize c.Snaps[i - 1] = y at h5
    rw [wr_1 (by omega) (by omega)]
    have h7 : (0 : Int) < i := by omega
    have h8 : (i == 0) = false := by simpa using h0
    have e4 : decide (x.Seq ≤ y.Seq) = !decide (y.Seq < x.Seq) := by rw [← decide_not]; congr 1; simp
    simp only [ix_nat, h5, h7, h8, e4, Option.bind_some, decide_true, if_true, Bool.false_or]
    generalize decide (y.Seq < x.Seq) = od
    cases nb <;> cases lb <;> cases pb <;> cases mb <;> cases ib <;> cases od <;> simp [after_brk, after_ret]

def snsB (c : TCatalog) : Bool := !(List.range c.Snaps.length).any fun i => !(snB c i && snC c i)
theorem m71 {F : Nat} {c : TCatalog} (hF : 1000 ≤ F) (h : Sm c) (hr : Ris c.Chunks) (hq : inR c.Seq 0 1073741824 = true) : M71 F c = some (snsB c && decide (c.Snaps.length ≤ 8)) := by
  have hc := h.sn
  unfold M71 snsB
  rw [loop_ff (s0 := (([] : List ByteArray), (0 : Int))) (n := c.Snaps.length) (F := F) (fun i : Nat => (nmz c i, (i : Int))) (fun i => !(snB c i && snC c i)) (fun _ => false) (by omega) rfl, LF_all]
  · cases (List.range c.Snaps.length).any fun i => !(snB c i && snC c i) <;> simp [after]; omega
  · exact fun i hi _ => m71_L0 hF h hr hq hi
  · intro _; unfold M71_L0; simp

theorem m19_L5 {F : Nat} {c : TCatalog} (hF : 1000 ≤ F) (h : Sm c) {i : Nat} (hi : i < c.Snaps.length) :
    M19_L5 F c i = some (if !(snB c i && snC c i && snX c i) then .ret false else .go ((i + 1 : Nat) : Int)) := by
  have hv := h.vo
  have hsn := h.sn
  have hch := h.ch
  have hex := h.ex
  unfold M19_L5 snB snC snX inR
  have hx : c.Snaps[i]? = some c.Snaps[i] := List.getElem?_eq_getElem hi
  have hm := List.getElem_mem hi
  generalize c.Snaps[i] = x at hx hm
  obtain ⟨k1, k2, k3⟩ := h.man x hm
  obtain ⟨ids, i1, i2, i3⟩ := m63 (F := F) (m := x.Man) hF k2 (fun p hp => (k3 p hp).2) (gsn h hm).2
  obtain ⟨n, n1, n2⟩ := m50 (F := F) hF (by omega) hx
  rw [wr1 (by omega)]
  have l7 : loopM (fun s => M19_L7 F c ids s) F 0 = some (if !plB c x.Man then .ret (.ret false) else .brk (ids.length : Int)) := by
    rw [loop_ff (s0 := (0 : Int)) (n := ids.length) (F := F) (fun i : Nat => (i : Int)) (fun i => (ids[i]?).any fun d => !hasB c.Chunks d) (fun _ => .ret false) (by omega) rfl, LF_all, range_any, all_any]
    · have : plB c x.Man = ids.all fun d => hasB c.Chunks d := by
        rw [Bool.eq_iff_iff]
        simp only [plB, List.all_eq_true]
        constructor
        · intro q d hd
          obtain ⟨p, hp, hd'⟩ := (i2 d).1 hd
          exact q p hp d hd'
        · intro q p hp d hd
          exact q d ((i2 d).2 ⟨p, hp, hd⟩)
      rw [this]
    · intro k hk _
      unfold M19_L7
      have hd : ids[k]? = some ids[k] := List.getElem?_eq_getElem hk
      generalize ids[k] = d at hd
      obtain ⟨z, hz, hz2⟩ := m64 (F := F) (c := c) (d := d) hF (by omega)
      rw [wr1 (by omega)]
      simp only [ix_nat, hd, Option.bind_some, Int.ofNat_lt, hk, decide_true, if_true, Option.any_some, hz, hz2]
      split <;> rfl
    · intro _; unfold M19_L7; simp
  have l9 : loopM (fun s => M19_L9 F c x s) F 0 = some (if c.Exps.any fun y => y.Of == x.Seq then .ret (.ret false) else .brk (c.Exps.length : Int)) := by
    rw [loop_ff (s0 := (0 : Int)) (n := c.Exps.length) (F := F) (fun i : Nat => (i : Int)) (fun i => (c.Exps[i]?).any fun y => y.Of == x.Seq) (fun _ => .ret false) (by omega) rfl, LF_all, range_any]
    · intro k hk _
      unfold M19_L9
      have hd : c.Exps[k]? = some c.Exps[k] := List.getElem?_eq_getElem hk
      rw [wr1 (by omega)]
      simp only [ix_nat, hd, Option.bind_some, Int.ofNat_lt, hk, decide_true, if_true, Option.any_some]
      split <;> rfl
    · intro _; unfold M19_L9; simp
  simp only [ix_nat, hx, m62 hF k1 (fun p hp => (k3 p hp).1), m61 hF (show c.Vols.length < 1000 by omega), n1, n2, i1, l7, l9, Option.bind_some, after_ite, after_brk, after_ret, bind_ite', Int.ofNat_lt, hi, decide_true, if_true]
  generalize ((c.Snaps.take i).any fun y => x.Man.Name == y.Man.Name) = nb
  generalize locsB c x.Locs = lb
  generalize plB c x.Man = pb
  generalize (c.Exps.any fun y => y.Of == x.Seq) = xb
  generalize manB x.Man = mb
  have e1 : decide (x.Seq < 0) = !decide (0 ≤ x.Seq) := by rw [← decide_not]; congr 1; simp
  have e2 : decide (c.Seq ≤ x.Seq) = !decide (x.Seq ≤ c.Seq - 1) := by rw [← decide_not]; congr 1; simp; omega
  rw [e1, e2]
  generalize decide (0 ≤ x.Seq) = d1
  generalize decide (x.Seq ≤ c.Seq - 1) = d2
  by_cases h0 : i = 0
  · subst h0
    cases nb <;> cases lb <;> cases pb <;> cases mb <;> cases d1 <;> cases d2 <;> cases xb <;> simp [after_brk, after_ret]
  · have h5 : c.Snaps[i - 1]? = some c.Snaps[i - 1] := List.getElem?_eq_getElem (by omega)
    generalize c.Snaps[i - 1] = y at h5
    rw [wr_1 (by omega) (by omega)]
    have h7 : (0 : Int) < i := by omega
    have h8 : (i == 0) = false := by simpa using h0
    have e4 : decide (x.Seq ≤ y.Seq) = !decide (y.Seq < x.Seq) := by rw [← decide_not]; congr 1; simp
    simp only [ix_nat, h5, h7, h8, e4, Option.bind_some, decide_true, if_true, Bool.false_or]
    generalize decide (y.Seq < x.Seq) = od
    cases nb <;> cases lb <;> cases pb <;> cases mb <;> cases d1 <;> cases d2 <;> cases xb <;> cases od <;> simp [after_brk, after_ret]

/-- A right catalog. -/
def good (c : TCatalog) : Bool := inR c.Seq 0 1073741824 && (c.Vols.all volB && inR c.Vols.length 1 8) && (chsB c && decide (c.Chunks.length ≤ 200)) && (snsB c && decide (c.Snaps.length ≤ 8)) && (exsB c && decide (c.Exps.length ≤ 200))
theorem m33 {F : Nat} {c : TCatalog} (hF : 1000 ≤ F) (h : Sm c) : M33 F c = some (if good c then 0 else 1) := by
  have hv := h.vo
  unfold M33 good
  simp only [m68, m69 hF hv, m70 hF h, Option.bind_some, after_ite, after_brk, bind_ite']
  cases hq : inR c.Seq 0 1073741824
  · simp
  · cases hv' : (c.Vols.all volB && inR c.Vols.length 1 8)
    · simp
    · cases hc : chsB c
      · simp
      · have hr := ris_of h hc
        simp only [m71 hF h hr hq, m72 hF h hq, Option.bind_some, bind_ite', after_ite, after_brk]
        generalize decide (c.Chunks.length ≤ 200) = a
        generalize (snsB c && decide (c.Snaps.length ≤ 8)) = b
        generalize (exsB c && decide (c.Exps.length ≤ 200)) = d
        cases a <;> cases b <;> cases d <;> simp

theorem range_any_or {n : Nat} (p q : Nat → Bool) : ((List.range n).any fun i => !(p i && q i)) = (((List.range n).any fun i => !p i) || (List.range n).any fun i => !q i) := by
  rw [Bool.eq_iff_iff]
  simp only [Bool.or_eq_true, List.any_eq_true, Bool.not_eq_true', Bool.and_eq_false_iff]
  constructor
  · rintro ⟨i, hi, q | q⟩
    · exact .inl ⟨i, hi, q⟩
    · exact .inr ⟨i, hi, q⟩
  · rintro (⟨i, hi, q⟩ | ⟨i, hi, q⟩)
    · exact ⟨i, hi, .inl q⟩
    · exact ⟨i, hi, .inr q⟩
theorem cross (c : TCatalog) : ((List.range c.Snaps.length).any fun i => !snX c i) = (List.range c.Exps.length).any fun i => !exC c i := by
  have h1 : ((List.range c.Snaps.length).any fun i => !snX c i) = c.Snaps.any fun s => c.Exps.any fun x => x.Of == s.Seq := by
    refine Eq.trans ?_ (range_any c.Snaps _)
    congr 1
    funext i
    unfold snX
    cases c.Snaps[i]? <;> simp
  have h2 : ((List.range c.Exps.length).any fun i => !exC c i) = c.Exps.any fun x => c.Snaps.any fun s => s.Seq == x.Of := by
    refine Eq.trans ?_ (range_any c.Exps _)
    congr 1
    funext i
    unfold exC
    cases c.Exps[i]? <;> simp
  rw [h1, h2, Bool.eq_iff_iff]
  simp only [List.any_eq_true, beq_iff_eq]
  constructor
  · rintro ⟨s, hs, x, hx, e⟩; exact ⟨x, hx, s, hs, e.symm⟩
  · rintro ⟨x, hx, s, hs, e⟩; exact ⟨s, hs, x, hx, e.symm⟩

theorem m19 {F : Nat} {c : TCatalog} (hF : 1000 ≤ F) (h : Sm c) : M19 F c = some (good c) := by
  have hv := h.vo
  have hsn := h.sn
  have hch := h.ch
  have hex := h.ex
  have l0 : loopM (fun s => M19_L0 F c s) F 0 = some (if !c.Vols.all volB then .ret false else .brk (c.Vols.length : Int)) := by
    rw [loop_ff (s0 := (0 : Int)) (n := c.Vols.length) (F := F) (fun i : Nat => (i : Int)) (fun i => (c.Vols[i]?).any fun v => !volB v) (fun _ => false) (by omega) rfl, LF_all, range_any, all_any]
    · exact fun i hi _ => m19_L0 hF h hi
    · intro _; unfold M19_L0; simp
  have l3 : loopM (fun s => M19_L3 F c s) F 0 = some (if !chsB c then .ret false else .brk (c.Chunks.length : Int)) := by
    rw [loop_ff (s0 := (0 : Int)) (n := c.Chunks.length) (F := F) (fun i : Nat => (i : Int)) (fun i => !chB c i) (fun _ => false) (by omega) rfl, LF_all]
    · unfold chsB; rw [Bool.not_not]
    · exact fun i hi _ => m19_L3 hF h hi
    · intro _; unfold M19_L3; simp
  have l5 : loopM (fun s => M19_L5 F c s) F 0 = some (if (List.range c.Snaps.length).any fun i => !(snB c i && snC c i && snX c i) then .ret false else .brk (c.Snaps.length : Int)) := by
    rw [loop_ff (s0 := (0 : Int)) (n := c.Snaps.length) (F := F) (fun i : Nat => (i : Int)) (fun i => !(snB c i && snC c i && snX c i)) (fun _ => false) (by omega) rfl, LF_all]
    · exact fun i hi _ => m19_L5 hF h hi
    · intro _; unfold M19_L5; simp
  have l11 : loopM (fun s => M19_L11 F c s) F 0 = some (if (List.range c.Exps.length).any fun i => !exA c i then .ret false else .brk (c.Exps.length : Int)) := by
    rw [loop_ff (s0 := (0 : Int)) (n := c.Exps.length) (F := F) (fun i : Nat => (i : Int)) (fun i => !exA c i) (fun _ => false) (by omega) rfl, LF_all]
    · exact fun i hi _ => m19_L11 hF h hi
    · intro _; unfold M19_L11; simp
  have hs : snsB c = !(List.range c.Snaps.length).any fun i => !(snB c i && snC c i) := rfl
  have he : exsB c = !(((List.range c.Exps.length).any fun i => !exA c i) || (List.range c.Exps.length).any fun i => !exC c i) := by unfold exsB; rw [range_any_or]
  unfold M19 good
  rw [range_any_or (fun i => snB c i && snC c i) (snX c), cross] at l5
  simp only [m59, l0, l3, l5, l11, hs, he, Option.bind_some, after_ite, after_brk, bind_ite']
  generalize ((List.range c.Snaps.length).any fun i => !(snB c i && snC c i)) = a1
  generalize ((List.range c.Exps.length).any fun i => !exA c i) = a2
  generalize ((List.range c.Exps.length).any fun i => !exC c i) = a3
  generalize c.Vols.all volB = a4
  generalize chsB c = a5
  generalize inR c.Seq 0 1073741824 = a6
  generalize inR c.Vols.length 1 8 = a7
  have f1 : decide (8 < (c.Snaps.length : Int)) = !decide (c.Snaps.length ≤ 8) := by rw [← decide_not]; congr 1; simp; omega
  have f2 : decide (200 < (c.Chunks.length : Int)) = !decide (c.Chunks.length ≤ 200) := by rw [← decide_not]; congr 1; simp; omega
  have f3 : decide (200 < (c.Exps.length : Int)) = !decide (c.Exps.length ≤ 200) := by rw [← decide_not]; congr 1; simp; omega
  rw [f1, f2, f3]
  generalize decide (c.Snaps.length ≤ 8) = b1
  generalize decide (c.Chunks.length ≤ 200) = b2
  generalize decide (c.Exps.length ≤ 200) = b3
  cases a6 <;> cases b1 <;> cases b2 <;> cases b3 <;> cases a7 <;> cases a4 <;> cases a5 <;> cases a1 <;> cases a2 <;> cases a3 <;> rfl
end Go.Proofs.Ytoomgangpjcaoaa
