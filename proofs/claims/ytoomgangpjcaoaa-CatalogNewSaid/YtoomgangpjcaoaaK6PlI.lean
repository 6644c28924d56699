/-
  Plain laws: the whole check.
-/
import Derived.Test.YtoomgangpjcaoaaK6PlH
set_option linter.unusedSimpArgs false
set_option linter.unusedVariables false
namespace Go.Proofs.Ytoomgangpjcaoaa
open Go.Vm

theorem m71_in {F : Nat} {c : TCatalog} {s : TSnap} (hF : 1000 ≤ F) (h : Sm c) (hr : Ris c.Chunks) (hs : s ∈ c.Snaps) :
    loopM (fun q => M71_L2 F c s q) F 0 = some (if !plB c s.Man then .ret (.ret false) else .brk (s.Man.Parts.length : Int)) := by
  obtain ⟨-, h2, h3⟩ := h.man s hs
  have hg := (gsn h hs).2
  have hc := h.ch
  rw [loop_ff (s0 := (0 : Int)) (n := s.Man.Parts.length) (F := F) (fun i : Nat => (i : Int)) (fun i => (s.Man.Parts[i]?).any fun p => !p.Ids.all fun d => hasB c.Chunks d) (fun _ => .ret false) (by omega) rfl, LF_all, range_any, all_any]
  · rfl
  · intro i hi _
    unfold M71_L2
    have hx : s.Man.Parts[i]? = some s.Man.Parts[i] := List.getElem?_eq_getElem hi
    have hm := List.getElem_mem hi
    generalize s.Man.Parts[i] = p at hx hm
    have h4 := (h3 p hm).2
    rw [wr1 (by omega)]
    simp only [ix_nat, hx, Option.bind_some, Int.ofNat_lt, hi, decide_true, if_true, Option.any_some]
    rw [loop_ff (s0 := (0 : Int)) (n := p.Ids.length) (F := F) (fun i : Nat => (i : Int)) (fun i => (p.Ids[i]?).any fun d => !hasB c.Chunks d) (fun _ => .ret (.ret false)) (by omega) rfl, LF_all, range_any, all_any]
    · cases p.Ids.all fun d => hasB c.Chunks d <;> simp [after]
    · intro k hk _
      unfold M71_L4
      have hd : p.Ids[k]? = some p.Ids[k] := List.getElem?_eq_getElem hk
      have hdm := List.getElem_mem hk
      generalize p.Ids[k] = d at hd hdm
      obtain ⟨z, hz⟩ := m113 (F := F) (l := c.Chunks) (d := d) hF hr (hg p hm d hdm) (by omega)
      rw [wr1 (by omega)]
      simp only [ix_nat, hd, Option.bind_some, Int.ofNat_lt, hk, decide_true, if_true, Option.any_some, hz]
      split <;> rfl
    · intro _; unfold M71_L4; simp
  · intro _; unfold M71_L2; simp

theorem nmz_succ {c : TCatalog} {i : Nat} {s : TSnap} (hx : c.Snaps[i]? = some s) : nmz c (i + 1) = madd (nmz c i) s.Man.Name := by
  unfold nmz
  have hi := (List.getElem?_eq_some_iff.1 hx)
  obtain ⟨hi, rfl⟩ := hi
  rw [List.take_succ_eq_append_getElem hi, List.foldl_append]
  rfl

theorem m71_L0 {F : Nat} {c : TCatalog} (hF : 1000 ≤ F) (h : Sm c) (hr : Ris c.Chunks) (hq : inR c.Seq 0 1073741824 = true) {i : Nat} (hi : i < c.Snaps.length) :
    M71_L0 F c (nmz c i) i = some (if !(snB c i && snC c i) then .ret false else .go (nmz c (i + 1), ((i + 1 : Nat) : Int))) := by
  have hv := h.vo
  have hsn := h.sn
  have hq' : 0 ≤ c.Seq ∧ c.Seq ≤ 1073741824 := by simpa [inR] using hq
  unfold M71_L0 snB snC
  have hx : c.Snaps[i]? = some c.Snaps[i] := List.getElem?_eq_getElem hi
  have hm := List.getElem_mem hi
  generalize c.Snaps[i] = x at hx hm
  rw [wr1 (by omega), wr (n := c.Seq - 1) (by omega) (by omega), nmz_succ hx]
  simp only [ix_nat, hx, m68, m73 hF, m112 hF (show c.Vols.length < 1000 by omega), Option.bind_some, after_ite, after_brk, after_ret, bind_ite', Int.ofNat_lt, hi, decide_true, if_true, nmz_any, m71_in hF h hr hm]
  generalize ((c.Snaps.take i).any fun y => x.Man.Name == y.Man.Name) = nb
  generalize locsB c x.Locs = lb
  generalize plB c x.Man = pb
  have e1 : ((if manB x.Man = true then (0 : Int) else 1) != 0) = !manB x.Man := by cases manB x.Man <;> rfl
  rw [e1]
  generalize manB x.Man = mb
  generalize inR x.Seq 0 (c.Seq - 1) = ib
  by_cases h0 : i = 0
  · subst h0
    cases nb <;> cases lb <;> cases pb <;> cases mb <;> cases ib <;> simp [after_brk, after_ret]
  · have h5 : c.Snaps[i - 1]? = some c.Snaps[i - 1] := List.getElem?_eq_getElem (by omega)
    generalize c.Snaps[i - 1] = y at h5
    rw [wr_1 (by omega) (by omega)]
    have h7 : (0 : Int) < i := by omega
    have h8 : (i == 0) = false := by simpa using h0
    have e4 : decide (x.Seq ≤ y.Seq) = !decide (y.Seq < x.Seq) := by rw [← decide_not]; congr 1; simp
    simp only [ix_nat, h5, h7, h8, e4, Option.bind_some, decide_true, if_true, Bool.false_or]
    generalize decide (y.Seq < x.Seq) = od
    cases nb <;> cases lb <;> cases pb <;> cases mb <;> cases ib <;> cases od <;> simp [after_brk, after_ret]

def snsB (c : TCatalog) : Bool := !(List.range c.Snaps.length).any fun i => !(snB c i && snC c i)
theorem m71 {F : Nat} {c : TCatalog} (hF : 1000 ≤ F) (h : Sm c) (hr : Ris c.Chunks) (hq : inR c.Seq 0 1073741824 = true) : M71 F c = some (snsB c && decide (c.Snaps.length ≤ 8)) := by
  have hc := h.sn
  unfold M71 snsB
  rw [loop_ff (s0 := (([] : List ByteArray), (0 : Int))) (n := c.Snaps.length) (F := F) (fun i : Nat => (nmz c i, (i : Int))) (fun i => !(snB c i && snC c i)) (fun _ => false) (by omega) rfl, LF_all]
  · cases (List.range c.Snaps.length).any fun i => !(snB c i && snC c i) <;> simp [after]; omega
  · exact fun i hi _ => m71_L0 hF h hr hq hi
  · intro _; unfold M71_L0; simp

/-- A right catalog. -/
def good (c : TCatalog) : Bool := inR c.Seq 0 1073741824 && (c.Vols.all volB && inR c.Vols.length 1 8) && (chsB c && decide (c.Chunks.length ≤ 200)) && (snsB c && decide (c.Snaps.length ≤ 8)) && (exsB c && decide (c.Exps.length ≤ 200))
theorem m33 {F : Nat} {c : TCatalog} (hF : 1000 ≤ F) (h : Sm c) : M33 F c = some (if good c then 0 else 1) := by
  have hv := h.vo
  unfold M33 good
  simp only [m68, m69 hF hv, m70 hF h, Option.bind_some, after_ite, after_brk, bind_ite']
  cases hq : inR c.Seq 0 1073741824
  · simp
  · cases hv' : (c.Vols.all volB && inR c.Vols.length 1 8)
    · simp
    · cases hc : chsB c
      · simp
      · have hr := ris_of h hc
        simp only [m71 hF h hr hq, m72 hF h hq, Option.bind_some, bind_ite', after_ite, after_brk]
        generalize decide (c.Chunks.length ≤ 200) = a
        generalize (snsB c && decide (c.Snaps.length ≤ 8)) = b
        generalize (exsB c && decide (c.Exps.length ≤ 200)) = d
        cases a <;> cases b <;> cases d <;> simp

end Go.Proofs.Ytoomgangpjcaoaa
