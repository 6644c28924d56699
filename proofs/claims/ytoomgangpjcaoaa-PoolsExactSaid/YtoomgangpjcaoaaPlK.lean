/-
  Plain laws: what lies on a volume, what lives there.
-/
import Derived.Test.YtoomgangpjcaoaaPlJ
import Derived.Test.YtoomgangpjcaoaaWg
import Derived.Test.YtoomgangpjcaoaaWh
set_option linter.unusedSimpArgs false
set_option linter.unusedVariables false
namespace Go.Proofs.Ytoomgangpjcaoaa
open Go.Vm

def onV (v : Int) (l : List TLoc) : Bool := l.any fun y => y.Vol == v
def it1 (x : TChunk) : TItem := { Kind := 1, Id := x.Id, Seq := 0, Of := 0, Off := 0, Len := 0 }
def it2 (x : TSnap) : TItem := { Kind := 2, Id := idZ, Seq := x.Seq, Of := 0, Off := 0, Len := 0 }
def it3 (x : TExp) : TItem := { Kind := 3, Id := idZ, Seq := x.Seq, Of := x.Of, Off := 0, Len := 0 }
def onL (c : TCatalog) (v : Int) : List TItem := (c.Chunks.filter fun x => onV v x.Locs).map it1 ++ (c.Snaps.filter fun x => onV v x.Locs).map it2 ++ (c.Exps.filter fun x => onV v x.Locs).map it3

theorem m80 {F : Nat} {l : List TLoc} {b : Bool} {v : Int} (hF : 1000 ≤ F) (hl : l.length ≤ 220) : M80 F l b v = some (onV v l) := by
  unfold M80 M81 onV
  have := m94 (F := F) (l := l) (f := fun x0 => M118 F x0 v) (fun y => y.Vol == v) (by omega) (by omega) (fun x _ => rfl)
  rw [this]
  rfl

theorem filt_loop {α β ρ : Type} {l : List α} {F : Nat} (acc0 : List β) (q : α → Bool) (it : α → β) {body : List β × Int → Option (Lp (List β × Int) ρ)} (hF : l.length < F)
    (hb : ∀ (i : Nat) (x : α), l[i]? = some x → x ∈ l → i < l.length → ∀ acc : List β, acc.length ≤ acc0.length + i → body (acc, (i : Int)) = some (.go (if q x then acc ++ [it x] else acc, ((i + 1 : Nat) : Int))))
    (he : ∀ acc, body (acc, (l.length : Int)) = some (.brk (acc, (l.length : Int)))) : loopM body F (acc0, 0) = some (.brk (acc0 ++ (l.filter q).map it, (l.length : Int))) := by
  have := go_loop (body := body) (s0 := (acc0, (0 : Int))) (n := l.length) (F := F) (fun i : Nat => (acc0 ++ ((l.take i).filter q).map it, (i : Int))) hF (by simp) (fun i hi => by
    have hlen : ((l.take i).filter q).length ≤ i := Nat.le_trans (List.length_filter_le _ _) (by rw [List.length_take]; omega)
    rw [hb i l[i] (List.getElem?_eq_getElem hi) (List.getElem_mem hi) hi _ (by rw [List.length_append, List.length_map]; omega)]
    rw [List.take_succ_eq_append_getElem hi, List.filter_append, List.map_append]
    cases hq : q l[i] <;> simp [List.filter, hq]) (he _)
  simpa using this
theorem cnt_loop {α ρ : Type} {l : List α} {F : Nat} (q : α → Bool) {body : Int × Int → Option (Lp (Int × Int) ρ)} (hF : l.length < F)
    (hb : ∀ (i : Nat) (x : α), l[i]? = some x → x ∈ l → i < l.length → ∀ k : Nat, k ≤ i → body ((k : Int), (i : Int)) = some (.go ((((if q x then k + 1 else k) : Nat) : Int), ((i + 1 : Nat) : Int))))
    (he : ∀ k, body (k, (l.length : Int)) = some (.brk (k, (l.length : Int)))) : loopM body F (0, 0) = some (.brk (((l.filter q).length : Int), (l.length : Int))) := by
  have := go_loop (body := body) (s0 := ((0 : Int), (0 : Int))) (n := l.length) (F := F) (fun i : Nat => ((((l.take i).filter q).length : Int), (i : Int))) hF (by simp) (fun i hi => by
    have hlen : ((l.take i).filter q).length ≤ i := Nat.le_trans (List.length_filter_le _ _) (by rw [List.length_take]; omega)
    rw [hb i l[i] (List.getElem?_eq_getElem hi) (List.getElem_mem hi) hi _ hlen]
    rw [List.take_succ_eq_append_getElem hi, List.filter_append]
    cases hq : q l[i] <;> simp [List.filter, hq]) (he _)
  simpa using this

theorem m78 {F : Nat} {c : TCatalog} {v : Int} (hF : 1000 ≤ F) (h : Sm c) : M78 F c (fun x0 x1 => M80 F x0 x1 v) = some (onL c v) := by
  have hsn := h.sn
  have hch := h.ch
  have hex := h.ex
  unfold M78
  rw [filt_loop (l := c.Chunks) [] (fun x => onV v x.Locs) it1 (by omega) (fun i x hx hm hi acc ha => by
    unfold M78_L0
    rw [wr1 (by omega)]
    simp only [ix_nat, hx, Option.bind_some, Int.ofNat_lt, hi, decide_true, if_true, m44 hF h, m80 hF (h.cl x hm).1]
    simp only [List.length_nil] at ha
    rw [app_some (by simp; omega)]
    cases onV v x.Locs <;> rfl) (fun acc => by unfold M78_L0; simp)]
  simp only [after_brk, List.nil_append]
  have l1 : ((c.Chunks.filter fun x => onV v x.Locs).map it1).length ≤ 220 := by rw [List.length_map]; exact Nat.le_trans (List.length_filter_le _ _) hch
  rw [filt_loop (l := c.Snaps) _ (fun x => onV v x.Locs) it2 (by omega) (fun i x hx hm hi acc ha => by
    unfold M78_L2
    rw [wr1 (by omega)]
    simp only [ix_nat, hx, Option.bind_some, Int.ofNat_lt, hi, decide_true, if_true, m80 hF (h.sl x hm)]
    rw [app_some (by simp; omega)]
    cases onV v x.Locs <;> rfl) (fun acc => by unfold M78_L2; simp)]
  simp only [after_brk]
  have l2 : ((c.Snaps.filter fun x => onV v x.Locs).map it2).length ≤ 12 := by rw [List.length_map]; exact Nat.le_trans (List.length_filter_le _ _) hsn
  rw [filt_loop (l := c.Exps) _ (fun x => onV v x.Locs) it3 (by omega) (fun i x hx hm hi acc ha => by
    unfold M78_L4
    rw [wr1 (by omega)]
    simp only [ix_nat, hx, Option.bind_some, Int.ofNat_lt, hi, decide_true, if_true, m80 hF (h.el x hm)]
    rw [List.length_append] at ha
    rw [app_some (by simp; omega)]
    cases onV v x.Locs <;> rfl) (fun acc => by unfold M78_L4; simp)]
  rfl

theorem m37 {F : Nat} {c : TCatalog} {v : Int} (hF : 1000 ≤ F) (h : Sm c) : M37 F c v = some (if good c then onL c v else []) := by
  unfold M37
  rw [m33 hF h, m78 hF h]
  cases good c <;> simp

theorem onL_len {c : TCatalog} {v : Int} (h : Sm c) : (onL c v).length ≤ 460 := by
  have hsn := h.sn
  have hch := h.ch
  have hex := h.ex
  unfold onL
  simp only [List.length_append, List.length_map]
  have h1 := List.length_filter_le (fun x : TChunk => onV v x.Locs) c.Chunks
  have h2 := List.length_filter_le (fun x : TSnap => onV v x.Locs) c.Snaps
  have h3 := List.length_filter_le (fun x : TExp => onV v x.Locs) c.Exps
  omega
def live (c : TCatalog) (v : Int) : Nat := ((onL c v).filter fun x => x.Kind != 1 || usedB c x.Id).length
theorem m20 {F : Nat} {c : TCatalog} {v : Int} (hF : 1000 ≤ F) (h : Sm c) : M20 F c v = some (if good c then (live c v : Int) else 0) := by
  unfold M20
  rw [m37 hF h]
  simp only [Option.bind_some]
  have hl := onL_len (v := v) h
  have hL : (if good c then onL c v else []).length ≤ 460 := by
    split
    · exact hl
    · simp
  rw [cnt_loop (l := if good c then onL c v else []) (F := F) (fun x => x.Kind != 1 || usedB c x.Id) (by omega) (fun i x hx hm hi k hk => by
    unfold M20_L0
    dsimp only
    rw [wr1 (i := i) (by omega), wr1 (i := k) (by omega)]
    simp only [ix_nat, hx, Option.bind_some, Int.ofNat_lt, hi, decide_true, if_true, m44 hF h]
    cases x.Kind != 1 <;> cases usedB c x.Id <;> rfl) (fun k => by unfold M20_L0; simp)]
  unfold live
  cases good c <;> simp [after]

/-- Places of a right catalog are on volumes. -/
theorem locs_in {c : TCatalog} {l : List TLoc} (h : locsB c l = true) : ∀ x ∈ l, 0 ≤ x.Vol ∧ x.Vol.toNat < c.Vols.length := by
  intro x hx
  obtain ⟨i, hi, rfl⟩ := List.getElem_of_mem hx
  unfold locsB at h
  simp only [Bool.and_eq_true, Bool.not_eq_true', List.any_eq_false, List.mem_range] at h
  have this : locB c l i = true := by simpa using h.2 i hi
  unfold locB at this
  rw [List.getElem?_eq_getElem hi] at this
  simp only [Bool.and_eq_true, inR, decide_eq_true_eq] at this
  obtain ⟨⟨⟨⟨⟨k1, k2⟩, -⟩, -⟩, -⟩, -⟩ := this
  omega
theorem m123 {F : Nat} {c : TCatalog} {l : List TLoc} {v : Int} (hF : 1000 ≤ F) (hl : l.length ≤ 220) (hin : ∀ x ∈ l, 0 ≤ x.Vol ∧ x.Vol.toNat < c.Vols.length) (hv : 0 ≤ v ∧ v.toNat < c.Vols.length) :
    ∃ b, M123 F c l v = some (onV v l, b) := by
  unfold M123
  obtain ⟨s, ⟨h1, h2⟩, h3⟩ := loop_inv (body := fun s : Bool × Bool × Int => M123_L0 F c l v s.1 s.2.1 s.2.2) (I := fun i s => s.2.2 = (i : Int) ∧ s.1 = (l.take i).any fun y => y.Vol == v) (n := l.length) (fun i s hi hI => by
    obtain ⟨a, b, q⟩ := s
    obtain ⟨rfl, rfl⟩ := hI
    have hx : l[i]? = some l[i] := List.getElem?_eq_getElem hi
    have hm := List.getElem_mem hi
    have htk := List.take_succ_eq_append_getElem hi
    generalize l[i] = x at hx hm htk
    obtain ⟨i1, i2⟩ := hin x hm
    have e1 : c.Vols[x.Vol.toNat]? = some c.Vols[x.Vol.toNat] := List.getElem?_eq_getElem i2
    have e2 : c.Vols[v.toNat]? = some c.Vols[v.toNat] := List.getElem?_eq_getElem hv.2
    generalize c.Vols[x.Vol.toNat] = w1 at e1
    generalize c.Vols[v.toNat] = w2 at e2
    refine ⟨((l.take (i + 1)).any fun y => y.Vol == v, (if x.Vol == v then b else if w1.Pool == w2.Pool then true else b), ((i + 1 : Nat) : Int)), ?_, rfl, rfl⟩
    unfold M123_L0
    rw [wr1 (by omega)]
    simp only [ix_nat, hx, ix_pos _ i1, ix_pos _ hv.1, e1, e2, Option.bind_some, Int.ofNat_lt, hi, decide_true, if_true, htk, List.any_append]
    cases hq : x.Vol == v
    · cases w1.Pool == w2.Pool <;> simp [after, hq]
    · simp [after, hq]) (fun s hs => by
    obtain ⟨a, b, q⟩ := s
    obtain ⟨rfl, -⟩ := hs
    unfold M123_L0
    simp) F 0 (false, false, 0) (by omega) (by omega) ⟨rfl, rfl⟩
  rw [h3]
  simp only [after_brk]
  refine ⟨s.2.1, ?_⟩
  rw [h2, List.take_length]
  rfl

theorem good_locs {c : TCatalog} (hg : good c = true) : (∀ x ∈ c.Chunks, locsB c x.Locs = true) ∧ (∀ x ∈ c.Snaps, locsB c x.Locs = true) ∧ (∀ x ∈ c.Exps, locsB c x.Locs = true) := by
  unfold good chsB snsB exsB at hg
  simp only [Bool.and_eq_true, Bool.not_eq_true', List.any_eq_false, List.mem_range] at hg
  obtain ⟨⟨⟨⟨-, -⟩, h1, -⟩, h2, -⟩, h3, -⟩ := hg
  refine ⟨fun x hx => ?_, fun x hx => ?_, fun x hx => ?_⟩
  · obtain ⟨i, hi, rfl⟩ := List.getElem_of_mem hx
    have this : chB c i = true := by simpa using h1 i hi
    unfold chB at this
    rw [List.getElem?_eq_getElem hi] at this
    simp only [Bool.and_eq_true] at this
    exact this.1.2
  · obtain ⟨i, hi, rfl⟩ := List.getElem_of_mem hx
    have this : snB c i = true ∧ snC c i = true := by simpa using h2 i hi
    replace this := this.1
    unfold snB at this
    rw [List.getElem?_eq_getElem hi] at this
    simp only [Bool.and_eq_true] at this
    exact this.2
  · obtain ⟨i, hi, rfl⟩ := List.getElem_of_mem hx
    have this : exA c i = true ∧ exC c i = true := by simpa using h3 i hi
    replace this := this.1
    unfold exA at this
    rw [List.getElem?_eq_getElem hi] at this
    simp only [Bool.and_eq_true] at this
    exact this.2
theorem onV_out {c : TCatalog} {l : List TLoc} {v : Int} (h : locsB c l = true) (hv : ¬ (0 ≤ v ∧ v.toNat < c.Vols.length)) : onV v l = false := by
  refine List.any_eq_false.2 fun x hx => ?_
  have := locs_in h x hx
  simp only [beq_iff_eq]
  rintro rfl
  exact hv this
theorem onL_out {c : TCatalog} {v : Int} (hg : good c = true) (hv : ¬ (0 ≤ v ∧ v.toNat < c.Vols.length)) : onL c v = [] := by
  obtain ⟨h1, h2, h3⟩ := good_locs hg
  unfold onL
  rw [List.filter_eq_nil_iff.2 (fun x hx => by simp [onV_out (h1 x hx) hv]), List.filter_eq_nil_iff.2 (fun x hx => by simp [onV_out (h2 x hx) hv]), List.filter_eq_nil_iff.2 (fun x hx => by simp [onV_out (h3 x hx) hv])]
  rfl
theorem m42 {F : Nat} {c : TCatalog} {v : Int} (hF : 1000 ≤ F) (h : Sm c) (hg : good c = true) : M42 F c v = some (onL c v) := by
  have hsn := h.sn
  have hch := h.ch
  have hex := h.ex
  obtain ⟨g1, g2, g3⟩ := good_locs hg
  unfold M42 M88
  by_cases hv : 0 ≤ v ∧ v.toNat < c.Vols.length
  · have v1 : decide (v < 0) = false := by simp; omega
    have v2 : decide ((c.Vols.length : Int) ≤ v) = false := by simp; omega
    simp only [v1, v2, Bool.false_eq_true, if_false, after_brk]
    rw [filt_loop (l := c.Chunks) [] (fun x => onV v x.Locs) it1 (by omega) (fun i x hx hm hi acc ha => by
      obtain ⟨b, hb⟩ := m123 (F := F) (v := v) hF (h.cl x hm).1 (locs_in (g1 x hm)) hv
      unfold M88_L0
      rw [wr1 (by omega)]
      simp only [ix_nat, hx, Option.bind_some, Int.ofNat_lt, hi, decide_true, if_true, hb]
      simp only [List.length_nil] at ha
      rw [app_some (by simp; omega)]
      cases onV v x.Locs <;> rfl) (fun acc => by unfold M88_L0; simp)]
    simp only [after_brk, List.nil_append]
    have l1 : ((c.Chunks.filter fun x => onV v x.Locs).map it1).length ≤ 220 := by rw [List.length_map]; exact Nat.le_trans (List.length_filter_le _ _) hch
    rw [filt_loop (l := c.Snaps) _ (fun x => onV v x.Locs) it2 (by omega) (fun i x hx hm hi acc ha => by
      obtain ⟨b, hb⟩ := m123 (F := F) (v := v) hF (h.sl x hm) (locs_in (g2 x hm)) hv
      unfold M88_L2
      rw [wr1 (by omega)]
      simp only [ix_nat, hx, Option.bind_some, Int.ofNat_lt, hi, decide_true, if_true, hb]
      rw [app_some (by simp; omega)]
      cases onV v x.Locs <;> rfl) (fun acc => by unfold M88_L2; simp)]
    simp only [after_brk]
    have l2 : ((c.Snaps.filter fun x => onV v x.Locs).map it2).length ≤ 12 := by rw [List.length_map]; exact Nat.le_trans (List.length_filter_le _ _) hsn
    rw [filt_loop (l := c.Exps) _ (fun x => onV v x.Locs) it3 (by omega) (fun i x hx hm hi acc ha => by
      obtain ⟨b, hb⟩ := m123 (F := F) (v := v) hF (h.el x hm) (locs_in (g3 x hm)) hv
      unfold M88_L4
      rw [wr1 (by omega)]
      simp only [ix_nat, hx, Option.bind_some, Int.ofNat_lt, hi, decide_true, if_true, hb]
      rw [List.length_append] at ha
      rw [app_some (by simp; omega)]
      cases onV v x.Locs <;> rfl) (fun acc => by unfold M88_L4; simp)]
    rfl
  · rw [onL_out hg hv]
    have : (decide (v < 0) || decide ((c.Vols.length : Int) ≤ v)) = true := by simp; omega
    cases q1 : decide (v < 0)
    · rw [q1] at this
      simp only [Bool.false_or] at this
      simp only [Bool.false_eq_true, if_false, this, after_brk, if_true]
      rfl
    · simp only [if_true, after_brk]
      rfl

theorem m65 {F : Nat} {c : TCatalog} {d : Id32} (hF : 1000 ≤ F) (h : Sm c) : M65 F c d = some (usedB c d) := by
  have hsn := h.sn
  unfold M65
  rw [any_loop (l := c.Snaps) (F := F) (fun s => s.Man.Parts.any fun p => p.Ids.any fun x => decide (d = x)) true (by omega) (fun i s hs hm hi => by
    obtain ⟨-, k2, k3⟩ := h.man s hm
    unfold M65_L0
    rw [wr1 (by omega), any_loop (l := s.Man.Parts) (F := F) (fun p => p.Ids.any fun x => decide (d = x)) (Lp.ret true) (by omega) (fun j p hp hm' hj => by
      have k4 := (k3 p hm').2
      unfold M65_L2
      rw [wr1 (by omega), any_loop (l := p.Ids) (F := F) (fun x => decide (d = x)) (Lp.ret (Lp.ret true)) (by omega) (fun k x hx _ hk => by
        unfold M65_L4
        rw [wr1 (by omega)]
        simp only [ix_nat, hs, hp, hx, Option.bind_some, Int.ofNat_lt, hk, decide_true, if_true, decide_eq_true_eq, eq_comm (a := x)]
        split <;> rfl) (by unfold M65_L4; simp [ix_nat, hs, hp])]
      simp only [ix_nat, hs, Option.bind_some, Int.ofNat_lt, hj, decide_true, if_true]
      cases p.Ids.any fun x => decide (d = x) <;> rfl) (by unfold M65_L2; simp [ix_nat, hs])]
    simp only [Int.ofNat_lt, hi, decide_true, if_true]
    cases s.Man.Parts.any fun p => p.Ids.any fun x => decide (d = x) <;> rfl) (by unfold M65_L0; simp)]
  unfold usedB
  cases c.Snaps.any fun s => s.Man.Parts.any fun p => p.Ids.any fun x => decide (d = x) <;> rfl
theorem m24 {F : Nat} {c : TCatalog} {v : Int} (hF : 1000 ≤ F) (h : Sm c) (hg : good c = true) : M24 F c v = some (live c v : Int) := by
  unfold M24
  rw [m42 hF h hg]
  simp only [Option.bind_some]
  have hl := onL_len (v := v) h
  rw [cnt_loop (l := onL c v) (F := F) (fun x => x.Kind != 1 || usedB c x.Id) (by omega) (fun i x hx hm hi k hk => by
    unfold M24_L0
    dsimp only
    rw [wr1 (i := i) (by omega), wr1 (i := k) (by omega)]
    simp only [ix_nat, hx, Option.bind_some, Int.ofNat_lt, hi, decide_true, if_true, m65 hF h]
    cases x.Kind != 1 <;> cases usedB c x.Id <;> rfl) (fun k => by unfold M24_L0; simp)]
  rfl
end Go.Proofs.Ytoomgangpjcaoaa
