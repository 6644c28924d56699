/-
  Plain laws: where a thing stands in a row; CatalogNew, CatalogLooks.
-/
import Derived.Test.YtoomgangpjcaoaaK11PlL
import Derived.Test.YtoomgangpjcaoaaK11Wj
namespace Go.Proofs.Ytoomgangpjcaoaa
open Go.Vm

/-- The first place where q holds, or -1. -/
def fidx {α : Type} (l : List α) (q : α → Bool) : Int := match (List.range l.length).find? fun i => (l[i]?).any q with
  | none => -1
  | some i => (i : Int)
theorem fidx_loop {α : Type} {l : List α} (q : α → Bool) {F : Nat} {body : Int → Option (Lp Int Int)} (hF : l.length < F)
    (hb : ∀ (i : Nat) (x : α), l[i]? = some x → x ∈ l → i < l.length → body (i : Int) = some (if q x then .ret (i : Int) else .go ((i + 1 : Nat) : Int))) (he : body (l.length : Int) = some (.brk (l.length : Int))) :
    (after (loopM body F 0) fun _ => some (-1)) = some (fidx l q) := by
  rw [loop_ff (s0 := (0 : Int)) (n := l.length) (F := F) (fun i : Nat => (i : Int)) (fun i => (l[i]?).any q) (fun i => (i : Int)) hF rfl (fun i hi _ => by
    rw [hb i l[i] (List.getElem?_eq_getElem hi) (List.getElem_mem hi) hi, List.getElem?_eq_getElem hi]; rfl) (fun _ => he)]
  unfold LF fidx
  cases (List.range l.length).find? fun i => (l[i]?).any q <;> rfl
theorem fidx_first {α : Type} {l : List α} {q : α → Bool} {i : Nat} {x : α} (hx : l[i]? = some x) (hq : q x = true) (hn : ∀ (j : Nat) (y : α), j < i → l[j]? = some y → q y = false) : fidx l q = (i : Int) := by
  unfold fidx
  have hi := (List.getElem?_eq_some_iff.1 hx).1
  have : (List.range l.length).find? (fun i => (l[i]?).any q) = some i := by
    rw [List.find?_range_eq_some]
    refine ⟨by simp [hx, hq], by simpa using hi, fun j hj => ?_⟩
    cases e : l[j]? with
    | none => simp
    | some y => simp [hn j y hj e]
  rw [this]
theorem fidx_mem {α : Type} {l : List α} {q : α → Bool} (h : l.any q = true) : ∃ (i : Nat) (x : α), fidx l q = (i : Int) ∧ l[i]? = some x ∧ q x = true := by
  unfold fidx
  cases e : (List.range l.length).find? fun i => (l[i]?).any q with
  | none =>
    exfalso
    obtain ⟨x, hx, hq⟩ := List.any_eq_true.1 h
    obtain ⟨i, hi, rfl⟩ := List.getElem_of_mem hx
    have := List.find?_eq_none.1 e i (List.mem_range.2 hi)
    simp [hi, hq] at this
  | some i =>
    have := List.find?_some e
    cases e2 : l[i]? with
    | none => rw [e2] at this; cases this
    | some x => exact ⟨i, x, rfl, e2, by rw [e2] at this; simpa using this⟩

theorem m96 {F : Nat} {l : List TSnap} {f : TSnap → Option Bool} (q : TSnap → Bool) (hF : l.length < F) (hl : l.length < 1000) (hf : ∀ x ∈ l, f x = some (q x)) : M96 F l f = some (fidx l q) := by
  unfold M96
  refine fidx_loop q hF (fun i x hx hm hi => ?_) (by unfold M96_L0; simp)
  unfold M96_L0
  rw [wr1 (by omega)]
  simp only [ix_nat, hx, hf x hm, Option.bind_some, Int.ofNat_lt, hi, decide_true, if_true]
  cases q x <;> simp
theorem m47 {F : Nat} {c : TCatalog} {nm : ByteArray} (hF : 1000 ≤ F) (hl : c.Snaps.length < 1000) : M47 F c nm = some (fidx c.Snaps fun s => s.Man.Name.toList == nm.toList) := by
  unfold M47
  rw [m96 (f := fun x0 => M97 F x0 nm) (fun s => s.Man.Name.toList == nm.toList) (by omega) hl (fun x _ => rfl)]
  rfl
theorem m50f {F : Nat} {c : TCatalog} {nm : ByteArray} (hF : 1000 ≤ F) (hl : c.Snaps.length < 1000) : M50 F c nm = some (fidx c.Snaps fun s => s.Man.Name.toList == nm.toList) := by
  unfold M50
  refine fidx_loop _ (by omega) (fun i x hx hm hi => ?_) (by unfold M50_L0; simp)
  unfold M50_L0
  rw [wr1 (by omega)]
  simp only [ix_nat, hx, Option.bind_some, Int.ofNat_lt, hi, decide_true, if_true]
  cases x.Man.Name.toList == nm.toList <;> simp
theorem m98 {F : Nat} {l : List TChunk} {f : TChunk → Option Bool} (q : TChunk → Bool) (hF : l.length < F) (hl : l.length < 1000) (hf : ∀ x ∈ l, f x = some (q x)) : M98 F l f = some (fidx l q) := by
  unfold M98
  refine fidx_loop q hF (fun i x hx hm hi => ?_) (by unfold M98_L0; simp)
  unfold M98_L0
  rw [wr1 (by omega)]
  simp only [ix_nat, hx, hf x hm, Option.bind_some, Int.ofNat_lt, hi, decide_true, if_true]
  cases q x <;> simp
theorem m48 {F : Nat} {c : TCatalog} {d : Id32} (hF : 1000 ≤ F) (hl : c.Chunks.length < 1000) : M48 F c d = some (fidx c.Chunks fun x => decide (x.Id = d)) := by
  unfold M48
  rw [m98 (f := fun x0 => M99 F x0 d) (fun x => decide (x.Id = d)) (by omega) hl (fun x _ => rfl)]
  rfl
/-- Some place on a volume of a pool. -/
def inP (c : TCatalog) (p : Int) (x : TLoc) : Bool := inR x.Vol 0 ((c.Vols.length : Int) - 1) && (c.Vols[x.Vol.toNat]?).any fun v => v.Pool == p
theorem m95 {F : Nat} {c : TCatalog} {p : Int} {x : TLoc} (hv : c.Vols.length < 1000) : M95 F x c p = some (inP c p x) := by
  unfold M95 inP
  rw [wr (by omega) (by omega), m68]
  simp only [Option.bind_some]
  cases h : inR x.Vol 0 ((c.Vols.length : Int) - 1)
  · rfl
  · have h' : 0 ≤ x.Vol ∧ x.Vol ≤ (c.Vols.length : Int) - 1 := by simpa [inR] using h
    have hi : x.Vol.toNat < c.Vols.length := by omega
    simp only [if_true, ix_pos _ h'.1, List.getElem?_eq_getElem hi, Option.bind_some, after_brk, Option.any_some, Bool.true_and]
theorem m46 {F : Nat} {c : TCatalog} {l : List TLoc} {p : Int} (hF : 1000 ≤ F) (hv : c.Vols.length < 1000) (hl : l.length ≤ 220) : M46 F c l p = some (l.any (inP c p)) := by
  unfold M46
  rw [m94 (F := F) (f := fun x0 => M95 F x0 c p) (inP c p) (by omega) (by omega) (fun x _ => m95 hv)]
  rfl

/-! ### CatalogNew -/
theorem m31 : M31 1000 = some true := by decide +kernel
/-! ### CatalogLooks -/
theorem snB_at {c : TCatalog} (hg : good c = true) {i : Nat} {s : TSnap} (hs : c.Snaps[i]? = some s) : snB c i = true ∧ plB c s.Man = true := by
  unfold good snsB at hg
  simp only [Bool.and_eq_true, Bool.not_eq_true', List.any_eq_false, List.mem_range] at hg
  obtain ⟨⟨⟨⟨-, -⟩, -, -⟩, h2, -⟩, -, -⟩ := hg
  have h := h2 i (List.getElem?_eq_some_iff.1 hs).1
  have h : snB c i = true ∧ snC c i = true := by simpa using h
  refine ⟨h.1, ?_⟩
  have := h.2
  unfold snC at this
  rw [hs] at this
  exact this
theorem chB_at {c : TCatalog} (hg : good c = true) {i : Nat} {x : TChunk} (hs : c.Chunks[i]? = some x) : chB c i = true := by
  unfold good chsB at hg
  simp only [Bool.and_eq_true, Bool.not_eq_true', List.any_eq_false, List.mem_range] at hg
  obtain ⟨⟨⟨⟨-, -⟩, h1, -⟩, -, -⟩, -, -⟩ := hg
  have h := h1 i (List.getElem?_eq_some_iff.1 hs).1
  simpa using h
theorem good_chs {c : TCatalog} (hg : good c = true) : chsB c = true := by
  unfold good at hg
  simp only [Bool.and_eq_true] at hg
  exact hg.1.1.2.1
theorem snap_at {c : TCatalog} (h : Sm c) (hg : good c = true) {i : Nat} {s : TSnap} (hs : c.Snaps[i]? = some s) : (fidx c.Snaps fun y => y.Man.Name.toList == s.Man.Name.toList) = (i : Int) := by
  have hsn := h.sn
  obtain ⟨n, e1, e2⟩ := m50 (F := 1000) (Nat.le_refl _) (by omega) hs
  rw [m50f (Nat.le_refl _) (by omega)] at e1
  have := (snB_at hg hs).1
  unfold snB at this
  rw [hs] at this
  simp only [Bool.and_eq_true, Bool.not_eq_true'] at this
  rw [this.1.1.2] at e2
  have : n = i := by simpa using e2
  rw [← this]
  exact Option.some.inj e1
theorem chunk_at {c : TCatalog} (h : Sm c) (hg : good c = true) {i : Nat} {x : TChunk} (hx : c.Chunks[i]? = some x) : (fidx c.Chunks fun y => decide (y.Id = x.Id)) = (i : Int) := by
  have hr := ris_of h (good_chs hg)
  refine fidx_first hx (by simp) (fun j y hj hy => ?_)
  have := hr.2 j i y x hy hx hj
  simp only [decide_eq_false_iff_not]
  rintro e
  rw [e] at this
  omega
theorem looks_L4 {F : Nat} {c : TCatalog} {s : TSnap} {p : TPart} {i k : Nat} (hF : 1000 ≤ F) (h : Sm c) (hg : good c = true) (hs : c.Snaps[i]? = some s) (hp : s.Man.Parts[k]? = some p) :
    loopM (fun q => M11_L4 F c i k q) F 0 = some (.brk (p.Ids.length : Int)) := by
  have hch := h.ch
  have hsm : s ∈ c.Snaps := List.mem_of_getElem? hs
  have hpm : p ∈ s.Man.Parts := List.mem_of_getElem? hp
  have hil := ((h.man s hsm).2.2 p hpm).2
  rw [go_loop (s0 := (0 : Int)) (n := p.Ids.length) (F := F) (fun j : Nat => (j : Int)) (by omega) rfl (fun j hj => by
      unfold M11_L4
      have hx : p.Ids[j]? = some p.Ids[j] := List.getElem?_eq_getElem hj
      have hdm : p.Ids[j] ∈ p.Ids := List.getElem_mem hj
      generalize p.Ids[j] = d at hx hdm
      rw [wr1 (by omega)]
      have hhas : hasB c.Chunks d = true := by
        have := (snB_at hg hs).2
        unfold plB at this
        exact List.all_eq_true.1 (List.all_eq_true.1 this p hpm) d hdm
      obtain ⟨a, x, e1, e2, e3⟩ := fidx_mem (l := c.Chunks) (q := fun x => decide (x.Id = d)) hhas
      have ha := (List.getElem?_eq_some_iff.1 e2).1
      have hu : usedB c d = true := by
        unfold usedB
        refine List.any_eq_true.2 ⟨s, hsm, List.any_eq_true.2 ⟨p, hpm, List.any_eq_true.2 ⟨d, hdm, by simp⟩⟩⟩
      have e3' : x.Id = d := by simpa using e3
      have n1 : ¬ ((a : Int) < 0) := by omega
      have n2 : ¬ ((c.Chunks.length : Int) ≤ (a : Int)) := by omega
      simp only [ix_nat, hs, hp, hx, Option.bind_some, Int.ofNat_lt, hj, decide_true, if_true, m48 hF (show c.Chunks.length < 1000 by omega), e1, e2, e3', m44 hF h, hu, n1, n2, decide_false, Bool.false_eq_true, if_false, Bool.not_true, after_brk]) (by
      unfold M11_L4; simp [ix_nat, hs, hp])]
theorem looks_L2 {F : Nat} {c : TCatalog} {s : TSnap} {i : Nat} (hF : 1000 ≤ F) (h : Sm c) (hg : good c = true) (hs : c.Snaps[i]? = some s) :
    loopM (fun q => M11_L2 F c i q) F 0 = some (.brk (s.Man.Parts.length : Int)) := by
  have hsm : s ∈ c.Snaps := List.mem_of_getElem? hs
  have hil := (h.man s hsm).2.1
  rw [go_loop (s0 := (0 : Int)) (n := s.Man.Parts.length) (F := F) (fun j : Nat => (j : Int)) (by omega) rfl (fun j hj => by
      unfold M11_L2
      have hx : s.Man.Parts[j]? = some s.Man.Parts[j] := List.getElem?_eq_getElem hj
      rw [wr1 (by omega)]
      simp only [ix_nat, hs, Option.bind_some, Int.ofNat_lt, hj, decide_true, if_true, looks_L4 hF h hg hs hx, after_brk]) (by
      unfold M11_L2; simp [ix_nat, hs])]
theorem looks_L0 {F : Nat} {c : TCatalog} (hF : 1000 ≤ F) (h : Sm c) (hg : good c = true) :
    loopM (fun q => M11_L0 F c q) F 0 = some (.brk (c.Snaps.length : Int)) := by
  have hsn := h.sn
  rw [go_loop (s0 := (0 : Int)) (n := c.Snaps.length) (F := F) (fun j : Nat => (j : Int)) (by omega) rfl (fun j hj => by
      unfold M11_L0
      have hx : c.Snaps[j]? = some c.Snaps[j] := List.getElem?_eq_getElem hj
      rw [wr1 (by omega)]
      simp only [ix_nat, hx, Option.bind_some, Int.ofNat_lt, hj, decide_true, if_true, m47 hF (show c.Snaps.length < 1000 by omega), snap_at h hg hx, looks_L2 hF h hg hx, after_brk, bne_self_eq_false, Bool.false_eq_true, if_false]) (by
      unfold M11_L0; simp)]
def dsum (l : List TChunk) : Nat := (l.map fun x => x.Data.length).sum
theorem dsum_le {l : List TChunk} (h : ∀ x ∈ l, x.Data.length ≤ 300) : dsum l ≤ 300 * l.length := by
  induction l with
  | nil => simp [dsum]
  | cons x l ih =>
    have h1 := h x (by simp)
    have h2 := ih fun y hy => h y (by simp [hy])
    simp only [dsum, List.map_cons, List.sum_cons, List.length_cons] at h2 ⊢
    omega
theorem dsum_take {l : List TChunk} {i : Nat} (hi : i < l.length) : dsum (l.take (i + 1)) = dsum (l.take i) + l[i].Data.length := by
  unfold dsum
  rw [List.take_succ_eq_append_getElem hi, List.map_append, List.sum_append]
  simp
theorem dsum_bd {c : TCatalog} (h : Sm c) (i : Nat) : dsum (c.Chunks.take i) ≤ 66000 := by
  have h1 := dsum_le (l := c.Chunks.take i) fun x hx => (h.cl x (List.mem_of_mem_take hx)).2
  have h2 := h.ch
  rw [List.length_take] at h1
  omega
theorem good_vols {c : TCatalog} (hg : good c = true) : c.Vols.all volB = true := by
  unfold good at hg
  simp only [Bool.and_eq_true] at hg
  exact hg.1.1.1.2.1
theorem somewhere {c : TCatalog} (hg : good c = true) {l : List TLoc} (hl : locsB c l = true) (hne : l ≠ []) : l.any (inP c 0) = true ∨ l.any (inP c 1) = true := by
  cases l with
  | nil => exact absurd rfl hne
  | cons x l =>
    obtain ⟨h1, h2⟩ := locs_in hl x (by simp)
    have hv : c.Vols[x.Vol.toNat]? = some c.Vols[x.Vol.toNat] := List.getElem?_eq_getElem h2
    have hb := List.all_eq_true.1 (good_vols hg) _ (List.getElem_mem h2)
    unfold volB inR at hb
    simp only [Bool.and_eq_true, decide_eq_true_eq] at hb
    have hr : inR x.Vol 0 ((c.Vols.length : Int) - 1) = true := by
      simp only [inR, Bool.and_eq_true, decide_eq_true_eq]; omega
    have : c.Vols[x.Vol.toNat].Pool = 0 ∨ c.Vols[x.Vol.toNat].Pool = 1 := by omega
    rcases this with e | e
    · left; simp only [List.any_cons, inP, hr, hv, Option.any_some, e]; simp
    · right; simp only [List.any_cons, inP, hr, hv, Option.any_some, e]; simp
theorem looks_L6 {F : Nat} {c : TCatalog} (hF : 1000 ≤ F) (h : Sm c) (hg : good c = true) :
    loopM (fun s : Int × Int => M11_L6 F c s.1 s.2) F (0, 0) = some (.brk ((dsum c.Chunks : Int), (c.Chunks.length : Int))) := by
  have hch := h.ch
  have hvo := h.vo
  rw [go_loop (s0 := ((0 : Int), (0 : Int))) (n := c.Chunks.length) (F := F) (fun i : Nat => ((dsum (c.Chunks.take i) : Int), (i : Int))) (by omega) (by simp [dsum]) (fun i hi => by
      unfold M11_L6
      have hx : c.Chunks[i]? = some c.Chunks[i] := List.getElem?_eq_getElem hi
      have hs := dsum_take hi
      have hb := dsum_bd h (i + 1)
      have hm : c.Chunks[i] ∈ c.Chunks := List.getElem_mem hi
      generalize c.Chunks[i] = x at hx hs hm
      have hl := h.cl x hm
      have hc := chB_at hg hx
      unfold chB at hc
      rw [hx] at hc
      simp only [Bool.and_eq_true] at hc
      have e0 : IntKind.wrap .i64 ((dsum (c.Chunks.take i) : Int) + (x.Data.length : Int)) = (dsum (c.Chunks.take (i + 1)) : Int) := by rw [wr (by omega) (by omega), hs]; omega
      rw [wr1 (by omega)]
      simp only [ix_nat, hx, Option.bind_some, Int.ofNat_lt, hi, decide_true, if_true, m48 hF (show c.Chunks.length < 1000 by omega), chunk_at h hg hx, bne_self_eq_false, Bool.false_eq_true, if_false, m46 hF (show c.Vols.length < 1000 by omega) hl.1, e0]
      cases hst : x.Staged
      · rw [hst] at hc
        have hne : x.Locs ≠ [] := by
          have := hc.2
          simp only [Bool.false_eq_true, if_false, Bool.and_eq_true, Bool.not_eq_true', decide_eq_false_iff_not] at this
          intro e
          rw [e] at this
          simp at this
        rcases somewhere hg hc.1.2 hne with q | q
        · simp [q, after]
        · cases q2 : x.Locs.any (inP c 0) <;> simp [q, after]
      · simp [after]) (by unfold M11_L6; simp)]
  simp
theorem m49 {F : Nat} {c : TCatalog} (hF : 1000 ≤ F) (h : Sm c) (hg : good c = true) : M49 F c = some (dsum c.Chunks : Int) := by
  have hch := h.ch
  unfold M49
  rw [go_loop (s0 := ((0 : Int), (0 : Int))) (n := c.Chunks.length) (F := F) (fun i : Nat => ((dsum (c.Chunks.take i) : Int), (i : Int))) (by omega) (by simp [dsum]) (fun i hi => by
      unfold M49_L0
      have hx : c.Chunks[i]? = some c.Chunks[i] := List.getElem?_eq_getElem hi
      have hs := dsum_take hi
      have hb := dsum_bd h (i + 1)
      have hm : c.Chunks[i] ∈ c.Chunks := List.getElem_mem hi
      generalize c.Chunks[i] = x at hx hs hm
      have hc := chB_at hg hx
      unfold chB at hc
      rw [hx] at hc
      simp only [Bool.and_eq_true] at hc
      have e0 : IntKind.wrap .i64 ((dsum (c.Chunks.take i) : Int) + (x.Data.length : Int)) = (dsum (c.Chunks.take (i + 1)) : Int) := by rw [wr (by omega) (by omega), hs]; omega
      rw [wr1 (by omega)]
      simp only [ix_nat, hx, Option.bind_some, Int.ofNat_lt, hi, decide_true, if_true, e0]
      cases hst : x.Staged
      · rw [hst] at hc
        have hz : x.Data.length = 0 := by
          have := hc.2
          simp only [Bool.false_eq_true, if_false, Bool.and_eq_true, Bool.not_eq_true', decide_eq_false_iff_not] at this
          omega
        rw [hs, hz]
        simp [after]
      · simp [after]) (by unfold M49_L0; simp)]
  simp [after]
theorem catalog_looks {c : TCatalog} (hg : g_Catalog c) : M11 1000 c = some true := by
  have hF : 1000 ≤ 1000 := Nat.le_refl _
  obtain ⟨b, hb, hs⟩ := m13 (F := 1000) hF hg
  unfold M11
  rw [hb]
  cases b
  · have h := hs rfl
    have hsn := h.sn
    simp only [Option.bind_some, Bool.false_eq_true, if_false, m19 hF h, after_brk]
    cases hq : good c
    · simp
    · simp only [Bool.not_true, Bool.false_eq_true, if_false, looks_L0 hF h hq, looks_L6 hF h hq, after_brk, m49 hF h hq, Option.bind_some, beq_self_eq_true, if_true, m47 hF (show c.Snaps.length < 1000 by omega), m50f hF (show c.Snaps.length < 1000 by omega), m31]
  · simp [after]
theorem catalog_looks1 {c : TCatalog} (hg : g_Catalog c) : M11 1000 c = some true := catalog_looks hg
end Go.Proofs.Ytoomgangpjcaoaa
