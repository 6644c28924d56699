import Derived.Test.YtoomgangpjcaoaaK8P5
import Derived.Test.YtoomgangpjcaoaaK8P4
import Derived.Test.YtoomgangpjcaoaaK8P3
import Derived.Test.YtoomgangpjcaoaaK8P2
import Derived.RangeFuncLeaves
import Derived.RangeFuncRecord
import Derived.OrdersIn
set_option linter.unusedSimpArgs false
set_option linter.unusedVariables false
namespace Go.Proofs.Ytoomgangpjcaoaa
open Go.Vm
def onV (v : Int) (l : List TLoc) : Bool := l.any fun y => y.Vol == v
def it1 (x : TChunk) : TItem := { Kind := 1, Id := x.Id, Seq := 0, Of := 0, Off := 0, Len := 0 }
def it2 (x : TSnap) : TItem := { Kind := 2, Id := idZ, Seq := x.Seq, Of := 0, Off := 0, Len := 0 }
def it3 (x : TExp) : TItem := { Kind := 3, Id := idZ, Seq := x.Seq, Of := x.Of, Off := 0, Len := 0 }
def onL (c : TCatalog) (v : Int) : List TItem := (c.Chunks.filter fun x => onV v x.Locs).map it1 ++ (c.Snaps.filter fun x => onV v x.Locs).map it2 ++ (c.Exps.filter fun x => onV v x.Locs).map it3
theorem m80 {F : Nat} {l : List TLoc} {b : Bool} {v : Int} (hF : 1000 ≤ F) (hl : l.length ≤ 300) : M80 F l b v = some (onV v l) := by
 unfold M80 M81 onV
 have := m94 (F := F) (l := l) (f := fun x0 => M118 F x0 v) (fun y => y.Vol == v) (by omega) (by omega) (fun x _ => rfl)
 rw [this]
 rfl
theorem filt_loop {α β ρ : Type} {l : List α} {F : Nat} (acc0 : List β) (q : α → Bool) (it : α → β) {body : List β × Int → Option (Lp (List β × Int) ρ)} (hF : l.length < F)
    (hb : ∀ (i : Nat) (x : α), l[i]? = some x → x ∈ l → i < l.length → ∀ acc : List β, acc.length ≤ acc0.length + i → body (acc, (i : Int)) = some (.go (if q x then acc ++ [it x] else acc, ((i + 1 : Nat) : Int))))
    (he : ∀ acc, body (acc, (l.length : Int)) = some (.brk (acc, (l.length : Int)))) : loopM body F (acc0, 0) = some (.brk (acc0 ++ (l.filter q).map it, (l.length : Int))) := by
  have := go_loop (body := body) (s0 := (acc0, (0 : Int))) (n := l.length) (F := F) (fun i : Nat => (acc0 ++ ((l.take i).filter q).map it, (i : Int))) hF (by simp) (fun i hi => by
    have hlen : ((l.take i).filter q).length ≤ i := Nat.le_trans (List.length_filter_le _ _) (by rw [List.length_take]; omega)
    rw [hb i l[i] (List.getElem?_eq_getElem hi) (List.getElem_mem hi) hi _ (by rw [List.length_append, List.length_map]; omega)]
    rw [List.take_succ_eq_append_getElem hi, List.filter_append, List.map_append]
    cases hq : q l[i] <;> simp [List.filter, hq]) (he _)
  simpa using this
theorem m78 {F : Nat} {c : TCatalog} {v : Int} (hF : 1000 ≤ F) (h : Sm c) : M78 F c (fun x0 x1 => M80 F x0 x1 v) = some (onL c v) := by
 have hsn := h.sn
 have hch := h.ch
 have hex := h.ex
 unfold M78
 rw [filt_loop (l := c.Chunks) [] (fun x => onV v x.Locs) it1 (by omega) (fun i x hx hm hi acc ha => by
  unfold M78_L0
  rw [wr1 (by omega)]
  simp only [ix_nat, hx, Option.bind_some, Int.ofNat_lt, hi, decide_true, if_true, m44 hF h, m80 hF (h.cl x hm).1]
  simp only [List.length_nil] at ha
  rw [app_some (by simp; omega)]
  cases onV v x.Locs <;> rfl) (fun acc => by unfold M78_L0; simp)]
 simp only [after_brk, List.nil_append]
 have l1 : ((c.Chunks.filter fun x => onV v x.Locs).map it1).length ≤ 400 := by rw [List.length_map]; exact Nat.le_trans (List.length_filter_le _ _) hch
 rw [filt_loop (l := c.Snaps) _ (fun x => onV v x.Locs) it2 (by omega) (fun i x hx hm hi acc ha => by
  unfold M78_L2
  rw [wr1 (by omega)]
  simp only [ix_nat, hx, Option.bind_some, Int.ofNat_lt, hi, decide_true, if_true, m80 hF (h.sl x hm)]
  rw [app_some (by simp; omega)]
  cases onV v x.Locs <;> rfl) (fun acc => by unfold M78_L2; simp)]
 simp only [after_brk]
 have l2 : ((c.Snaps.filter fun x => onV v x.Locs).map it2).length ≤ 12 := by rw [List.length_map]; exact Nat.le_trans (List.length_filter_le _ _) hsn
 rw [filt_loop (l := c.Exps) _ (fun x => onV v x.Locs) it3 (by omega) (fun i x hx hm hi acc ha => by
  unfold M78_L4
  rw [wr1 (by omega)]
  simp only [ix_nat, hx, Option.bind_some, Int.ofNat_lt, hi, decide_true, if_true, m80 hF (h.el x hm)]
  rw [List.length_append] at ha
  rw [app_some (by simp; omega)]
  cases onV v x.Locs <;> rfl) (fun acc => by unfold M78_L4; simp)]
 rfl
theorem m37 {F : Nat} {c : TCatalog} {v : Int} (hF : 1000 ≤ F) (h : Sm c) : M37 F c v = some (if good c then onL c v else []) := by
 unfold M37
 rw [m33 hF h, m78 hF h]
 cases good c <;> simp
theorem onL_len {c : TCatalog} {v : Int} (h : Sm c) : (onL c v).length ≤ 720 := by
 have hsn := h.sn
 have hch := h.ch
 have hex := h.ex
 unfold onL
 simp only [List.length_append, List.length_map]
 have h1 := List.length_filter_le (fun x : TChunk => onV v x.Locs) c.Chunks
 have h2 := List.length_filter_le (fun x : TSnap => onV v x.Locs) c.Snaps
 have h3 := List.length_filter_le (fun x : TExp => onV v x.Locs) c.Exps
 omega
def live (c : TCatalog) (v : Int) : Nat := ((onL c v).filter fun x => x.Kind != 1 || usedB c x.Id).length
theorem locs_in {c : TCatalog} {l : List TLoc} (h : locsB c l = true) : ∀ x ∈ l, 0 ≤ x.Vol ∧ x.Vol.toNat < c.Vols.length := by
 intro x hx
 obtain ⟨i, hi, rfl⟩ := List.getElem_of_mem hx
 unfold locsB at h
 simp only [Bool.and_eq_true, Bool.not_eq_true', List.any_eq_false, List.mem_range] at h
 have this : locB c l i = true := by simpa using h.2 i hi
 unfold locB at this
 rw [List.getElem?_eq_getElem hi] at this
 simp only [Bool.and_eq_true, inR, decide_eq_true_eq] at this
 obtain ⟨⟨⟨⟨⟨k1, k2⟩, -⟩, -⟩, -⟩, -⟩ := this
 omega
theorem m123 {F : Nat} {c : TCatalog} {l : List TLoc} {v : Int} (hF : 1000 ≤ F) (hl : l.length ≤ 300) (hin : ∀ x ∈ l, 0 ≤ x.Vol ∧ x.Vol.toNat < c.Vols.length) (hv : 0 ≤ v ∧ v.toNat < c.Vols.length) :
    ∃ b, M123 F c l v = some (onV v l, b) := by
  unfold M123
  obtain ⟨s, ⟨h1, h2⟩, h3⟩ := loop_inv (body := fun s : Bool × Bool × Int => M123_L0 F c l v s.1 s.2.1 s.2.2) (I := fun i s => s.2.2 = (i : Int) ∧ s.1 = (l.take i).any fun y => y.Vol == v) (n := l.length) (fun i s hi hI => by
    obtain ⟨a, b, q⟩ := s
    obtain ⟨rfl, rfl⟩ := hI
    have hx : l[i]? = some l[i] := List.getElem?_eq_getElem hi
    have hm := List.getElem_mem hi
    have htk := List.take_succ_eq_append_getElem hi
    generalize l[i] = x at hx hm htk
    obtain ⟨i1, i2⟩ := hin x hm
    have e1 : c.Vols[x.Vol.toNat]? = some c.Vols[x.Vol.toNat] := List.getElem?_eq_getElem i2
    have e2 : c.Vols[v.toNat]? = some c.Vols[v.toNat] := List.getElem?_eq_getElem hv.2
    generalize c.Vols[x.Vol.toNat] = w1 at e1
    generalize c.Vols[v.toNat] = w2 at e2
    refine ⟨((l.take (i + 1)).any fun y => y.Vol == v, (if x.Vol == v then b else if w1.Pool == w2.Pool then true else b), ((i + 1 : Nat) : Int)), ?_, rfl, rfl⟩
    unfold M123_L0
    rw [wr1 (by omega)]
    simp only [ix_nat, hx, ix_pos _ i1, ix_pos _ hv.1, e1, e2, Option.bind_some, Int.ofNat_lt, hi, decide_true, if_true, htk, List.any_append]
    cases hq : x.Vol == v
    · cases w1.Pool == w2.Pool <;> simp [after, hq]
    · simp [after, hq]) (fun s hs => by
    obtain ⟨a, b, q⟩ := s
    obtain ⟨rfl, -⟩ := hs
    unfold M123_L0
    simp) F 0 (false, false, 0) (by omega) (by omega) ⟨rfl, rfl⟩
  rw [h3]
  simp only [after_brk]
  refine ⟨s.2.1, ?_⟩
  rw [h2, List.take_length]
  rfl
theorem good_locs {c : TCatalog} (hg : good c = true) : (∀ x ∈ c.Chunks, locsB c x.Locs = true) ∧ (∀ x ∈ c.Snaps, locsB c x.Locs = true) ∧ (∀ x ∈ c.Exps, locsB c x.Locs = true) := by
 unfold good chsB snsB exsB at hg
 simp only [Bool.and_eq_true, Bool.not_eq_true', List.any_eq_false, List.mem_range] at hg
 obtain ⟨⟨⟨⟨-, -⟩, h1, -⟩, h2, -⟩, h3, -⟩ := hg
 refine ⟨fun x hx => ?_, fun x hx => ?_, fun x hx => ?_⟩
 ·obtain ⟨i, hi, rfl⟩ := List.getElem_of_mem hx
  have this : chB c i = true := by simpa using h1 i hi
  unfold chB at this
  rw [List.getElem?_eq_getElem hi] at this
  simp only [Bool.and_eq_true] at this
  exact this.1.2
 ·obtain ⟨i, hi, rfl⟩ := List.getElem_of_mem hx
  have this : snB c i = true ∧ snC c i = true := by simpa using h2 i hi
  replace this := this.1
  unfold snB at this
  rw [List.getElem?_eq_getElem hi] at this
  simp only [Bool.and_eq_true] at this
  exact this.2
 ·obtain ⟨i, hi, rfl⟩ := List.getElem_of_mem hx
  have this : exA c i = true ∧ exC c i = true := by simpa using h3 i hi
  replace this := this.1
  unfold exA at this
  rw [List.getElem?_eq_getElem hi] at this
  simp only [Bool.and_eq_true] at this
  exact this.2
theorem onV_out {c : TCatalog} {l : List TLoc} {v : Int} (h : locsB c l = true) (hv : ¬ (0 ≤ v ∧ v.toNat < c.Vols.length)) : onV v l = false := by
 refine List.any_eq_false.2 fun x hx => ?_
 have := locs_in h x hx
 simp only [beq_iff_eq]
 rintro rfl
 exact hv this
theorem onL_out {c : TCatalog} {v : Int} (hg : good c = true) (hv : ¬ (0 ≤ v ∧ v.toNat < c.Vols.length)) : onL c v = [] := by
 obtain ⟨h1, h2, h3⟩ := good_locs hg
 unfold onL
 rw [List.filter_eq_nil_iff.2 (fun x hx => by simp [onV_out (h1 x hx) hv]), List.filter_eq_nil_iff.2 (fun x hx => by simp [onV_out (h2 x hx) hv]), List.filter_eq_nil_iff.2 (fun x hx => by simp [onV_out (h3 x hx) hv])]
 rfl
theorem m42 {F : Nat} {c : TCatalog} {v : Int} (hF : 1000 ≤ F) (h : Sm c) (hg : good c = true) : M42 F c v = some (onL c v) := by
 have hsn := h.sn
 have hch := h.ch
 have hex := h.ex
 obtain ⟨g1, g2, g3⟩ := good_locs hg
 unfold M42 M88
 by_cases hv : 0 ≤ v ∧ v.toNat < c.Vols.length
 ·have v1 : decide (v < 0) = false := by simp; omega
  have v2 : decide ((c.Vols.length : Int) ≤ v) = false := by simp; omega
  simp only [v1, v2, Bool.false_eq_true, if_false, after_brk]
  rw [filt_loop (l := c.Chunks) [] (fun x => onV v x.Locs) it1 (by omega) (fun i x hx hm hi acc ha => by
   obtain ⟨b, hb⟩ := m123 (F := F) (v := v) hF (h.cl x hm).1 (locs_in (g1 x hm)) hv
   unfold M88_L0
   rw [wr1 (by omega)]
   simp only [ix_nat, hx, Option.bind_some, Int.ofNat_lt, hi, decide_true, if_true, hb]
   simp only [List.length_nil] at ha
   rw [app_some (by simp; omega)]
   cases onV v x.Locs <;> rfl) (fun acc => by unfold M88_L0; simp)]
  simp only [after_brk, List.nil_append]
  have l1 : ((c.Chunks.filter fun x => onV v x.Locs).map it1).length ≤ 400 := by rw [List.length_map]; exact Nat.le_trans (List.length_filter_le _ _) hch
  rw [filt_loop (l := c.Snaps) _ (fun x => onV v x.Locs) it2 (by omega) (fun i x hx hm hi acc ha => by
   obtain ⟨b, hb⟩ := m123 (F := F) (v := v) hF (h.sl x hm) (locs_in (g2 x hm)) hv
   unfold M88_L2
   rw [wr1 (by omega)]
   simp only [ix_nat, hx, Option.bind_some, Int.ofNat_lt, hi, decide_true, if_true, hb]
   rw [app_some (by simp; omega)]
   cases onV v x.Locs <;> rfl) (fun acc => by unfold M88_L2; simp)]
  simp only [after_brk]
  have l2 : ((c.Snaps.filter fun x => onV v x.Locs).map it2).length ≤ 12 := by rw [List.length_map]; exact Nat.le_trans (List.length_filter_le _ _) hsn
  rw [filt_loop (l := c.Exps) _ (fun x => onV v x.Locs) it3 (by omega) (fun i x hx hm hi acc ha => by
   obtain ⟨b, hb⟩ := m123 (F := F) (v := v) hF (h.el x hm) (locs_in (g3 x hm)) hv
   unfold M88_L4
   rw [wr1 (by omega)]
   simp only [ix_nat, hx, Option.bind_some, Int.ofNat_lt, hi, decide_true, if_true, hb]
   rw [List.length_append] at ha
   rw [app_some (by simp; omega)]
   cases onV v x.Locs <;> rfl) (fun acc => by unfold M88_L4; simp)]
  rfl
 ·rw [onL_out hg hv]
  have : (decide (v < 0) || decide ((c.Vols.length : Int) ≤ v)) = true := by simp; omega
  cases q1 : decide (v < 0)
  ·rw [q1] at this
   simp only [Bool.false_or] at this
   simp only [Bool.false_eq_true, if_false, this, after_brk, if_true]
   rfl
  ·simp only [if_true, after_brk]
   rfl
theorem m65 {F : Nat} {c : TCatalog} {d : Id32} (hF : 1000 ≤ F) (h : Sm c) : M65 F c d = some (usedB c d) := by
 have hsn := h.sn
 unfold M65
 rw [any_loop (l := c.Snaps) (F := F) (fun s => s.Man.Parts.any fun p => p.Ids.any fun x => decide (d = x)) true (by omega) (fun i s hs hm hi => by
  obtain ⟨-, k2, k3⟩ := h.man s hm
  unfold M65_L0
  rw [wr1 (by omega), any_loop (l := s.Man.Parts) (F := F) (fun p => p.Ids.any fun x => decide (d = x)) (Lp.ret true) (by omega) (fun j p hp hm' hj => by
   have k4 := (k3 p hm').2
   unfold M65_L2
   rw [wr1 (by omega), any_loop (l := p.Ids) (F := F) (fun x => decide (d = x)) (Lp.ret (Lp.ret true)) (by omega) (fun k x hx _ hk => by
    unfold M65_L4
    rw [wr1 (by omega)]
    simp only [ix_nat, hs, hp, hx, Option.bind_some, Int.ofNat_lt, hk, decide_true, if_true, decide_eq_true_eq, eq_comm (a := x)]
    split <;> rfl) (by unfold M65_L4; simp [ix_nat, hs, hp])]
   simp only [ix_nat, hs, Option.bind_some, Int.ofNat_lt, hj, decide_true, if_true]
   cases p.Ids.any fun x => decide (d = x) <;> rfl) (by unfold M65_L2; simp [ix_nat, hs])]
  simp only [Int.ofNat_lt, hi, decide_true, if_true]
  cases s.Man.Parts.any fun p => p.Ids.any fun x => decide (d = x) <;> rfl) (by unfold M65_L0; simp)]
 unfold usedB
 cases c.Snaps.any fun s => s.Man.Parts.any fun p => p.Ids.any fun x => decide (d = x) <;> rfl
open Go.Vm
def fits (c : TCatalog) (p need : Int) (r : List Int) (nt st : Int) (i : Nat) : Bool := match c.Vols[i]?, r[i]? with
 | some x, some z => x.Pool == p && (i : Int) != nt && x.State == st && decide (need ≤ z)
 | _, _ => false
open Go.Vm
def fidx {α : Type} (l : List α) (q : α → Bool) : Int := match (List.range l.length).find? fun i => (l[i]?).any q with
 | none => -1
 | some i => (i : Int)
theorem fidx_loop {α : Type} {l : List α} (q : α → Bool) {F : Nat} {body : Int → Option (Lp Int Int)} (hF : l.length < F)
    (hb : ∀ (i : Nat) (x : α), l[i]? = some x → x ∈ l → i < l.length → body (i : Int) = some (if q x then .ret (i : Int) else .go ((i + 1 : Nat) : Int))) (he : body (l.length : Int) = some (.brk (l.length : Int))) :
    (after (loopM body F 0) fun _ => some (-1)) = some (fidx l q) := by
  rw [loop_ff (s0 := (0 : Int)) (n := l.length) (F := F) (fun i : Nat => (i : Int)) (fun i => (l[i]?).any q) (fun i => (i : Int)) hF rfl (fun i hi _ => by
    rw [hb i l[i] (List.getElem?_eq_getElem hi) (List.getElem_mem hi) hi, List.getElem?_eq_getElem hi]; rfl) (fun _ => he)]
  unfold LF fidx
  cases (List.range l.length).find? fun i => (l[i]?).any q <;> rfl
def inP (c : TCatalog) (p : Int) (x : TLoc) : Bool := inR x.Vol 0 ((c.Vols.length : Int) - 1) && (c.Vols[x.Vol.toNat]?).any fun v => v.Pool == p
theorem m95 {F : Nat} {c : TCatalog} {p : Int} {x : TLoc} (hv : c.Vols.length < 1000) : M95 F x c p = some (inP c p x) := by
 unfold M95 inP
 rw [wr (by omega) (by omega), m68]
 simp only [Option.bind_some]
 cases h : inR x.Vol 0 ((c.Vols.length : Int) - 1)
 ·rfl
 ·have h' : 0 ≤ x.Vol ∧ x.Vol ≤ (c.Vols.length : Int) - 1 := by simpa [inR] using h
  have hi : x.Vol.toNat < c.Vols.length := by omega
  simp only [if_true, ix_pos _ h'.1, List.getElem?_eq_getElem hi, Option.bind_some, after_brk, Option.any_some, Bool.true_and]
theorem m46 {F : Nat} {c : TCatalog} {l : List TLoc} {p : Int} (hF : 1000 ≤ F) (hv : c.Vols.length < 1000) (hl : l.length ≤ 300) : M46 F c l p = some (l.any (inP c p)) := by
 unfold M46
 rw [m94 (F := F) (f := fun x0 => M95 F x0 c p) (inP c p) (by omega) (by omega) (fun x _ => m95 hv)]
 rfl
open Go.Vm
def M84a (fuel : Nat) (p0 : List TLoc) : Option (List TLoc) := app [] p0
set_option maxRecDepth 100000 in
theorem W84a {fuel : Nat} {p0 : List TLoc} {o : List TLoc} (h : Heap) (hm : M84a fuel p0 = some o) :
 ACalls Try.prog 84 [.sl none 4 (List.map c_Loc p0)] h (fun r h' => ∃ g : AGh, AOk g 4 o.length ∧ HOk h [(g.t, .obj 77 (fl c_Loc o g.sp))] ∧ r = aw g.t g.n g.cap ∧ h' = hp h [(g.t, .obj 77 (fl c_Loc o g.sp))]) := by
 refine ACalls_hp 8 [.tmp 2] Try.func84 rfl rfl rfl rfl ?_
 unfold M84a at hm
 refine Zf fun K1 H1 => (Za (s_v (o_as (.sc (.slice _ _ _)) rfl) (Zb (H1 _ _ (Zf fun K1 H1 => (Zf fun K2 H2 => (Za (vE rfl ?_))))))))
 refine s_op (AOp_eqnil rfl (by rw [el58]; rfl) (by rw [ev_fm]; exact rfl) (.inl ⟨_, _, _, rfl, fun b hb => ?_⟩))
 refine Zb (H2 _ _ ?_)
 refine AW_if' rfl (fun hc => ?_) (fun hc => ?_)
 have h0 : p0 = [] := by
   cases p0 with
   | nil => rfl
   | cons x l => have := hb (by simp); rw [this] at hc; cases hc
 subst h0
 obtain ⟨rfl, -⟩ := app_spec hm
 refine Zf fun K1 H1 => (Za (s_v (o_as (.sc (.slice _ _ _)) rfl) (Zb (H1 _ _ (AW_ret ?_)))))
 exact Ret.one (.inl rfl) (Sub.refl _) (ALe_nilA _) ⟨g0, AOk.g0 _, HOk.none (HOk.nil _), rfl, rfl⟩
 refine Zl (H1 _ _ (Zf fun K1 H1 => (Za ?_)))
 refine s_op (a_lit0A (c := c_Loc) (HOk.nil _) et58 fun hk => ?_)
 refine vE rfl ?_
 refine s_op (a_appA (c := c_Loc) 0 hm et58 rfl zr77 rfl cz_Loc rfl rfl (AOk.g0 _) hk rfl fun g ok hk => ?_)
 refine s_v (o_as (aw _ _ _) rfl) (Zb (H1 _ _ (AW_ret ?_)))
 exact Ret.one (.inl rfl) (Sub.refl _) (ALe.refl _ _) ⟨g, ok, hk, rfl, rfl⟩
theorem bd84 : bodied Try.prog 84 = true := by kernel_rfl
def M119p_L0 (fuel : Nat) (p0 : List TLoc) (p1 : TLoc → Option Bool) (q0 : Int) : Option (Lp (Int) (Int)) :=
 if (decide (q0 < (p0.length : Int))) = true then ((ix p0 q0).bind fun x0 => (p1 x0).bind fun y0 => if y0 = true then (some (.ret q0)) else some (.go (IntKind.wrap .i64 (q0 + 1)))) else some (.brk q0)
def M119p (fuel : Nat) (p0 : List TLoc) (p1 : TLoc → Option Bool) : Option (Int) :=
 after (loopM (fun s => M119p_L0 fuel p0 p1 s) fuel 0) fun r0 => some (-1)
set_option maxHeartbeats 4000000 in
set_option maxRecDepth 100000 in
theorem W119p {fuel : Nat} {p0 : List TLoc} {p1 : TLoc → Option Bool} {o : Int} (h : Heap) {g_p0 : AGh} (ok_p0 : AOk g_p0 4 p0.length) (hk0 : HOk h [(g_p0.t, .obj 77 (fl c_Loc (p0 : List TLoc) g_p0.sp))]) {p1F : Nat} {p1C : List AV} (p1B : bodied Try.prog p1F = true) (p1H : ∀ x0 o h0, Sub h h0 → p1 x0 = some o → ACalls Try.prog p1F ([.agg (c_Loc x0)] ++ p1C) h0 (fun r h' => r = .sc (.bool o) ∧ h' = h0)) (hm : M119p fuel p0 p1 = some o) :
 ACalls Try.prog 119 [aw g_p0.t g_p0.n g_p0.cap, .fn (.func p1F) p1C] (hp h [(g_p0.t, .obj 77 (fl c_Loc (p0 : List TLoc) g_p0.sp))]) (fun r h' => r = .sc (.int .i64 o) ∧ h' = hp h [(g_p0.t, .obj 77 (fl c_Loc (p0 : List TLoc) g_p0.sp))]) := by
 refine ACp hk0 19 [.tmp 4] Try.func119 rfl rfl rfl rfl ?_
 unfold M119p at hm
 refine vs (v0 (vs (vs (v0 (vn (fun _ => o_lenA ln58 ok_p0 rfl) ?_)))))
 refine vlpH hm (σ := Int) (τ := Unit) (fun g s => [(g_p0.t, .obj 77 (fl c_Loc (p0 : List TLoc) g_p0.sp))]) (fun g s => .c 0 (aw g_p0.t g_p0.n g_p0.cap) (.c 1 (.fn (.func p1F) p1C) (.c 7 (.sc (.int .i64 (p0.length : Int))) (.c 8 (.sc (.int .i64 s)) .nil)))) () (lx (.k4 .nil)) ?_ ?_
 rintro _ q0 x hm
 replace hm : M119p_L0 fuel p0 p1 q0 = some x := hm
 unfold M119p_L0 at hm
 refine vs (v0 (vs (v0 ?_)))
 refine vi hm (fun hc0 hm => ?_) fun hc0 hm => ?_
 refine v0 (vs (v0 (vs (v0 (vs (v0 ?_))))))
 obtain ⟨x1, hx0, hm⟩ := Zc hm
 refine vn (fun _ => o_ixA hx0 el58 ok_p0 rfl rfl) (vn (fun hk => o_ldA (fo := 0) (.agg (c_Loc x1)) hx0 cz_Loc ok_p0 ld77 rfl (hp_at 0 hk rfl) (fun _ => rfl)) ?_)
 obtain ⟨_, hy0, hm⟩ := Zc hm
 refine vn (fun hk => o_call (p1H _ _ _ (hp_sub (List.nil_sublist _) hk).1 hy0) rfl p1B rfl) (v0 ?_)
 refine vi hm (fun hc1 hm => ?_) fun hc1 hm => ?_
 refine vs (v0 (v0 ?_))
 refine vrt hm fun hm => ?_
 injection hm with hm; subst hm
 exact vr fun hk => Ret.of1 (.inl rfl) (rsT _ _ (.sc (.int _ _)) rfl) (hp_pick hk [0] rfl).2 (ALe.refl _ _) ⟨rfl, rfl⟩
 refine v0 (v0 ?_)
 exact vgo hm () trivial (lx (.k4 .nil))
 refine v0 ?_
 exact vbk hm () trivial (lx (.k4 .nil))
 rintro _ r0 hm
 refine vs (v0 (v0 ?_))
 cases hm
 exact vr fun hk => Ret.of1 (.inl rfl) (rsT _ _ (.sc (.int _ _)) rfl) (hp_pick hk [0] rfl).2 (ALe.refl _ _) ⟨rfl, rfl⟩
def M83P_L0 (fuel : Nat) (p1 : TLoc → Option Bool) (q0 : List TLoc) (q1 : Int) (q2 : Int) : Option (Lp ((List TLoc) × Int × Int) ((List TLoc))) :=
 if (decide (q2 < (q0.length : Int))) = true then ((ix q0 q2).bind fun x0 => (p1 x0).bind fun y0 => after (if (!y0) = true then ((ix q0 q1).bind fun _ => some (.brk (q0.set q1.toNat (x0), IntKind.wrap .i64 (q1 + 1)))) else some (.brk (q0, q1)) : Option (Lp ((List TLoc) × Int) (Lp ((List TLoc) × Int × Int) ((List TLoc))))) fun ⟨j0, j1⟩ => some (.go (j0, j1, IntKind.wrap .i64 (q2 + 1)))) else some (.brk (q0, q1, q2))
def M83P (fuel : Nat) (p0 : List TLoc) (p1 : TLoc → Option Bool) : Option ((List TLoc)) :=
 (M119p fuel p0 p1).bind fun y3 => if (y3 == (-1)) = true then (some p0) else after (loopM (fun s => M83P_L0 fuel p1 s.1 s.2.1 s.2.2) fuel (p0, y3, IntKind.wrap .i64 (y3 + 1))) fun ⟨r0, r1, r2⟩ => grd (decide (0 ≤ r1) && decide (r1 < (r0.length : Int))) <| grd (decide (0 ≤ r1) && decide (r1 ≤ (r0.length : Int))) <| some (r0.take r1.toNat)
set_option maxHeartbeats 4000000 in
set_option maxRecDepth 100000 in
theorem W83P {fuel : Nat} {p0 : List TLoc} {p1 : TLoc → Option Bool} {o : (List TLoc)} (h : Heap) {g_p0 : AGh} (ok_p0 : AOk g_p0 4 p0.length) (hk0 : HOk h [(g_p0.t, .obj 77 (fl c_Loc (p0 : List TLoc) g_p0.sp))]) {p1F : Nat} {p1C : List AV} (p1B : bodied Try.prog p1F = true) (p1H : ∀ x0 o h0, Sub h h0 → p1 x0 = some o → ACalls Try.prog p1F ([.agg (c_Loc x0)] ++ p1C) h0 (fun r h' => r = .sc (.bool o) ∧ h' = h0)) (hm : M83P fuel p0 p1 = some o) :
 ACalls Try.prog 83 [aw g_p0.t g_p0.n g_p0.cap, .fn (.func p1F) p1C] (hp h [(g_p0.t, .obj 77 (fl c_Loc (p0 : List TLoc) g_p0.sp))]) (fun r h' => ∃ g : AGh, AOk g 4 o.length ∧ HOk h [(g.t, .obj 77 (fl c_Loc o g.sp))] ∧ r = aw g.t g.n g.cap ∧ h' = hp h [(g.t, .obj 77 (fl c_Loc o g.sp))]) := by
 refine ACp hk0 42 [.tmp 4] Try.func83 rfl rfl rfl rfl ?_
 unfold M83P at hm
 refine vs (v0 (vs (v0 ?_)))
 obtain ⟨_, hy4, hm⟩ := Zc hm
 refine ve fun hk => AOp_eqh ((hp_permI hk [0] rfl rfl).1.trans (hp_app h [(g_p0.t, .obj 77 (fl c_Loc (p0 : List TLoc) g_p0.sp))] []).symm) (a_call (W119p (hp h []) ok_p0 (HOk_spl [(g_p0.t, .obj 77 (fl c_Loc (p0 : List TLoc) g_p0.sp))] [] (hp_permI hk [0] rfl rfl).2).2 p1B (fun x0 o h0 hs ho => p1H x0 o h0 ((hp_sub (List.nil_sublist _) (HOk_spl [(g_p0.t, .obj 77 (fl c_Loc (p0 : List TLoc) g_p0.sp))] [] (hp_permI hk [0] rfl rfl).2).1).1.trans hs) ho) hy4) rfl bd119 rfl ?_)
 rintro x h' ⟨rfl, rfl⟩
 refine qk hk ((hp_app h [(g_p0.t, .obj 77 (fl c_Loc (p0 : List TLoc) g_p0.sp))] []).trans (hp_permI hk [0] rfl rfl).1.symm) ?_
 refine vs (vs (v0 (v0 ?_)))
 refine vi hm (fun hc7 hm => ?_) fun hc7 hm => ?_
 refine vs (v0 (v0 ?_))
 injection hm with hm; subst hm
 exact vr fun hk => Ret.one (.inl rfl) (hp_sub (h0 := h) (L' := [(g_p0.t, .obj 77 (fl c_Loc (p0 : List TLoc) g_p0.sp))]) (.refl _) hk).1 (ALe.refl _ _) ⟨g_p0, ok_p0, (hp_sub (h0 := h) (L' := [(g_p0.t, .obj 77 (fl c_Loc (p0 : List TLoc) g_p0.sp))]) (.refl _) hk).2, rfl, rfl⟩
 refine v0 (vs (vs (v0 ?_)))
 refine vlp hm (σ := (List TLoc) × Int × Int) (τ := AGh) (fun g s => [(g.t, .obj 77 (fl c_Loc (s.1 : List TLoc) g.sp))]) (fun g s => AOk g 4 (s.1 : List TLoc).length) (fun g s => .c 0 (aw g.t g.n g.cap) (.c 1 (.fn (.func p1F) p1C) (.c 5 (.sc (.int .i64 s.2.1)) (.c 6 (.sc (.int .i64 s.2.2)) .nil)))) g_p0 ok_p0 (lx (.k4 .nil)) ?_ ?_
 rintro ag0 ⟨q0, q1, q2⟩ x ok0 hm
 replace hm : M83P_L0 fuel p1 q0 q1 q2 = some x := hm
 unfold M83P_L0 at hm
 refine vs (vs (v0 (vn (fun _ => o_lenA ln58 ok0 rfl) (v0 ?_))))
 refine vi hm (fun hc0 hm => ?_) fun hc0 hm => ?_
 refine v0 (vs (v0 (vs (v0 ?_))))
 obtain ⟨x1, hx0, hm⟩ := Zc hm
 refine vn (fun _ => o_ixA hx0 el58 ok0 rfl rfl) (vn (fun hk => o_ldA (fo := 0) (.agg (c_Loc x1)) hx0 cz_Loc ok0 ld77 rfl (hp_at 0 hk rfl) (fun _ => rfl)) ?_)
 refine ve fun hk => a_alloc ([.sc (.int .i64 0), .sc (.int .i64 0), .sc (.int .i64 0), .sc (.int .i64 0)]) hk zr77 rfl rfl fun k86 hk1 => qk hk1 rfl ?_
 refine ve fun hk => a_store 0 (c_Loc x1) hk rfl rfl rfl rfl sz77 rfl rfl fun hk2 => qk hk2 rfl ?_
 refine vs (v0 (vl 0 (.agg (c_Loc x1)) ld77 rfl rfl rfl ?_))
 obtain ⟨_, hy0, hm⟩ := Zc hm
 refine vn (fun hk => o_call (p1H _ _ _ (hp_sub (List.nil_sublist _) hk).1 hy0) rfl p1B rfl) ?_
 refine vjn hm (σ := (List TLoc) × Int) (τ := AGh) (fun g s => [(some k86, .obj 77 (c_Loc x1)), (g.t, .obj 77 (fl c_Loc (s.1 : List TLoc) g.sp))]) (fun g s => AOk g 4 (s.1 : List TLoc).length) (fun g s => .c 0 (aw g.t g.n g.cap) (.c 1 (.fn (.func p1F) p1C) (.c 5 (.sc (.int .i64 s.2)) (.c 6 (.sc (.int .i64 q2)) .nil)))) (fun x hm => ?_) ?_
 refine v0 ?_
 refine vi hm (fun hc1 hm => ?_) fun hc1 hm => ?_
 refine vs (v0 (vl 0 (.agg (c_Loc x1)) ld77 rfl rfl rfl ?_))
 obtain ⟨_, hx1, hm⟩ := Zc hm
 refine vn (fun _ => o_ixA hx1 el58 ok0 rfl rfl) ?_
 refine ve fun hk => a_storeA (fo := 0) (x1 : TLoc) 1 hk hx1 cz_Loc ok0 rfl rfl rfl rfl (ALeL.refl _ _) sz77 rfl rfl fun hk3 => qk hk3 rfl ?_
 refine v0 ?_
 exact vgo hm ag0 (AOk.set ok0) (lx (.k4 .nil))
 refine v0 ?_
 exact vgo hm ag0 ok0 (lx (.k4 .nil))
 rintro ag1 ⟨j0, j1⟩ ok1 hm
 refine v0 ?_
 exact vgo hm ag1 ok1 (lxs [1] rfl rfl (.k4 .nil))
 refine v0 ?_
 exact vbk hm ag0 ok0 (lx (.k4 .nil))
 rintro ag2 ⟨r0, r1, r2⟩ ot0 hm
 refine vs (v0 ?_)
 obtain ⟨hz0, hm⟩ := grd_of hm
 refine vn (fun _ => o_slAt hz0 el58 ot0 rfl rfl) ?_
 refine ve fun hk => a_clr 0 hk hz0 cz_Loc ot0 u58 zr77 rfl rfl rfl rfl fun sp0 ok2 hk4 => qk hk4 rfl ?_
 refine vs (v0 ?_)
 obtain ⟨hz1, hm⟩ := grd_of hm
 refine vn (fun _ => o_slAh hz1 ot0 el58 rfl rfl) (v0 ?_)
 cases hm
 exact vr fun hk => Ret.one (.inl rfl) (hp_sub (h0 := h) (L' := [((⟨ag2.t, r1.toNat, ag2.cap, sp0⟩ : AGh).t, .obj 77 (fl c_Loc (r0.take r1.toNat : List TLoc) (⟨ag2.t, r1.toNat, ag2.cap, sp0⟩ : AGh).sp))]) (.refl _) hk).1 (ALe.refl _ _) ⟨(⟨ag2.t, r1.toNat, ag2.cap, sp0⟩ : AGh), ok2, (hp_sub (h0 := h) (L' := [((⟨ag2.t, r1.toNat, ag2.cap, sp0⟩ : AGh).t, .obj 77 (fl c_Loc (r0.take r1.toNat : List TLoc) (⟨ag2.t, r1.toNat, ag2.cap, sp0⟩ : AGh).sp))]) (.refl _) hk).2, rfl, rfl⟩
theorem bd83 : bodied Try.prog 83 = true := by kernel_rfl
def M82 (fuel : Nat) (p0 : List TLoc) (p1 : Bool) (c0 : Int) (c1 : TCatalog) (c2 : Int) : Option (Bool) :=
 (M84a fuel p0).bind fun y3 => (M83P fuel y3 (fun x0 => M85 fuel x0 c0)).bind fun y9 => after (if p1 = true then ((M81 fuel p0 c0).bind fun y0 => if y0 = true then ((M46 fuel c1 y9 c2).bind fun y1 => some (.brk (!y1))) else some (.brk false)) else some (.brk false) : Option (Lp (Bool) (Bool))) fun j0 => some j0
set_option maxHeartbeats 4000000 in
set_option maxRecDepth 100000 in
theorem W82 {fuel : Nat} {p0 : List TLoc} {p1 : Bool} {c0 : Int} {c1 : TCatalog} {c2 : Int} {o : Bool} (h : Heap) {c0K : Key} (c0H : h c0K = some (.obj 3 (c_i64 c0))) {c1K : Key} (c1H : h c1K = some (.obj 27 (c_Catalog c1))) {c2K : Key} (c2H : h c2K = some (.obj 3 (c_i64 c2))) (hm : M82 fuel p0 p1 c0 c1 c2 = some o) :
 ACalls Try.prog 82 [.sl none 4 (List.map c_Loc p0), .sc (.bool p1), .ptr c0K 0, .ptr c1K 0, .ptr c2K 0] h (fun r h' => r = .sc (.bool o) ∧ h' = h) := by
 refine ACv 26 [.tmp 7] Try.func82 rfl rfl rfl rfl ?_
 unfold M82 at hm
 refine vs (v0 (vs (v0 ?_)))
 obtain ⟨y3, hy4, hm⟩ := Zc hm
 refine ve fun hk => a_call (W84a _ hy4) rfl bd84 rfl ?_
 rintro x h' ⟨ag5, ok6, hk7, rfl, rfl⟩
 refine qk (HOk.co hk hk7) (hp_cat _ _ _) ?_
 obtain ⟨y9, hy0, hm⟩ := Zc hm
 refine ve fun hk => AOp_eqh ((hp_permI hk [0] rfl rfl).1.trans (hp_app h [(ag5.t, .obj 77 (fl c_Loc (y3 : List TLoc) ag5.sp))] []).symm) (a_call (W83P (hp h []) ok6 (HOk_spl [(ag5.t, .obj 77 (fl c_Loc (y3 : List TLoc) ag5.sp))] [] (hp_permI hk [0] rfl rfl).2).2 bd85 (fun _ o h0 hs ho => W85 _ (hs _ _ (hp_base (HOk_spl [(ag5.t, .obj 77 (fl c_Loc (y3 : List TLoc) ag5.sp))] [] (hp_permI hk [0] rfl rfl).2).1 c0H)) ho) hy0) rfl bd83 rfl ?_)
 rintro x h' ⟨ag0, ok0, hk0, rfl, rfl⟩
 have hk1 := hp_permI (L' := [(ag0.t, .obj 77 (fl c_Loc (y9 : List TLoc) ag0.sp))]) (HOk_app (HOk_spl [(ag5.t, .obj 77 (fl c_Loc (y3 : List TLoc) ag5.sp))] [] (hp_permI hk [0] rfl rfl).2).1 hk0) [0] rfl rfl
 refine qk hk1.2 ((hp_app h [(ag0.t, .obj 77 (fl c_Loc (y9 : List TLoc) ag0.sp))] []).trans hk1.1) ?_
 refine vs ?_
 refine vjnH hm (σ := Bool) (τ := Unit) (fun g s => [(ag0.t, .obj 77 (fl c_Loc (y9 : List TLoc) ag0.sp))]) (fun g s => .c 7 (.sc (.bool s)) .nil) (fun x hm => ?_) ?_
 refine v0 ?_
 refine vi hm (fun hb0 hm => ?_) fun hb0 hm => ?_
 rw [hb0]
 refine vn (fun hk => Zg (.sc (.int .i64 c0)) ld3 rfl (hp_base hk c0H) rfl) ?_
 refine vk W81 bd81 hm rfl rfl fun _ hm => ?_
 refine vi hm (fun hb1 hm => ?_) fun hb1 hm => ?_
 rw [hb1]
 refine vn (fun hk => Zg (.agg (c_Catalog c1)) ld27 rfl (hp_base hk c1H) rfl) (vn (fun hk => Zg (.sc (.int .i64 c2)) ld3 rfl (hp_base hk c2H) rfl) ?_)
 obtain ⟨_, hy1, hm⟩ := Zc hm
 refine vn (fun hk => o_call (ACalls_pure (.cons (Br.refl _ _) (.cons (Br.aw 0 cz_Loc ok0 hk rfl) (.cons (Br.refl _ _) .nil))) rfl (W46 _ hy1)) rfl bd46 rfl) ?_
 exact vgo hm () trivial (lx (.cons (ALe.refl _ _) .nil))
 rw [hb1]
 exact vgo hm () trivial (lx (.cons (ALe.refl _ _) .nil))
 rw [hb0]
 exact vgo hm () trivial (lx (.cons (ALe.refl _ _) .nil))
 rintro _ j0 hm
 refine v0 ?_
 injection hm with hm; subst hm
 exact vr fun hk => Ret.of1 (.inl rfl) (rsT _ _ (.sc (.bool _)) rfl) (hp_sub (List.nil_sublist _) hk).1 (ALe.refl _ _) ⟨rfl, rfl⟩
theorem bd82 : bodied Try.prog 82 = true := by kernel_rfl
open Go.Vm
def M38 (fuel : Nat) (p0 : TCatalog) (p1 : Int) : Option ((List TItem)) :=
 after (if (decide (p1 < 0)) = true then (some (.brk true)) else if (decide ((p0.Vols.length : Int) ≤ p1)) = true then (some (.brk true)) else (M33 fuel p0).bind fun y0 => some (.brk (y0 != 0)) : Option (Lp (Bool) ((List TItem)))) fun j0 => if j0 = true then (some []) else (ix p0.Vols p1).bind fun x2 => (M78 fuel p0 (fun x0 x1 => M82 fuel x0 x1 p1 p0 x2.Pool)).bind fun y1 => some y1
set_option maxHeartbeats 4000000 in
set_option maxRecDepth 100000 in
theorem W38 {fuel : Nat} {p0 : TCatalog} {p1 : Int} {o : (List TItem)} (h : Heap) (hm : M38 fuel p0 p1 = some o) :
 ACalls Try.prog 38 [.agg (c_Catalog p0), .sc (.int .i64 p1)] h (fun r h' => r = .sl none 37 (List.map c_Item o) ∧ h' = h) := by
 refine ACv 29 [.tmp 4] Try.func38 rfl rfl rfl rfl ?_
 unfold M38 at hm
 refine v ?_
 refine ve fun hk => a_box hk rfl rfl fun k2 hk3 => qk hk3 rfl ?_
 refine ve fun hk => a_box hk rfl rfl fun k5 hk6 => qk hk6 rfl ?_
 refine vs (vs ?_)
 refine vjnH hm (σ := Bool) (τ := Unit) (fun g s => [(some k5, .obj 3 (c_i64 p1)), (some k2, .obj 27 (c_Catalog p0))]) (fun g s => .c 2 (.ptr k2 0) (.c 3 (.ptr k5 0) (.c 19 (.sc (.bool s)) .nil))) (fun x hm => ?_) ?_
 refine v (vl 0 _ ld3 rfl rfl rfl ?_)
 refine vi hm (fun hb0 hm => ?_) fun hb0 hm => ?_
 rw [hb0]
 exact vgo hm () trivial (lx (.k3 .nil))
 rw [hb0]
 refine vl 0 _ ld3 rfl rfl rfl (vl 1 _ ld25 rfl rfl rfl (vln ln25 rfl ?_))
 refine vi hm (fun hb1 hm => ?_) fun hb1 hm => ?_
 rw [hb1]
 exact vgo hm () trivial (lx (.k3 .nil))
 rw [hb1]
 refine vl 1 (.agg (c_Catalog p0)) ld27 rfl rfl rfl ?_
 refine vk W33 bd33 hm rfl rfl fun _ hm => ?_
 exact vgo hm () trivial (lx (.k3 .nil))
 rintro _ j0 hm
 refine v ?_
 refine vi hm (fun hc0 hm => ?_) fun hc0 hm => ?_
 refine v (v ?_)
 cases hm
 exact vr fun hk => Ret.of1 (.inl rfl) (rsT _ _ (.sc (.slice _ _ _)) rfl) (hp_sub (List.nil_sublist _) hk).1 (nil_lem _) ⟨rfl, rfl⟩
 refine v (v (vl 1 _ ld25 rfl rfl rfl (vl 0 _ ld3 rfl rfl rfl ?_)))
 refine vx hm el25 rfl rfl fun x0 _ hm => ?_
 refine ve fun hk => a_alloc (c_i64 0) hk zr3 rfl rfl fun k25 hk0 => qk hk0 rfl ?_
 refine ve fun hk => a_store 0 (c_i64 x0.Pool) hk rfl rfl rfl rfl sz3 rfl rfl fun hk1 => qk hk1 rfl ?_
 refine v (vl 2 (.agg (c_Catalog p0)) ld27 rfl rfl rfl ?_)
 obtain ⟨_, hy0, hm⟩ := Zc hm
 refine vn (fun hk => o_call (W78 _ bd82 (fun _ _ o h0 hs ho => W82 _ (hs _ _ (Zd 1 hk rfl)) (hs _ _ (Zd 2 hk rfl)) (hs _ _ (Zd 0 hk rfl)) ho) hy0) rfl bd78 rfl) (v ?_)
 injection hm with hm; subst hm
 exact vr1 rfl
theorem bd38 : bodied Try.prog 38 = true := by kernel_rfl
open Go.Vm
theorem fidx_spec {α : Type} {l : List α} {q : α → Bool} (h : l.any q = true) : ∃ (i : Nat) (x : α), fidx l q = (i : Int) ∧ l[i]? = some x ∧ q x = true ∧ ∀ y ∈ l.take i, q y = false := by
 unfold fidx
 cases e : (List.range l.length).find? fun i => (l[i]?).any q with
 | none =>
  exfalso
  obtain ⟨x, hx, hq⟩ := List.any_eq_true.1 h
  obtain ⟨i, hi, rfl⟩ := List.getElem_of_mem hx
  have := List.find?_eq_none.1 e i (List.mem_range.2 hi)
  simp [hi, hq] at this
 | some i =>
  obtain ⟨h1, h2, h3⟩ := List.find?_range_eq_some.1 e
  cases e2 : l[i]? with
  | none => rw [e2] at h1; cases h1
  | some x =>
   refine ⟨i, x, rfl, e2, by rw [e2] at h1; simpa using h1, fun y hy => ?_⟩
   obtain ⟨j, hj, rfl⟩ := List.getElem_of_mem hy
   rw [List.length_take] at hj
   have h4 := h3 j (by omega)
   have : l[j]? = some l[j] := List.getElem?_eq_getElem (by omega)
   rw [this] at h4
   rw [List.getElem_take]
   simpa using h4
theorem fidx_none {α : Type} {l : List α} {q : α → Bool} (h : l.any q = false) : fidx l q = -1 := by
 unfold fidx
 have : (List.range l.length).find? (fun i => (l[i]?).any q) = none := by
  rw [List.find?_eq_none]
  intro i hi
  have hi := List.mem_range.1 hi
  rw [List.getElem?_eq_getElem hi]
  have := List.any_eq_false.1 h l[i] (List.getElem_mem hi)
  simpa using this
 rw [this]
theorem del_loop {α ρ : Type} {l : List α} {q : α → Bool} {F : Nat} {body : List α × Int × Int → Option (Lp (List α × Int × Int) ρ)} {i0 : Nat} {x0 : α} (hF : l.length < F) (h0 : l[i0]? = some x0) (hq : q x0 = true) (hn : ∀ y ∈ l.take i0, q y = false)
    (hb : ∀ (cur : List α) (w r : Nat) (x : α), cur.length = l.length → w < r → r < l.length → cur[r]? = some x → x ∈ l → body (cur, (w : Int), (r : Int)) = some (.go (if q x then (cur, (w : Int), ((r + 1 : Nat) : Int)) else (cur.set w x, ((w + 1 : Nat) : Int), ((r + 1 : Nat) : Int)))))
    (he : ∀ (cur : List α) (w : Nat), cur.length = l.length → body (cur, (w : Int), (l.length : Int)) = some (.brk (cur, (w : Int), (l.length : Int)))) :
    ∃ (cur : List α) (w : Nat), loopM body F (l, (i0 : Int), ((i0 + 1 : Nat) : Int)) = some (.brk (cur, (w : Int), (l.length : Int))) ∧ w < l.length ∧ cur.length = l.length ∧ cur.take w = l.filter fun x => !q x := by
  have hi0 := (List.getElem?_eq_some_iff.1 h0).1
  have hx0 := (List.getElem?_eq_some_iff.1 h0).2
  obtain ⟨s, ⟨cur, w, e1, e2, e3, e4, e5⟩, h3⟩ := loop_inv (body := body) (I := fun k s => ∃ (cur : List α) (w : Nat), s = (cur, (w : Int), (k : Int)) ∧ w < k ∧ cur.length = l.length ∧ cur.take w = ((l.take k).filter fun x => !q x) ∧ cur.drop k = l.drop k) (n := l.length) (fun k s hk hI => by
    obtain ⟨cur, w, rfl, i2, i3, i4, i5⟩ := hI
    have hx : cur[k]? = l[k]? := by
      have := congrArg (fun z => z[0]?) i5
      simpa [List.getElem?_drop] using this
    have hlk : l[k]? = some l[k] := List.getElem?_eq_getElem hk
    rw [hlk] at hx
    have htk := List.take_succ_eq_append_getElem hk
    have hmem := List.getElem_mem hk
    generalize l[k] = x at hx htk hmem
    have hd : cur.drop (k + 1) = l.drop (k + 1) := by
      have := congrArg (List.drop 1) i5
      simpa [List.drop_drop, Nat.add_comm] using this
    refine ⟨_, hb cur w k x i3 i2 hk hx hmem, ?_⟩
    cases hqx : q x
    · refine ⟨cur.set w x, w + 1, by simp, by omega, by simpa using i3, ?_, ?_⟩
      · rw [htk, List.filter_append, ← i4]
        have hw : w < (cur.set w x).length := by rw [List.length_set]; omega
        rw [List.take_succ_eq_append_getElem hw, List.getElem_set_self, List.take_set_of_le (Nat.le_refl _)]
        simp [List.filter, hqx]
      · rw [List.drop_set_of_lt (by omega)]
        exact hd
    · refine ⟨cur, w, by simp, by omega, i3, ?_, hd⟩
      rw [htk, List.filter_append, ← i4]
      simp [List.filter, hqx]) (fun s hI => by
    obtain ⟨cur, w, rfl, i2, i3, -⟩ := hI
    exact he cur w i3) F (i0 + 1) (l, (i0 : Int), ((i0 + 1 : Nat) : Int)) hi0 (by omega) ⟨l, i0, rfl, by omega, rfl, by
      rw [List.take_succ_eq_append_getElem hi0, List.filter_append, hx0]
      have : (l.take i0).filter (fun x => !q x) = l.take i0 := List.filter_eq_self.2 fun y hy => by simp [hn y hy]
      rw [this]
      simp [List.filter, hq], rfl⟩
  subst e1
  refine ⟨cur, w, h3, by omega, e3, ?_⟩
  rw [e4, List.take_length]
theorem m83 {F : Nat} {l : List TLoc} {f : TLoc → Option Bool} (q : TLoc → Bool) (hF : 1000 ≤ F) (hl : l.length ≤ 300) (hf : ∀ x ∈ l, f x = some (q x)) : M83P F l f = some (l.filter fun x => !q x) := by
 have h119 : M119p F l f = some (fidx l q) := by
  unfold M119p
  refine fidx_loop q (by omega) (fun i x hx hm hi => ?_) (by unfold M119p_L0; simp)
  unfold M119p_L0
  rw [wr1 (by omega)]
  simp only [ix_nat, hx, hf x hm, Option.bind_some, Int.ofNat_lt, hi, decide_true, if_true]
  split <;> rfl
 unfold M83P
 rw [h119]
 simp only [Option.bind_some]
 cases ha : l.any q with
 | false =>
  rw [fidx_none ha]
  simp only [beq_self_eq_true, if_true]
  rw [List.filter_eq_self.2 fun x hx => by simpa using List.any_eq_false.1 ha x hx]
 | true =>
  obtain ⟨i, x, h1, h2, h3, h4⟩ := fidx_spec ha
  rw [h1]
  have hn : ((i : Int) == -1) = false := by simp
  have hil := (List.getElem?_eq_some_iff.1 h2).1
  rw [hn, wr1 (by omega)]
  simp only [Bool.false_eq_true, if_false]
  obtain ⟨cur, w, e1, e2, e3, e4⟩ := del_loop (l := l) (q := q) (F := F) (body := fun s => M83P_L0 F f s.1 s.2.1 s.2.2) (by omega) h2 h3 h4 (fun cur w r x hc hw hr hx hm => by
   unfold M83P_L0
   simp only
   rw [wr1 (i := r) (by omega), wr1 (i := w) (by omega)]
   have hcw : cur[w]? = some cur[w] := List.getElem?_eq_getElem (by omega)
   simp only [ix_nat, hx, hf x hm, Option.bind_some, hc, Int.ofNat_lt, hr, decide_true, if_true, hcw, Int.toNat_natCast]
   cases q x <;> rfl) (fun cur w hc => by unfold M83P_L0; simp [hc])
  rw [e1]
  simp only [after_brk]
  have g1 : (decide ((0 : Int) ≤ (w : Int)) && decide ((w : Int) < (cur.length : Int))) = true := by simp; omega
  have g2 : (decide ((0 : Int) ≤ (w : Int)) && decide ((w : Int) ≤ (cur.length : Int))) = true := by simp; omega
  simp only [grd, g1, g2, if_true, Int.toNat_natCast, e4]
def allL (c : TCatalog) (g : List TLoc → Bool → Bool) : List TItem := (c.Chunks.filter fun x => g x.Locs (usedB c x.Id)).map it1 ++ (c.Snaps.filter fun x => g x.Locs true).map it2 ++ (c.Exps.filter fun x => g x.Locs true).map it3
theorem m78g {F : Nat} {c : TCatalog} {f : List TLoc → Bool → Option Bool} (g : List TLoc → Bool → Bool) (hF : 1000 ≤ F) (h : Sm c) (hf : ∀ l b, l.length ≤ 300 → f l b = some (g l b)) : M78 F c f = some (allL c g) := by
 have hsn := h.sn
 have hch := h.ch
 have hex := h.ex
 unfold M78
 rw [filt_loop (l := c.Chunks) [] (fun x => g x.Locs (usedB c x.Id)) it1 (by omega) (fun i x hx hm hi acc ha => by
  unfold M78_L0
  rw [wr1 (by omega)]
  simp only [ix_nat, hx, Option.bind_some, Int.ofNat_lt, hi, decide_true, if_true, m44 hF h, hf _ _ (h.cl x hm).1]
  simp only [List.length_nil] at ha
  rw [app_some (by simp; omega)]
  cases g x.Locs (usedB c x.Id) <;> rfl) (fun acc => by unfold M78_L0; simp)]
 simp only [after_brk, List.nil_append]
 have l1 : ((c.Chunks.filter fun x => g x.Locs (usedB c x.Id)).map it1).length ≤ 400 := by rw [List.length_map]; exact Nat.le_trans (List.length_filter_le _ _) hch
 rw [filt_loop (l := c.Snaps) _ (fun x => g x.Locs true) it2 (by omega) (fun i x hx hm hi acc ha => by
  unfold M78_L2
  rw [wr1 (by omega)]
  simp only [ix_nat, hx, Option.bind_some, Int.ofNat_lt, hi, decide_true, if_true, hf _ _ (h.sl x hm)]
  rw [app_some (by simp; omega)]
  cases g x.Locs true <;> rfl) (fun acc => by unfold M78_L2; simp)]
 simp only [after_brk]
 have l2 : ((c.Snaps.filter fun x => g x.Locs true).map it2).length ≤ 12 := by rw [List.length_map]; exact Nat.le_trans (List.length_filter_le _ _) hsn
 rw [filt_loop (l := c.Exps) _ (fun x => g x.Locs true) it3 (by omega) (fun i x hx hm hi acc ha => by
  unfold M78_L4
  rw [wr1 (by omega)]
  simp only [ix_nat, hx, Option.bind_some, Int.ofNat_lt, hi, decide_true, if_true, hf _ _ (h.el x hm)]
  rw [List.length_append] at ha
  rw [app_some (by simp; omega)]
  cases g x.Locs true <;> rfl) (fun acc => by unfold M78_L4; simp)]
 rfl
def movB (c : TCatalog) (v p : Int) (l : List TLoc) (b : Bool) : Bool := b && onV v l && !((l.filter fun x => !(x.Vol == v)).any (inP c p))
theorem m82 {F : Nat} {c : TCatalog} {v p : Int} {l : List TLoc} {b : Bool} (hF : 1000 ≤ F) (h : Sm c) (hl : l.length ≤ 300) : M82 F l b v c p = some (movB c v p l b) := by
 have hvo := h.vo
 unfold M82 M84a movB
 rw [app_some (by simp; omega)]
 have h81 : M81 F l v = some (onV v l) := by
  unfold M81 onV
  rw [m94 (F := F) (l := l) (f := fun x0 => M118 F x0 v) (fun y => y.Vol == v) (by omega) (by omega) (fun x _ => rfl)]
  rfl
 simp only [List.nil_append, Option.bind_some]
 rw [m83 (f := fun x0 => M85 F x0 v) (fun y => y.Vol == v) hF hl (fun x _ => rfl)]
 simp only [Option.bind_some, h81, m46 hF (by omega : c.Vols.length < 1000) (Nat.le_trans (List.length_filter_le _ _) hl)]
 cases b <;> cases onV v l <;> simp [after]
theorem m38 {F : Nat} {c : TCatalog} {v : Int} (hF : 1000 ≤ F) (h : Sm c) : M38 F c v = some (if good c = true ∧ 0 ≤ v ∧ v < c.Vols.length then allL c (movB c v ((c.Vols[v.toNat]?).elim 0 (·.Pool))) else []) := by
 unfold M38
 by_cases h1 : v < 0
 ·have : ¬ (good c = true ∧ 0 ≤ v ∧ v < c.Vols.length) := by omega
  simp [h1, this, after]
 ·by_cases h2 : (c.Vols.length : Int) ≤ v
  ·have : ¬ (good c = true ∧ 0 ≤ v ∧ v < c.Vols.length) := by omega
   simp [h1, h2, this, after]
  ·rw [m33 hF h]
   have hv : v.toNat < c.Vols.length := by omega
   have e : c.Vols[v.toNat]? = some c.Vols[v.toNat] := List.getElem?_eq_getElem hv
   generalize c.Vols[v.toNat] = x at e
   have h3 : v < (c.Vols.length : Int) := by omega
   have h0 : 0 ≤ v := by omega
   cases hg : good c
   ·simp [h1, h2, hg, after]
   ·simp only [h1, h2, decide_false, Bool.false_eq_true, if_false, if_true, Option.bind_some, bne_self_eq_false, after_brk, ix_pos _ h0, e, h0, h3, and_self, true_and, Option.elim_some]
    rw [m78g (movB c v x.Pool) hF h (fun l b hl => m82 hF h hl)]
    rfl
end Go.Proofs.Ytoomgangpjcaoaa
namespace Go.Vm
def Fc : Option Nat → Fence
 | none => Fence.wide
 | some l => Fence.wide.inRound l
theorem Fc_fn (ro : Option Nat) (f : FuncId) : (Fc ro).fn f := by cases ro <;> trivial
theorem Fc_depth (ro : Option Nat) : (Fc ro).depth.isSome = true → 1 ≤ 0 := by cases ro <;> exact fun h => by cases h
theorem Fc_calls {ro : Option Nat} {n : Nat} {P : Program} {f : FuncId} {args : Array Value} {w : World} {R : Ending → World → Prop} (h : Calls P f args w R) : CallsIn (Fc ro) n P f args w R := by
 cases ro <;> exact callsIn_wide.2 h
theorem Fc_rows {ro : Option Nat} {n : Nat} {P : Program} {r : String} {args : Array Value} {w : World} {R : Value → World → Prop} (h : Rows P r args w R) : RowsIn (Fc ro) n P r args w R := by
 intro c cs _
 obtain ⟨v, w', hR, hs⟩ := h c cs
 refine ⟨v, w', hR, ?_⟩
 cases ro <;> exact stepsIn_wide.2 hs
def nd : Op → Bool
 | .defer _ => false
 | _ => true
theorem nd_ne {o : Op} (h : nd o = true) : ∀ c, o ≠ .defer c := fun c e => by subst e; cases h
section
variable {P : Program} {ro : Option Nat}
theorem op_in {o : Oper} {a : Act} {w : World} {Nx : Act → World → Prop} {Qx : Exit → Act → World → Prop} (hd : nd o.op = true) (h : o.wp P a w Nx Qx) : o.wpIn (Fc ro) 0 P a w Nx Qx := by
 refine ⟨fun f _ => Fc_fn ro f, ?_⟩
 have hs : o.semAt (Fc ro).round a.eval = execOp a.eval o := by
  cases ro with
  | none => simp [Oper.semAt, Fc]
  | some l => exact Oper.semAt_some _ _ _ (nd_ne hd)
 rw [hs]
 unfold Oper.wp at h
 cases e : (execOp a.eval o).run P w with
 | ok nx w' =>
  rw [e] at h
  cases nx with
  | value v => exact h
  | skip => exact h
  | defer d => exact h
  | enter f args => exact ⟨Fc_depth ro, Fc_calls h⟩
  | row r args => exact ⟨Fc_depth ro, Fc_rows h⟩
  | _ => first | exact h.elim | exact h
 | halt x w' =>
  rw [e] at h
  cases x with
  | panic v => exact h
  | _ => first | exact h.elim | exact h
theorem list_in {ops : Array Oper} {Q : Exit → Act → World → Prop} (hq : ¬ LetsOut Q) : ∀ {l : List Oper} {a : Act} {w : World}, (l.all fun o => nd o.op) = true → wpList P ops Q l a w → wpListIn (Fc ro) 0 P ops Q l a w
 | [], _, _, _, h => h
 | o :: l, a, w, hd, h => by
  simp only [List.all_cons, Bool.and_eq_true] at hd
  refine wpListIn_step fun K hK => ?_
  unfold wpList at h
  split at h
  ·rename_i hw
   rw [if_pos hw]
   rcases h with h | ⟨_, h⟩
   ·exact op_in hd.1 (Oper.wp_mono (fun a' w' h' => hK _ _ (list_in hq hd.2 h')) h)
   ·exact absurd h hq
  ·rename_i hw
   rw [if_neg hw]
   exact ⟨fun f _ => Fc_fn ro f, hK _ _ (list_in hq hd.2 h)⟩
theorem any_in {md : Region.Mode} {ops : Array Oper} {Q : Exit → Act → World → Prop} (hq : ¬ LetsOut Q) (hd : (ops.toList.all fun o => nd o.op) = true) : ∀ {fuel : Nat} {S : Array Bool} {a : Act} {w : World}, wpAny P md ops Q fuel S a w → wpAnyIn (Fc ro) 0 P md ops Q fuel S a w
 | 0, _, _, _, h => h
 | fuel + 1, S, a, w, h => by
  refine ⟨h.1, fun i hi => ?_⟩
  have hi' := h.2 i hi
  unfold wpOp at hi'
  unfold wpOpIn
  cases ho : ops[i]? with
  | none => rw [ho] at hi'; exact any_in hq hd hi'
  | some o =>
   rw [ho] at hi'
   simp only at hi' ⊢
   have hn : nd o.op = true := List.all_eq_true.1 hd o (by
    have := Array.mem_of_getElem? ho
    simpa using this)
   split at hi'
   ·rename_i hw
    rw [if_pos hw]
    rcases hi' with hi' | ⟨_, hi'⟩
    ·exact op_in hn (Oper.wp_mono (fun a' w' h' => any_in hq hd h') hi')
    ·exact absurd hi' hq
   ·rename_i hw
    rw [if_neg hw]
    exact ⟨fun f _ => Fc_fn ro f, any_in hq hd hi'⟩
end
def Stb (I : Env → World → Prop) : Prop := ∀ E w E' w', Keep E w E' w' → I E w → I E' w'
def AWn (I : Env → World → Prop) (ro : Option Nat) (P : Program) (c : Code) (Q : Exit → Fr → Heap → Prop) (fr : Fr) (h : Heap) : Prop :=
 ∀ E w a, I E w → Rel E h w → VRL E w fr a.tmps.toList → a.defers = [] → c.wpIn (Fc ro) 0 P (fun e a' w' => Post E w (Q e) a' w') a w
section
variable {P : Program} {ro : Option Nat} {I : Env → World → Prop} {Q : Exit → Fr → Heap → Prop} {fr : Fr} {h : Heap}
theorem AWn.mono {c : Code} {Q' : Exit → Fr → Heap → Prop} (hc : AWn I ro P c Q fr h) (hq : ∀ e fr h, Q e fr h → Q' e fr h) : AWn I ro P c Q' fr h :=
 fun E w a i r v d => wpIn_mono (hc E w a i r v d) fun e _ _ p => p.mono (hq e)
theorem AWn_of {c : Code} (hc : AW P c Q fr h) : AWn I none P c Q fr h := fun E w a _ r v d => wpIn_wide.2 (hc E w a r v d)
theorem AWn_seq (hI : Stb I) {x y : Code} (hx : AWn I ro P x (Seq (AWn I ro P y Q) Q) fr h) : AWn I ro P (.seq x y) Q fr h := by
 intro E w a i r v d
 refine wpIn_seq (wpIn_mono (hx E w a i r v d) ?_)
 intro e a' w' p
 cases e with
 | normal =>
  obtain ⟨E', fr', h', k, r', v', d', q⟩ := p
  exact wpIn_mono (q E' w' a' (hI _ _ _ _ k i) r' v' d') fun _ _ _ p' => p'.trans k
 | exit id => exact p
 | goto l => exact p
 | ret => exact p
 | panic ch => exact p
 | outgrown => exact p
theorem AWn_if {c : Operand} {x y : Code} {t : Bool} (hc : ev fr c = .sc (.bool t)) (ht : t = true → AWn I ro P x Q fr h) (hf : t = false → AWn I ro P y Q fr h) : AWn I ro P (.cond c x y) Q fr h :=
 fun E w a i r v d => wpIn_cond (t := t) (ev_sc v hc) (by
  cases t
  ·exact hf rfl E w a i r v d
  ·exact ht rfl E w a i r v d)
theorem AWn_block {id : Nat} {c : Code} (hc : AWn I ro P c (Blk id Q) fr h) : AWn I ro P (.block id c) Q fr h := by
 intro E w a i r v d
 refine wpIn_block (wpIn_mono (hc E w a i r v d) ?_)
 intro e a' w' p
 cases e with
 | exit id' =>
  by_cases hid : id' = id
  ·simp only [Exit.inBlock, hid, if_true]
   exact p.mono (fun fr h q => by simpa [Blk, hid] using q)
  ·simp only [Exit.inBlock, hid, if_false]
   exact p.mono (fun fr h q => by simpa [Blk, hid] using q)
 | normal => exact p
 | goto l => exact p
 | ret => exact p
 | panic ch => exact p
 | outgrown => exact p
theorem LeF.awn (hI : Stb I) {c : Code} {fr' : Fr} {h' : Heap} (le : LeF fr' h' fr h) (hc : AWn I ro P c Q fr' h') : AWn I ro P c Q fr h := by
 intro E w a i r v d
 obtain ⟨E', k, r', v'⟩ := le E w _ r v
 exact wpIn_mono (hc E' w a (hI _ _ _ _ k i) r' v' d) fun _ _ _ p => p.trans k
theorem AWn_reg {id : Nat} {l : List Oper} (hd : (l.all fun o => nd o.op) = true) (hl : AOps P l.toArray l (Q .normal) fr h) : AWn I ro P (.region id l.toArray false) Q fr h := by
 intro E w a _ r v d
 have h1 := hl E w a r v d (fun e a' w' => e = .normal ∧ Post E w (Q .normal) a' w') fun a' w' p => ⟨rfl, p⟩
 have hq : ¬ LetsOut fun e a' w' => e = Exit.normal ∧ Post E w (Q .normal) a' w' := fun hx => by
  obtain ⟨_, _, e, _⟩ := hx
  cases e
 refine wpIn_mono (wpIn_region_lit (id := id) (list_in (ro := ro) hq hd h1)) ?_
 rintro e a' w' ⟨rfl, p⟩
 exact p
theorem AWn_zreg {id : Nat} {l : List Oper} (fs : List (Nat × Option Key × Ent)) (hd : (l.all fun o => nd o.op) = true) (hm : P.follows .mixedOrders = true) (hI : InvL fs (Array.replicate l.length false) h)
    (hl : AGI P l.toArray fs (Q .normal) l.length (Array.replicate l.length false) fr h) : AWn I ro P (.region id l.toArray true) Q fr h := by
  intro E w a _ r v d
  obtain ⟨r', k⟩ := r.drewn (w.drawn + 1)
  have h1 := AG_sound l.length (Array.replicate l.length false) fr h (hl hI) E { w with drawn := w.drawn + 1 } a r' (VRL_keep k _ _ v) d (fun e a' w' => e = .normal ∧ Post E w (Q .normal) a' w') (fun a' w' p => ⟨rfl, p.trans k⟩)
  have hq : ¬ LetsOut fun e a' w' => e = Exit.normal ∧ Post E w (Q .normal) a' w' := fun hx => by
    obtain ⟨_, _, e, _⟩ := hx
    cases e
  have h2 := wpIn_region_any (F := Fc ro) (n := 0) (id := id) (ops := l.toArray) (a := a) (w := w) hm (any_in (ro := ro) hq (by simpa using hd) (by simpa using h1))
  refine wpIn_mono h2 ?_
  rintro e a' w' ⟨rfl, p⟩
  exact p
end
def nC : Obj → Bool
 | .cells _ _ _ => false
 | _ => true
theorem nC_cell {w : World} {g o : Nat} {ob : Obj} (hl : w.heap[g]? = some ob) (ho : nC ob = true) : w.cell? ⟨g, o, none⟩ = none := by
 cases ob <;> simp_all [World.cell?, nC]
theorem cellP {w : World} {l g o : Nat} {ob ob' : Obj} (hl : w.heap[l]? = some ob) (ho : nC ob = true) (ho' : nC ob' = true) : (w.putObj l ob').cell? ⟨g, o, none⟩ = w.cell? ⟨g, o, none⟩ := by
 by_cases e : g = l
 ·subst e
  have h1 := World.putObj_heap_same (w := w) (o := ob') (Array.getElem?_eq_some_iff.1 hl).1
  rw [nC_cell h1 ho', nC_cell hl ho]
 ·exact cell_of_block (World.putObj_heap_other e) o
theorem Rel.relock {E : Env} {h : Heap} {w : World} (r : Rel E h w) (L : Nat → Prop) (hL : ∀ k g, E.at h k g → ¬ L g) (hb : ∀ g, L g → g < w.heap.size) : Rel { E with lock := L } h w := by
 have hat : ∀ k g, Env.at { E with lock := L } h k g → E.at h k g := fun k g ha => ha
 constructor
 ·intro k ty cs hk
  obtain ⟨g, cur, e1, e2, e3, e4⟩ := r.obj k ty cs hk
  refine ⟨g, cur, e1, e2, ?_, e4⟩
  exact VRL_keepV (E := E) (E' := { E with lock := L }) ⟨fun _ _ h => ⟨h, rfl⟩, fun _ h => h, fun _ _ h => h, fun _ t ht o ho => ⟨.inr ⟨t, ht, rfl, ho⟩, rfl⟩, fun _ t ht _ => ⟨t, ht, Nat.le_refl _, fun _ => rfl⟩⟩ _ _ e3
 ·exact r.tok
 ·exact r.tkh
 ·exact fun k k' g ha hb => r.sep k k' g ha hb
 ·exact fun k g ha => ⟨hL k g ha, (r.dis k g ha).2⟩
 ·exact r.hus
 ·exact r.obu
 ·exact r.fre
 ·exact r.imb
 ·exact hb
 ·exact r.mp
theorem VRL_relock {E : Env} {w : World} {L : Nat → Prop} {xs : List AV} {vs : List Value} (h : VRL E w xs vs) : VRL { E with lock := L } w xs vs :=
 VRL_keepV (E := E) (E' := { E with lock := L }) ⟨fun _ _ h => ⟨h, rfl⟩, fun _ h => h, fun _ _ h => h, fun _ t ht o ho => ⟨.inr ⟨t, ht, rfl, ho⟩, rfl⟩, fun _ t ht _ => ⟨t, ht, Nat.le_refl _, fun _ => rfl⟩⟩ _ _ h
theorem Rel.turn {E : Env} {h : Heap} {w : World} (r : Rel E h w) {l : Nat} {ob ob' : Obj} (hl : w.heap[l]? = some ob) (ho : nC ob = true) (ho' : nC ob' = true) (hlk : ∀ k, ¬ E.at h k l) : Rel E h (w.putObj l ob') ∧ KeepV E w E (w.putObj l ob') := by
 have hv : KeepV E w E (w.putObj l ob') := ⟨fun g o hi => ⟨hi, cellP hl ho ho'⟩, fun _ h => h, fun _ _ h => h, fun _ t ht o ho2 => ⟨.inr ⟨t, ht, rfl, ho2⟩, cellP hl ho ho'⟩, fun _ t ht _ => ⟨t, ht, Nat.le_refl _, fun _ => rfl⟩⟩
 refine ⟨?_, hv⟩
 have ne : ∀ k g, E.at h k g → g ≠ l := fun k g ha e => hlk k (e ▸ ha)
 constructor
 ·intro k ty cs hk
  obtain ⟨g, cur, e1, e2, e3, e4⟩ := r.obj k ty cs hk
  exact ⟨g, cur, e1, by rw [World.putObj_heap_other (ne k g (.inl ⟨_, rfl, hk, e1⟩))]; exact e2, VRL_keepV hv _ _ e3, e4⟩
 ·intro k ty sz m hk
  obtain ⟨t, cur, e1, e2, e3, e4, e5⟩ := r.tok k ty sz m hk
  exact ⟨t, cur, e1, e2, e3, by rw [World.putObj_heap_other (ne k t.b (.inr ⟨_, _, _, t, hk, e1, rfl⟩))]; exact e4, e5⟩
 ·exact r.tkh
 ·exact r.sep
 ·exact r.dis
 ·exact r.hus
 ·exact r.obu
 ·exact r.fre
 ·intro g o hg
  obtain ⟨v, e⟩ := r.imb g o hg
  exact ⟨v, (cellP hl ho ho').trans e⟩
 ·intro g hg
  rw [World.putObj_size]
  exact r.lkb g hg
 ·intro k es hk
  obtain ⟨g, ents, clk, e1, e2, e3⟩ := r.mp k es hk
  exact ⟨g, ents, clk, e1, by rw [World.putObj_heap_other (ne k g (.inl ⟨_, rfl, hk, e1⟩))]; exact e2, e3⟩
theorem Rel.more {E : Env} {h : Heap} {w : World} (r : Rel E h w) (ob : Obj) : Rel E h (w.alloc ob) ∧ Keep E w E (w.alloc ob) := by
 have hb : ∀ g, g < w.heap.size → (w.alloc ob).heap[g]? = w.heap[g]? := fun g hg => by
  show (w.heap.push ob)[g]? = w.heap[g]?
  rw [Array.getElem?_push_lt hg, Array.getElem?_eq_getElem hg]
 have hc : ∀ g o v, w.cell? ⟨g, o, none⟩ = some v → (w.alloc ob).cell? ⟨g, o, none⟩ = w.cell? ⟨g, o, none⟩ := fun g o v e => cell_of_block (hb g (block_of_cell e)) o
 have htk : ∀ k t, E.tk k = some t → t.b < w.heap.size := fun k t ht => by
  obtain ⟨ty, e⟩ := r.tkh k t ht
  exact r.at_lt (.inr ⟨_, _, _, t, e, ht, rfl⟩)
 have hk : Keep E w E (w.alloc ob) := by
  refine ⟨fun g o hi => ⟨hi, ?_⟩, fun _ => Iff.rfl, fun g hg => hb g (r.lkb g hg), fun _ h => h, fun _ _ h => h, fun k t ht o ho => ⟨.inr ⟨t, ht, rfl, ho⟩, cell_of_block (hb _ (htk k t ht)) o⟩, fun _ t ht _ => ⟨t, ht, Nat.le_refl _, fun _ => rfl⟩, rfl, rfl, rfl, ?_⟩
  ·obtain ⟨v, e⟩ := r.imb g o hi
   exact hc g o v e
  ·show w.heap.size ≤ (w.heap.push ob).size
   simp
 refine ⟨?_, hk⟩
 constructor
 ·intro k ty cs hk'
  obtain ⟨g, cur, e1, e2, e3, e4⟩ := r.obj k ty cs hk'
  exact ⟨g, cur, e1, by rw [hb g (Array.getElem?_eq_some_iff.1 e2).1]; exact e2, VRL_keep hk _ _ e3, e4⟩
 ·intro k ty sz m hk'
  obtain ⟨t, cur, e1, e2, e3, e4, e5⟩ := r.tok k ty sz m hk'
  exact ⟨t, cur, e1, e2, e3, by rw [hb t.b (Array.getElem?_eq_some_iff.1 e4).1]; exact e4, e5⟩
 ·exact r.tkh
 ·exact r.sep
 ·exact r.dis
 ·exact r.hus
 ·exact r.obu
 ·exact r.fre
 ·intro g o hg
  obtain ⟨v, e⟩ := r.imb g o hg
  exact ⟨v, (hc g o v e).trans e⟩
 ·intro g hg
  have := r.lkb g hg
  show g < (w.heap.push ob).size
  simp; omega
 ·intro k es hk'
  obtain ⟨g, ents, clk, e1, e2, e3⟩ := r.mp k es hk'
  exact ⟨g, ents, clk, e1, by rw [hb g (Array.getElem?_eq_some_iff.1 e2).1]; exact e2, e3⟩
def Ird (l D : Nat) (rec : Loop) (fr0 : Fr) (E : Env) (w : World) : Prop :=
 E.lock l ∧ w.heap[l]? = some (.loop rec) ∧ E.lock D ∧ w.heap[D]? = some (.deferred (some [])) ∧ VRL E w fr0 rec.tmps.toList
theorem Ird.stb {l D : Nat} {rec : Loop} {fr0 : Fr} : Stb (Ird l D rec fr0) := fun E w E' w' k ⟨a, b, c, d, e⟩ =>
 ⟨(k.lockEq l).2 a, (k.lock l a).trans b, (k.lockEq D).2 c, (k.lock D c).trans d, VRL_keep k _ _ e⟩
theorem round_abs {P : Program} {l D p : Nat} {rec : Loop} {fr0 fr1 : Fr} {h : Heap} {K : Heap → Prop} {x : AV} (hst : rec.state = .ready) (hpn : rec.pending = none)
    (ha : AWn (fun _ _ => True) (some l) P rec.assign (fun e fr hh => e = .normal ∧ LeF fr1 h fr hh) (fr0.set p x) h)
    (hb : AWn (fun _ _ => True) (some l) P rec.body (fun e fr hh => e = .normal ∧ ∃ h' g, K h' ∧ LeF g h' fr hh) fr1 h)
    {E : Env} {w : World} {v : Value} (hi : Ird l D rec fr0 E w) (r : Rel E h w) (hv : VR E w x v) :
    RoundIn Fence.wide 0 P l rec.fn (rec.tmps.setIfInBounds p v) rec.assign rec.body w (fun e w' => e = .returned (.bool true) ∧ ∃ E' h', Keep E w E' w' ∧ Rel E' h' w' ∧ K h') := by
  obtain ⟨il, ih, iD, iDh, iv⟩ := hi
  have hnat : ∀ {E : Env} {h : Heap} {w : World}, Rel E h w → E.lock l → ∀ k, ¬ E.at h k l := fun r hl k ha => (r.dis k l ha).1 hl
  refine roundIn_of_wpIn trivial ?_
  have hv0 : VRL E w (fr0.set p x) (rec.tmps.setIfInBounds p v).toList := by
    rw [Array.toList_setIfInBounds]
    exact VRL_set p iv hv
  refine wpIn_mono (ha E w { tmps := rec.tmps.setIfInBounds p v, defers := [] } trivial r hv0 rfl) ?_
  rintro e a1 w1 ⟨E1, fr', hh, k1, r1, v1, d1, rfl, le1⟩
  obtain ⟨E2, k2, r2, v2⟩ := le1 E1 w1 _ r1 v1
  have k12 := k1.trans k2
  have il2 : E2.lock l := (k12.lockEq l).2 il
  have hl1 : w1.heap[l]? = some (.loop rec) := (k1.lock l il).trans ih
  refine ⟨_, run_beginRound hl1 hst, ?_⟩
  obtain ⟨r3, kv3⟩ := r2.turn (ob' := .loop { rec with state := .busy }) hl1 rfl rfl (hnat r2 il2)
  have hl3 : (w1.putObj l (.loop { rec with state := .busy })).heap[l]? = some (.loop { rec with state := .busy }) := World.putObj_heap_same (Array.getElem?_eq_some_iff.1 hl1).1
  refine wpIn_mono (hb E2 _ a1 trivial r3 (VRL_keepV kv3 _ _ v2) d1) ?_
  rintro e a4 w4 ⟨E4, fr4, h4, k4, r4, v4, d4, rfl, h', g4, kh, le4⟩
  obtain ⟨E5, k5, r5, -⟩ := le4 E4 w4 _ r4 v4
  have k45 := k4.trans k5
  have hl4 : w4.heap[l]? = some (.loop { rec with state := .busy }) := (k4.lock l il2).trans hl3
  have il5 : E5.lock l := (k45.lockEq l).2 il2
  obtain ⟨r6, kv6⟩ := r5.turn (ob' := .loop rec) hl4 rfl rfl (hnat r5 il5)
  have hend := run_endRound (P := P) none hl4
  have hrec : ({ ({ rec with state := .busy } : Loop) with state := if (none : Option Code).isNone then .ready else .done, pending := none } : Loop) = rec := by
    cases rec; simp_all
  rw [hrec] at hend
  refine ⟨_, _, hend, rfl, E5, h', ?_, r6, kh⟩
  have hl6 : (w4.putObj l (.loop rec)).heap[l]? = some (.loop rec) := World.putObj_heap_same (Array.getElem?_eq_some_iff.1 hl4).1
  have oth : ∀ g, g ≠ l → (w4.putObj l (.loop rec)).heap[g]? = w4.heap[g]? := fun g hg => World.putObj_heap_other hg
  have oth3 : ∀ g, g ≠ l → (w1.putObj l (.loop { rec with state := .busy })).heap[g]? = w1.heap[g]? := fun g hg => World.putObj_heap_other hg
  -- what is kept, from the round's begin to its end
  have c1 := kv3
  refine ⟨fun g o hg => ?_, fun g => ?_, fun g hg => ?_, fun k hk => k45.used k (k12.used k hk), fun k g hk => k45.ob k g (k12.ob k g hk), fun k t ht o ho => ?_, fun k t' ht' hu => ?_, ?_, ?_, ?_, ?_⟩
  · obtain ⟨q1, q2⟩ := k12.imm g o hg
    obtain ⟨q3, q4⟩ := kv3.imm g o q1
    obtain ⟨q5, q6⟩ := k45.imm g o q3
    obtain ⟨q7, q8⟩ := kv6.imm g o q5
    exact ⟨q7, q8.trans (q6.trans (q4.trans q2))⟩
  · exact (k45.lockEq g).trans (k12.lockEq g)
  · by_cases e : g = l
    · subst e; exact hl6.trans ih.symm
    · rw [oth g e, k45.lock g ((k12.lockEq g).2 hg), oth3 g e, k12.lock g hg]
  · obtain ⟨q1, q2⟩ := k12.tkc k t ht o ho
    rcases q1 with q1 | ⟨t2, q1, qb, qm⟩
    · obtain ⟨q3, q4⟩ := kv3.imm _ _ q1
      obtain ⟨q5, q6⟩ := k45.imm _ _ q3
      obtain ⟨q7, q8⟩ := kv6.imm _ _ q5
      exact ⟨.inl q7, q8.trans (q6.trans (q4.trans q2))⟩
    · obtain ⟨q3, q4⟩ := kv3.tkc k t2 q1 o qm
      obtain ⟨q5, q6⟩ := k45.tkc k t2 q1 o qm
      rw [qb] at q4 q5 q6
      have q8 : (w4.putObj l (.loop rec)).cell? ⟨t.b, o, none⟩ = w4.cell? ⟨t.b, o, none⟩ := cellP hl4 rfl rfl
      refine ⟨?_, q8.trans (q6.trans (q4.trans q2))⟩
      rcases q5 with q5 | ⟨t3, q5, qb3, qm3⟩
      · exact .inl q5
      · exact .inr ⟨t3, q5, qb3, qm3⟩
  · obtain ⟨t5, q1, q2, q3⟩ := k45.tkf k t' ht' (k12.used k hu)
    obtain ⟨t1, q4, q5, q6⟩ := k12.tkf k t5 q1 hu
    refine ⟨t1, q4, Nat.le_trans q5 q2, fun e => ?_⟩
    have e1 : t1.m = t5.m := by omega
    have e2 : t5.m = t'.m := by omega
    rw [q6 e1, q3 e2]
  · exact (show (w4.putObj l (.loop rec)).os = w4.os from rfl).trans (k45.os.trans ((show (w1.putObj l (.loop { rec with state := .busy })).os = w1.os from rfl).trans k12.os))
  · exact (show (w4.putObj l (.loop rec)).tape = w4.tape from rfl).trans (k45.tape.trans ((show (w1.putObj l (.loop { rec with state := .busy })).tape = w1.tape from rfl).trans k12.tape))
  · exact (show (w4.putObj l (.loop rec)).output = w4.output from rfl).trans (k45.output.trans ((show (w1.putObj l (.loop { rec with state := .busy })).output = w1.output from rfl).trans k12.output))
  · have s1 := k12.size
    have s2 := k45.size
    rw [World.putObj_size] at s2 ⊢
    omega
def Rnd (P : Program) (l D p : Nat) (rec : Loop) (fr0 : Fr) (x : AV) (h : Heap) (K : Heap → Prop) : Prop :=
 ∀ E w v, Ird l D rec fr0 E w → Rel E h w → VR E w x v →
  RoundIn Fence.wide 0 P l rec.fn (rec.tmps.setIfInBounds p v) rec.assign rec.body w (fun e w' => e = .returned (.bool true) ∧ ∃ E' h', Keep E w E' w' ∧ Rel E' h' w' ∧ K h')
theorem Rnd.of {P : Program} {l D p : Nat} {rec : Loop} {fr0 fr1 : Fr} {h : Heap} {K : Heap → Prop} {x : AV} (hst : rec.state = .ready) (hpn : rec.pending = none)
    (ha : AWn (fun _ _ => True) (some l) P rec.assign (fun e fr hh => e = .normal ∧ LeF fr1 h fr hh) (fr0.set p x) h)
    (hb : AWn (fun _ _ => True) (some l) P rec.body (fun e fr hh => e = .normal ∧ ∃ h' g, K h' ∧ LeF g h' fr hh) fr1 h) : Rnd P l D p rec fr0 x h K :=
  fun _ _ _ hi r hv => round_abs hst hpn ha hb hi r hv
def AOn (I : Env → World → Prop) (ro : Option Nat) (P : Program) (ops : Array Oper) (l : List Oper) (K : Fr → Heap → Prop) (fr : Fr) (h : Heap) : Prop :=
 ∀ E w a, I E w → Rel E h w → VRL E w fr a.tmps.toList → a.defers = [] → ∀ Q : Exit → Act → World → Prop, ¬ LetsOut Q → (∀ a' w', Post E w K a' w' → Q .normal a' w') → wpListIn (Fc ro) 0 P ops Q l a w
theorem wp_ex {P : Program} {o : Oper} {a : Act} {w : World} {K : Act → World → Prop} {Q Q' : Exit → Act → World → Prop} (hp : ∀ ch a w, Q (.panic ch) a w → Q' (.panic ch) a w) (ho : LetsOut Q → LetsOut Q')
    (hh : o.wp P a w K Q) : o.wp P a w K Q' := by
  unfold Oper.wp at *
  generalize (execOp a.eval o).run P w = r at *
  cases r with
  | ok n w' =>
    cases n <;> simp only [Oper.upon] at hh ⊢ <;>
      first
        | exact hh
        | exact Calls.mono hh (fun e w'' he => by cases e <;> first | exact he | exact hp _ _ _ he | exact ho he)
        | exact Rows.mono hh (fun _ _ he => he)
  | halt x w' => cases x <;> simp only [Oper.upon] at hh ⊢ <;> first | exact hh | exact hp _ _ _ hh
section
variable {P : Program} {ro : Option Nat} {I : Env → World → Prop} {Q : Exit → Fr → Heap → Prop} {fr : Fr} {h : Heap} {ops : Array Oper} {K : Fr → Heap → Prop}
theorem list_pre {Q Q1 : Exit → Act → World → Prop} {l2 : List Oper} (hq : ¬ LetsOut Q) (hp : ∀ ch a w, Q1 (.panic ch) a w → Q (.panic ch) a w) (ho : LetsOut Q1 → LetsOut Q) (hn : ∀ a w, Q1 .normal a w → wpListIn (Fc ro) 0 P ops Q l2 a w) :
    ∀ {l : List Oper} {a : Act} {w : World}, (l.all fun o => nd o.op) = true → wpList P ops Q1 l a w → wpListIn (Fc ro) 0 P ops Q (l ++ l2) a w
  | [], _, _, _, h => hn _ _ h
  | o :: l, a, w, hd, h => by
    simp only [List.all_cons, Bool.and_eq_true] at hd
    refine wpListIn_step fun K hK => ?_
    unfold wpList at h
    split at h
    · rename_i hw
      rw [if_pos hw]
      rcases h with h | ⟨_, h⟩
      · exact op_in hd.1 (wp_ex hp ho (Oper.wp_mono (fun a' w' h' => hK _ _ (list_pre hq hp ho hn hd.2 h')) h))
      · exact absurd (ho h) hq
    · rename_i hw
      rw [if_neg hw]
      exact ⟨fun f _ => Fc_fn ro f, hK _ _ (list_pre hq hp ho hn hd.2 h)⟩
theorem AOn_of {l l2 : List Oper} (hI : Stb I) (hd : (l.all fun o => nd o.op) = true) (hl : AOps P ops l (fun fr hh => AOn I ro P ops l2 K fr hh) fr h) : AOn I ro P ops (l ++ l2) K fr h := by
 intro E w a i r v d Q hq hQ
 refine list_pre (Q1 := fun e a' w' => match e with | .normal => wpListIn (Fc ro) 0 P ops Q l2 a' w' | e => Q e a' w') hq (fun _ _ _ p => p) (fun p => p) (fun _ _ p => p) hd (hl E w a r v d _ ?_)
 rintro a' w' ⟨E', fr', h', k, r', v', d', q⟩
 exact q E' w' a' (hI _ _ _ _ k i) r' v' d' Q hq fun a'' w'' p => hQ _ _ (p.trans k)
theorem AOn_nil (hk : K fr h) : AOn I ro P ops [] K fr h := fun E w a _ r v d _ _ hQ => hQ a w ⟨E, fr, h, Keep.refl E w, r, v, d, hk⟩
theorem AWn_list {id : Nat} {l : List Oper} (hl : AOn I ro P l.toArray l (Q .normal) fr h) : AWn I ro P (.region id l.toArray false) Q fr h := by
 intro E w a i r v d
 refine wpIn_mono (wpIn_region_lit (id := id) (Q := fun e a' w' => e = .normal ∧ Post E w (Q .normal) a' w') (hl E w a i r v d _ ?_ fun _ _ p => ⟨rfl, p⟩)) ?_
 ·rintro ⟨_, _, e, _⟩
  cases e
 ·rintro e a' w' ⟨rfl, p⟩
  exact p
theorem AWn_now {c : Code} {e : Exit} (hc : ∀ (R : Exit → Act → World → Prop) a w, R e a w → c.wpIn (Fc ro) 0 P R a w) (hq : Q e fr h) : AWn I ro P c Q fr h :=
 fun E w a _ r v d => hc _ a w ⟨E, fr, h, Keep.refl E w, r, v, d, hq⟩
theorem AWn_skip (hq : Q .normal fr h) : AWn I ro P .skip Q fr h := AWn_now (fun _ _ _ p => wpIn_skip p) hq
theorem AWn_loop {c : Code} (hI : Stb I) (J : Nat → Fr → Heap → Prop) (n : Nat) (h0 : J n fr h)
    (round : ∀ n fr h, J n fr h → AWn I none P c (Seq (fun fr' h' => ∃ n', n' < n ∧ J n' fr' h') Q) fr h) : AWn I none P (.loop c) Q fr h := by
  intro E w a i r v d
  refine wpIn_wide.2 (wp_loop_ghost (fun n a' w' => Post E w (J n) a' w') n ⟨E, fr, h, Keep.refl E w, r, v, d, h0⟩ ?_)
  intro n a' w' p
  obtain ⟨E', fr', h', k, r', v', d', q⟩ := p
  refine wp_mono (wpIn_wide.1 (round n fr' h' q E' w' a' (hI _ _ _ _ k i) r' v' d')) ?_
  intro e a'' w'' p'
  cases e with
  | normal =>
    obtain ⟨E'', fr'', h'', k', r'', v'', d'', n', hn, q'⟩ := p'
    exact ⟨n', hn, E'', fr'', h'', k.trans k', r'', v'', d'', q'⟩
  | exit id => exact p'.trans k
  | goto l => exact p'.trans k
  | ret => exact p'.trans k
  | panic ch => exact p'.trans k
  | outgrown => exact p'.trans k
theorem AOn_yield {l D p : Nat} {rec : Loop} {fr0 : Fr} {x : AV} {Kr : Heap → Prop} {y b : Operand} {dst : Option Tmp} {ts : Array TypeId} {ty : TypeId} {pos : String} {aft : Array Edge} {l2 : List Oper}
    (hp : rec.params = #[p]) (hy : ev fr y = .fn (.yield l) []) (hx : ev fr b = x) (hr : Rnd P l D p rec fr0 x h Kr)
    (k : ∀ h', Kr h' → AOn (Ird l D rec fr0) none P ops l2 K (fput fr dst (.sc (.bool true))) h') :
    AOn (Ird l D rec fr0) none P ops (⟨dst, .call { callee := .value y, args := #[b], argTypes := ts }, ty, pos, aft, none⟩ :: l2) K fr h := by
  intro E w a i r v d Q hq hQ
  refine wpListIn_plain rfl fun K' hK' => ⟨fun f _ => Fc_fn none f, ?_⟩
  have e1 : a.eval y = .func (.yield l) #[] #[] := by
    have h1 := VR_ev v y
    rw [hy] at h1
    simp only [VR] at h1
    obtain ⟨vs, e, h2⟩ := h1
    have : vs = #[] := by
      have := VRL_length h2
      exact Array.eq_empty_of_size_eq_zero (by simpa using this.symm)
    rw [e, this]
  have e2 : VR E w x (a.eval b) := hx ▸ VR_ev v b
  have hrun : ((⟨dst, .call { callee := .value y, args := #[b], argTypes := ts }, ty, pos, aft, none⟩ : Oper).semAt (Fc none).round a.eval).run P w = .ok (.round l rec.fn (rec.tmps.setIfInBounds p (a.eval b)) rec.assign rec.body) w := by
    have hy := run_yield (P := P) (args := #[a.eval b]) i.2.1 (by rw [hp]; rfl)
    rw [hp] at hy
    have hz : Array.foldl (fun (tmps : Array Value) (x : Tmp × Value) => match x with | (t, a) => tmps.setIfInBounds t a) rec.tmps (#[p].zip #[a.eval b]) = rec.tmps.setIfInBounds p (a.eval b) := by simp
    rw [hz] at hy
    simp only [Oper.semAt, Fc]
    simp [execOp, resolve, Deferred.ofValue, e1, invoke, Fence.wide, hy]
  rw [hrun, Oper.uponIn_round]
  refine ⟨fun hh => (by cases hh), (hr E w _ i r e2).mono ?_⟩
  rintro e w' ⟨rfl, E', h', k1, r1, kh⟩
  refine hK' _ _ (k h' kh E' w' _ (Ird.stb _ _ _ _ k1 i) r1 (VRL_put _ (VRL_keep k1 _ _ v) (by simp [VR])) (by rw [put_defers]; exact d) Q hq fun a'' w'' p' => hQ _ _ (p'.trans k1))
end
theorem Keep.unlock {E E' : Env} {w w' : World} {L : Nat → Prop} (L0 : Nat → Prop) (hs : ∀ g, L0 g → L g) (k : Keep { E with lock := L } w E' w') : Keep { E with lock := L0 } w { E' with lock := L0 } w' :=
 ⟨k.imm, fun _ => Iff.rfl, fun g hg => k.lock g (hs g hg), k.used, k.ob, k.tkc, k.tkf, k.os, k.tape, k.output, k.size⟩
theorem Rel.turnK {E : Env} {h : Heap} {w : World} (r : Rel E h w) {l : Nat} {ob ob' : Obj} (hl : w.heap[l]? = some ob) (ho : nC ob = true) (ho' : nC ob' = true) (hlk : ∀ k, ¬ E.at h k l) (hn : ¬ E.lock l) :
    Rel E h (w.putObj l ob') ∧ Keep E w E (w.putObj l ob') := by
  obtain ⟨r1, kv⟩ := r.turn hl ho ho' hlk
  refine ⟨r1, fun g o hi => kv.imm g o hi, fun _ => Iff.rfl, fun g hg => World.putObj_heap_other fun e => hn (e ▸ hg), kv.used, kv.ob, fun k t ht o ho2 => kv.tkc k t ht o ho2, kv.tkf, rfl, rfl, rfl, ?_⟩
  rw [World.putObj_size]
  exact Nat.le_refl _
def mkD (D : Nat) : Deferred := { target := .collected D, args := #[] }
def PostM (E : Env) (w : World) (K : Fr → Heap → Prop) (a' : Act) (w' : World) : Prop :=
 ∃ D E1 w1 E' fr' h', ¬ E.lock D ∧ Keep E w E1 w1 ∧ Keep { E1 with lock := fun g => E1.lock g ∨ g = D } w1 E' w' ∧ Rel E' h' w' ∧ VRL E' w' fr' a'.tmps.toList ∧ a'.defers = [mkD D] ∧ w'.heap[D]? = some (.deferred (some [])) ∧ K fr' h'
def PostD (D : Nat) (E : Env) (w : World) (K : Fr → Heap → Prop) (a' : Act) (w' : World) : Prop :=
 ∃ E' fr' h', Keep E w E' w' ∧ Rel E' h' w' ∧ VRL E' w' fr' a'.tmps.toList ∧ a'.defers = [mkD D] ∧ K fr' h'
def AWm (P : Program) (c : Code) (Q : Exit → Fr → Heap → Prop) (fr : Fr) (h : Heap) : Prop :=
 ∀ E w a, Rel E h w → VRL E w fr a.tmps.toList → a.defers = [] → c.wpIn Fence.wide 0 P (fun e a' w' => PostM E w (Q e) a' w') a w
def AWd (P : Program) (c : Code) (Q : Exit → Fr → Heap → Prop) (fr : Fr) (h : Heap) : Prop :=
 ∀ D E w a, Rel E h w → VRL E w fr a.tmps.toList → a.defers = [mkD D] → c.wpIn Fence.wide 0 P (fun e a' w' => PostD D E w (Q e) a' w') a w
def AOd (P : Program) (ops : Array Oper) (l : List Oper) (K : Fr → Heap → Prop) (fr : Fr) (h : Heap) : Prop :=
 ∀ D E w a, Rel E h w → VRL E w fr a.tmps.toList → a.defers = [mkD D] → ∀ Q, (∀ a' w', PostD D E w K a' w' → Q .normal a' w') → wpListIn Fence.wide 0 P ops Q l a w
theorem PostD.trans {D : Nat} {E E' : Env} {w w' : World} {K : Fr → Heap → Prop} {a'' : Act} {w'' : World} (k : Keep E w E' w') (h : PostD D E' w' K a'' w'') : PostD D E w K a'' w'' :=
 let ⟨E'', fr', h', h1, h2, h3, h4, h5⟩ := h; ⟨E'', fr', h', k.trans h1, h2, h3, h4, h5⟩
theorem PostM.trans {E E' : Env} {w w' : World} {K : Fr → Heap → Prop} {a'' : Act} {w'' : World} (k : Keep E w E' w') (h : PostM E' w' K a'' w'') : PostM E w K a'' w'' := by
 obtain ⟨D, E1, w1, E2, fr', h', n, k1, k2, r, v, d, c, q⟩ := h
 exact ⟨D, E1, w1, E2, fr', h', fun e => n ((k.lockEq D).2 e), k.trans k1, k2, r, v, d, c, q⟩
theorem PostM.mono {E : Env} {w : World} {K K' : Fr → Heap → Prop} {a' : Act} {w' : World} (hk : ∀ fr h, K fr h → K' fr h) (h : PostM E w K a' w') : PostM E w K' a' w' :=
 let ⟨D, E1, w1, E2, fr', h', n, k1, k2, r, v, d, c, q⟩ := h; ⟨D, E1, w1, E2, fr', h', n, k1, k2, r, v, d, c, hk _ _ q⟩
section
variable {P : Program} {Q : Exit → Fr → Heap → Prop} {fr : Fr} {h : Heap} {ops : Array Oper} {K : Fr → Heap → Prop}
theorem AOd_nil (hk : K fr h) : AOd P ops [] K fr h := fun D E w a r v d _ hQ => hQ a w ⟨E, fr, h, Keep.refl E w, r, v, d, hk⟩
theorem AOd_plain {o : Oper} {l : List Oper} (hg : o.guard = none) (hd : nd o.op = true) (ho : AOp P o (fun x h' => AOd P ops l K (fput fr o.dst x) h') fr h) : AOd P ops (o :: l) K fr h := by
 intro D E w a r v d Q hQ
 refine wpListIn_plain hg fun K' hK' => op_in (ro := none) hd (ho E w a r (fun y _ => VR_ev v y) K' Q ?_)
 intro x u w' E' h' k r' vx kx
 refine hK' _ _ (kx D E' w' _ r' (VRL_put _ (VRL_keep k _ _ v) vx) (by rw [put_defers]; exact d) Q ?_)
 intro a' w'' p
 exact hQ _ _ (p.trans k)
theorem AWd_list {id : Nat} {l : List Oper} (hl : AOd P l.toArray l (Q .normal) fr h) : AWd P (.region id l.toArray false) Q fr h :=
 fun D E w a r v d => wpIn_region_lit (hl D E w a r v d _ fun _ _ p => p)
theorem AWd_ret (hq : Q .ret fr h) : AWd P .ret Q fr h := fun D E w a r v d => wpIn_ret ⟨E, fr, h, Keep.refl E w, r, v, d, hq⟩
theorem AWd_seq {x y : Code} (hx : AWd P x (Seq (AWd P y Q) Q) fr h) : AWd P (.seq x y) Q fr h := by
 intro D E w a r v d
 refine wpIn_seq (wpIn_mono (hx D E w a r v d) ?_)
 intro e a' w' p
 cases e with
 | normal =>
  obtain ⟨E', fr', h', k, r', v', d', q⟩ := p
  exact wpIn_mono (q D E' w' a' r' v' d') fun _ _ _ p' => p'.trans k
 | exit id => exact p
 | goto l => exact p
 | ret => exact p
 | panic ch => exact p
 | outgrown => exact p
theorem LeF.awm {c : Code} {fr' : Fr} {h' : Heap} (le : LeF fr' h' fr h) (hc : AWm P c Q fr' h') : AWm P c Q fr h := by
 intro E w a r v d
 obtain ⟨E', k, r', v'⟩ := le E w _ r v
 exact wpIn_mono (hc E' w a r' v' d) fun _ _ _ p => p.trans k
theorem AWm_pre {x y : Code} (hx : AW P x (fun e fr h => e = .normal ∧ AWm P y Q fr h) fr h) : AWm P (.seq x y) Q fr h := by
 intro E w a r v d
 refine wpIn_seq (wpIn_mono (wpIn_wide.2 (hx E w a r v d)) ?_)
 rintro e a' w' ⟨E', fr', h', k, r', v', d', rfl, q⟩
 exact wpIn_mono (q E' w' a' r' v' d') fun _ _ _ p' => p'.trans k
theorem AWm_post {x y : Code} (hx : AWm P x (fun e fr h => e = .normal ∧ AWd P y Q fr h) fr h) : AWm P (.seq x y) Q fr h := by
 intro E w a r v d
 refine wpIn_seq (wpIn_mono (hx E w a r v d) ?_)
 rintro e a' w' ⟨D, E1, w1, E2, fr', h', n, k1, k2, r', v', d', c, rfl, q⟩
 refine wpIn_mono (q D E2 w' a' r' v' d') fun e a'' w'' p' => ?_
 obtain ⟨E3, fr3, h3, k3, r3, v3, d3, q3⟩ := p'
 exact ⟨D, E1, w1, E3, fr3, h3, n, k1, k2.trans k3, r3, v3, d3, (k3.lock D ((k2.lockEq D).2 (.inr rfl))).trans c, q3⟩
theorem AWm_block {id : Nat} {c : Code} (hc : AWm P c (fun e fr h => e = .normal ∧ Q .normal fr h) fr h) : AWm P (.block id c) Q fr h := by
 intro E w a r v d
 refine wpIn_block (wpIn_mono (hc E w a r v d) ?_)
 intro e a' w' p
 have e0 : e = .normal := by
  obtain ⟨D, E1, w1, E2, fr', h', n, k1, k2, r', v', d', c, e0, q⟩ := p
  exact e0
 subst e0
 exact p.mono fun _ _ q => q.2
theorem ACalls_of_AWm {f : FuncId} {fn : Func} {c : Code} {args : List AV} {Q : AV → Heap → Prop} (hf : P.funcs[f]? = some fn) (hb : fn.body = some c)
    (hc : AWm P c (Ret P fn.results.toList Q) (args ++ List.replicate (fn.ntmps - args.length) (.sc undef)) h) : ACalls P f args h Q := by
  intro E w vs r v
  refine callsIn_wide.1 (callsIn_of_wp_marks (n := 0) hf hb trivial ?_)
  have hl : args.length = vs.size := by simpa using VRL_length v
  have hv : VRL E w (args ++ List.replicate (fn.ntmps - args.length) (.sc undef)) (vs ++ Array.replicate (fn.ntmps - vs.size) undef).toList := by
    rw [Array.toList_append, ← hl]
    refine VRL_append v ?_
    have := VRL_sc (E := E) (w := w) (List.replicate (fn.ntmps - args.length) undef)
    simpa using this
  refine wpIn_mono (hc E w { tmps := vs ++ Array.replicate (fn.ntmps - vs.size) undef, defers := [] } r hv rfl) ?_
  intro e a' w' p
  obtain ⟨D, E1, w1, E2, fr', h', n, k1, k2, r', v', d', c, q⟩ := p
  have hD : E2.lock D := (k2.lockEq D).2 (.inr rfl)
  have h1 : ∀ g, E1.lock g → E2.lock g := fun g hg => (k2.lockEq g).2 (.inl hg)
  have r3 : Rel { E2 with lock := E1.lock } h' w' := r'.relock E1.lock (fun k g ha hg => (r'.dis k g ha).1 (h1 g hg)) (fun g hg => r'.lkb g (h1 g hg))
  have k3 : Keep E w { E2 with lock := E1.lock } w' := k1.trans (k2.unlock E1.lock fun g hg => .inl hg)
  obtain ⟨r4, k4⟩ := r3.turnK (ob' := .deferred none) c rfl rfl (fun k ha => (r'.dis k D ha).1 hD) (fun e => n ((k1.lockEq D).1 e))
  have k5 := k3.trans k4
  have v4 : VRL { E2 with lock := E1.lock } (w'.putObj D (.deferred none)) fr' a'.tmps.toList := VRL_keep k4 _ _ (VRL_relock v')
  have fin : ∀ x y h'', resA P h' fr' fn.results.toList = some x → Sub h'' h' → ALe h'' x y → Q y h'' →
      LeavesInM Fence.wide 0 P fn a'.tmps (fun e w' => ∃ v E' x h', e = Ending.returned v ∧ Keep E w E' w' ∧ Rel E' h' w' ∧ VR E' w' x v ∧ Q x h') a'.defers .returning w' := by
    intro x y h'' hx hs hl hq
    rw [d']
    obtain ⟨u, g1, g2⟩ := resA_sound r4 v4 hx
    obtain ⟨E'', k'', r''⟩ := r4.drop hs
    exact ⟨nofun, .inl ⟨D, _, rfl, run_takeDeferred c, u, g1, u, E'', y, h'', rfl, k5.trans k'', r'', hl _ _ _ r'' (VR_keep k'' _ _ g2), hq⟩⟩
  cases e with
  | normal => obtain ⟨x, y, h'', q1, q2, q3, q4⟩ := q; exact fin x y h'' q1 q2 q3 q4
  | ret => obtain ⟨x, y, h'', q1, q2, q3, q4⟩ := q; exact fin x y h'' q1 q2 q3 q4
  | exit id => exact q.elim
  | goto l => exact q.elim
  | panic ch => exact q.elim
  | outgrown => exact q.elim
theorem AWm_range {g : Operand} {ps : Array Tmp} {assign body : Code} {f : FuncId} {caps : List AV} {Kr : Heap → Prop} (hg : ev fr g = .fn (.func f) caps) (hb : bodied P f = true)
    (hit : ∀ (l D : Nat) (rec : Loop), rec.state = .ready → rec.pending = none → rec.params = ps → rec.assign = assign → rec.body = body → ∀ E w (vs : Array Value), Ird l D rec fr E w → Rel E h w → VRL E w (.fn (.yield l) [] :: caps) vs.toList →
      CallsIn Fence.wide 0 P f vs w (fun e w' => ∃ v E' h', e = .returned v ∧ Keep E w E' w' ∧ Rel E' h' w' ∧ Kr h'))
    (hq : ∀ h', Kr h' → Q .normal fr h') : AWm P (.rangeFunc g ps assign body) Q fr h := by
  intro E w a r v d
  have vg := VR_ev v g
  rw [hg] at vg
  simp only [VR] at vg
  obtain ⟨cs, eg, vc⟩ := vg
  refine wpIn_rangeFunc fun fn _ => ?_
  obtain ⟨rec, hrec⟩ : ∃ rec : Loop, rec = { state := .ready, pending := none, fn, tmps := a.tmps, params := ps, assign, body, defers := w.heap.size } := ⟨_, rfl⟩
  obtain ⟨W1, hW1⟩ : ∃ W1, (w.alloc (.deferred (some []))).alloc (.loop rec) = W1 := ⟨_, rfl⟩
  have hL1 : W1.heap[w.heap.size + 1]? = some (.loop rec) := by
    rw [← hW1]; have := World.alloc_heap_new (w.alloc (.deferred (some []))) (.loop rec); rwa [World.size_alloc] at this
  have hK1 : W1.heap[w.heap.size]? = some (.deferred (some [])) := by
    rw [← hW1]
    show ((w.heap.push _).push _)[w.heap.size]? = _
    simp [Array.getElem?_push]
  obtain ⟨ra, ka⟩ := r.more (.deferred (some []))
  obtain ⟨rb, kb⟩ := ra.more (.loop rec)
  rw [hW1] at rb kb
  have kab := ka.trans kb
  have hsz : W1.heap.size = w.heap.size + 2 := by rw [← hW1]; simp
  obtain ⟨L, hL⟩ : ∃ L : Nat → Prop, L = fun g => E.lock g ∨ g = w.heap.size ∨ g = w.heap.size + 1 := ⟨_, rfl⟩
  have hat : ∀ k g, E.at h k g → g < w.heap.size := fun k g ha => r.at_lt ha
  have r1 : Rel { E with lock := L } h W1 := rb.relock L
    (fun k g ha hg => by
      subst hL
      have h1 := hat k g ha
      rcases hg with hg | hg | hg
      · exact (r.dis k g ha).1 hg
      · omega
      · omega)
    (fun g hg => by
      subst hL
      rcases hg with hg | hg | hg
      · have := r.lkb g hg; omega
      · omega
      · omega)
  have v1 : VRL { E with lock := L } W1 fr a.tmps.toList := VRL_relock (VRL_keep kab _ _ v)
  refine ⟨w.heap.size + 1, [mkD w.heap.size], W1, { target := .fn (.func f) cs, args := #[.func (.yield (w.heap.size + 1)) #[] #[]] }, W1, f, #[.func (.yield (w.heap.size + 1)) #[] #[]] ++ cs, W1, ?_, ?_, fun f' _ => trivial, ?_, fun hh => (by cases hh), ?_⟩
  · rw [← hW1, hrec]; exact run_enterLoop_outer _ _ _ _ _
  · simp only [resolve, eg]
    simp [go_sem]
  · simp [invoke, run_callFunc hb]
  · have hI : Ird (w.heap.size + 1) w.heap.size rec fr { E with lock := L } W1 := ⟨by subst hL; exact .inr (.inr rfl), hL1, by subst hL; exact .inr (.inl rfl), hK1, by rw [hrec]; exact v1⟩
    refine (hit _ _ rec (by rw [hrec]) (by rw [hrec]) (by rw [hrec]) (by rw [hrec]) (by rw [hrec]) _ W1 _ hI r1 ?_).mono ?_
    · rw [Array.toList_append]
      refine VRL_append (xs := [.fn (.yield (w.heap.size + 1)) []]) ?_ (VRL_relock (VRL_keep kab _ _ vc))
      simp only [VRL, VR, List.toList_toArray]
      exact ⟨⟨#[], rfl, by simp [VRL]⟩, trivial⟩
    · rintro e W3 ⟨u, E3, h', rfl, k3, r3, kh⟩
      obtain ⟨i1, i2, i3, i4, i5⟩ := Ird.stb _ _ _ _ k3 hI
      refine ⟨none, _, by have := run_endLoop (P := P) i2 (by rw [hrec]; simp); rw [hrec] at this; exact this, ?_⟩
      have hlo : ∀ g, (E.lock g ∨ g = w.heap.size) → L g := fun g hg => by subst hL; exact hg.elim .inl fun e => .inr (.inl e)
      have hlo3 : ∀ g, (E.lock g ∨ g = w.heap.size) → E3.lock g := fun g hg => (k3.lockEq g).2 (hlo g hg)
      have r4 : Rel { E3 with lock := fun g => E.lock g ∨ g = w.heap.size } h' W3 := r3.relock _ (fun k g ha hg => (r3.dis k g ha).1 (hlo3 g hg)) (fun g hg => r3.lkb g (hlo3 g hg))
      have k4 : Keep { E with lock := fun g => E.lock g ∨ g = w.heap.size } W1 { E3 with lock := fun g => E.lock g ∨ g = w.heap.size } W3 := Keep.unlock (E := E) (L := L) _ hlo k3
      obtain ⟨r5, k5⟩ := r4.turnK (ob' := .loop { rec with state := .exhausted }) i2 rfl rfl (fun k ha => (r3.dis k _ ha).1 i1) (fun hh => by
        rcases hh with hh | hh
        · have := r.lkb _ hh; omega
        · omega)
      rw [hrec] at r5 k5
      refine ⟨w.heap.size, E, W1, _, fr, h', fun hh => by have := r.lkb _ hh; omega, kab, k4.trans k5, r5, ?_, by rw [d]; rfl, ?_, hq h' kh⟩
      · have i5' : VRL E3 W3 fr a.tmps.toList := by rw [hrec] at i5; exact i5
        exact VRL_keep k5 _ _ (VRL_relock i5')
      · rw [World.putObj_heap_other (by omega)]; exact i4
end
section
variable {P : Program} {Q : Exit → Fr → Heap → Prop} {h : Heap} {n : Nat}
theorem args_le {args : List AV} {ntm : Nat} (hn : ntm = n) (hle : Nat.ble args.length n = true) : LeF (fm n (argf 0 args).k) h (args ++ List.replicate (ntm - args.length) (.sc undef)) h := by
 have hle := Nat.le_of_ble_eq_true hle
 subst hn
 rw [argf_k]
 refine LeF.of (Sub.refl h) (ALeL_of_get ?_ ?_)
 ·rw [fm_length, List.length_append, List.length_replicate]; omega
 ·intro i x y hx hy
  rw [fm_get] at hy
  split at hy
  ·cases hy
   have e := look_argk (ntm - args.length) 0 args i
   rw [Nat.zero_add] at e
   rw [e]
   by_cases hi : i < args.length
   ·rw [List.getElem?_append_left hi] at hx
    simp only [List.getD, List.getElem?_append_left hi, hx, Option.getD_some]
    exact ALe.refl _ _
   ·simp only [List.getD, List.getElem?_append_right (Nat.le_of_not_lt hi), List.getElem?_replicate]
    split <;> exact ALe.any _ _
  ·cases hy
theorem ACm {f : FuncId} {fn : Func} {c : Code} {args : List AV} {Q : AV → Heap → Prop} (n : Nat) (rs : List ResultVar) (hf : P.funcs[f]? = some fn) (hb : fn.body = some c) (hn : fn.ntmps = n) (hr : fn.results.toList = rs) (hle : Nat.ble args.length n = true)
    (hc : AWm P c (Ret P rs Q) (fm n (argf 0 args).k) h) : ACalls P f args h Q := by
  refine ACalls_of_AWm hf hb ?_
  rw [hr]
  exact (args_le hn hle).awm hc
theorem ACit {I : Env → World → Prop} (hI : Stb I) {f : FuncId} {fn : Func} {c : Code} {args : List AV} {K : Heap → Prop} (n : Nat) (hf : P.funcs[f]? = some fn) (hb : fn.body = some c) (hn : fn.ntmps = n) (hr : fn.results.toList = []) (hle : Nat.ble args.length n = true)
    (hc : AWn I none P c (fun e fr h => (e = .normal ∨ e = .ret) ∧ ∃ h' g, K h' ∧ LeF g h' fr h) (fm n (argf 0 args).k) h) {E : Env} {w : World} {vs : Array Value} (i : I E w) (r : Rel E h w) (v : VRL E w args vs.toList) :
    CallsIn Fence.wide 0 P f vs w (fun e w' => ∃ v E' h', e = .returned v ∧ Keep E w E' w' ∧ Rel E' h' w' ∧ K h') := by
  refine callsIn_wide.2 (calls_of_wp hf hb ?_)
  have hl : args.length = vs.size := by simpa using VRL_length v
  have hv : VRL E w (args ++ List.replicate (fn.ntmps - args.length) (.sc undef)) (vs ++ Array.replicate (fn.ntmps - vs.size) undef).toList := by
    rw [Array.toList_append, ← hl]
    refine VRL_append v ?_
    have := VRL_sc (E := E) (w := w) (List.replicate (fn.ntmps - args.length) undef)
    simpa using this
  refine wp_mono (wpIn_wide.1 ((args_le hn hle).awn hI hc E w { tmps := vs ++ Array.replicate (fn.ntmps - vs.size) undef, defers := [] } i r hv rfl)) ?_
  rintro e a' w' ⟨E1, fr1, h1, k1, r1, v1, d', q, h', fr', kh, le⟩
  obtain ⟨E', k2, r', v'⟩ := le E1 w' _ r1 v1
  have k := k1.trans k2
  have hx : resA P h' fr' fn.results.toList = some (.tup []) := by rw [hr]; rfl
  obtain ⟨u, g1, -⟩ := resA_sound r' v' hx
  rcases q with rfl | rfl
  · exact ⟨d', u, g1, u, E', h', rfl, k, r', kh⟩
  · exact ⟨d', u, g1, u, E', h', rfl, k, r', kh⟩
theorem AWm_v {x y : Code} {f : FR} {L : HL} (hk : HOk h L) (hx : VC P h n x (fun f L => HOk h L → AWm P y Q (fm n f.k) (hp h L)) (fun _ _ _ => False) f L) : AWm P (.seq x y) Q (fm n f.k) (hp h L) := by
 refine AWm_pre ((hx.r hk).mono ?_)
 rintro e fr hh ⟨f', L', hk', le, q⟩
 cases e with
 | normal => exact ⟨rfl, le.awm (q hk')⟩
 | exit i => exact q.elim
 | goto l => exact q.elim
 | ret => exact q.elim
 | panic c => exact q.elim
 | outgrown => exact q.elim
theorem AWn_v {I : Env → World → Prop} (hI : Stb I) {x y : Code} {f : FR} {L : HL} {ke : Exit → FR → HL → Prop} (hk : HOk h L) (hx : VC P h n x (fun f L => HOk h L → AWn I none P y Q (fm n f.k) (hp h L)) ke f L)
    (he : ∀ e f L fr hh, e ≠ .normal → ke e f L → HOk h L → LeF (fm n f.k) (hp h L) fr hh → Q e fr hh) : AWn I none P (.seq x y) Q (fm n f.k) (hp h L) := by
  refine AWn_seq hI (AWn_of ((hx.r hk).mono ?_))
  rintro e fr hh ⟨f', L', hk', le, q⟩
  cases e with
  | normal => exact le.awn hI (q hk')
  | exit i => exact he _ _ _ _ _ (by simp) q hk' le
  | goto l => exact he _ _ _ _ _ (by simp) q hk' le
  | ret => exact he _ _ _ _ _ (by simp) q hk' le
  | panic c => exact he _ _ _ _ _ (by simp) q hk' le
  | outgrown => exact he _ _ _ _ _ (by simp) q hk' le
theorem o_sl3 {α : Type} {c : α → List AV} {xs ys : List α} {dst : Option Tmp} {a lo hi mx : Operand} {t : TypeId} {sz : Nat} {q1 q2 q3 : IntKind} {x y : Int} {kvs : KV} {ty : TypeId} {pos : String} {aft : Array Edge} (hm : slc xs x y = some ys) (hy : decide (0 < y) = true) (ht : elS P t = some sz) (h0 : Nat.blt 0 sz = true) (ha : evk n kvs a = .sl none sz (xs.map c))
    (hl : evk n kvs lo = .sc (.int q1 x)) (hh : evk n kvs hi = .sc (.int q2 y)) (hx : evk n kvs mx = .sc (.int q3 y)) : AOpV P ⟨dst, .slice t a (some lo) (some hi) (some mx), ty, pos, aft, none⟩ (.sl none sz (ys.map c)) (fm n kvs) h := by
  simp only [Nat.blt_eq] at h0
  simp only [decide_eq_true_eq] at hy
  unfold slc at hm
  split at hm
  · rename_i hc
    cases hm
    refine o_pv (c := (sz = sz ∧ 0 < sz) ∧ 0 ≤ x ∧ x ≤ y ∧ y ≤ y ∧ y ≤ (xs.map c).length) ?_ ⟨⟨rfl, h0⟩, hc.1, hc.2.1, Int.le_refl _, by rw [List.length_map]; exact hc.2.2⟩
    have e3 : sl3 (some (AV.sc (.int q1 x))) (.sc (.int q2 y)) (.sc (.int q3 y)) (some sz) (.sl none sz (xs.map c)) = some ((sz = sz ∧ 0 < sz) ∧ 0 ≤ x ∧ x ≤ y ∧ y ≤ y ∧ y ≤ (xs.map c).length, .sl none sz (((xs.take y.toNat).drop x.toNat).map c)) := by
      simp only [sl3, bdA, intA, Option.bind_some]
      rw [List.map_drop, List.map_take]
    obtain ⟨k, hk⟩ : ∃ k : Nat, y = Int.ofNat (k + 1) := ⟨y.toNat - 1, by show y = ((y.toNat - 1 + 1 : Nat) : Int); omega⟩
    show slM (some (ev (fm n kvs) lo)) (ev (fm n kvs) hi) (ev (fm n kvs) mx) (elS P t) (ev (fm n kvs) a) = _
    rw [ev_fm, ev_fm, ev_fm, ev_fm, ha, hl, hh, hx, ht]
    unfold slM
    rw [e3]
    subst hk
    rfl
  · cases hm
end
section
variable {P : Program} {Q : Exit → Fr → Heap → Prop} {h : Heap} {n : Nat} {I : Env → World → Prop} {ro : Option Nat}
theorem LeF.aon {ops : Array Oper} {l : List Oper} {K : Fr → Heap → Prop} {fr fr' : Fr} {h h' : Heap} (hI : Stb I) (le : LeF fr' h' fr h) (hc : AOn I ro P ops l K fr' h') : AOn I ro P ops l K fr h := by
 intro E w a i r v d Q hq hQ
 obtain ⟨E', k, r', v'⟩ := le E w _ r v
 exact hc E' w a (hI _ _ _ _ k i) r' v' d Q hq fun a' w' p => hQ _ _ (p.trans k)
theorem AOps_mono {ops : Array Oper} {l : List Oper} {K K' : Fr → Heap → Prop} {fr : Fr} {h : Heap} (hk : ∀ fr h, K fr h → K' fr h) (hc : AOps P ops l K fr h) : AOps P ops l K' fr h :=
 fun E w a r v d Q hQ => hc E w a r v d Q fun a' w' p => hQ _ _ (p.mono hk)
theorem AWn_pre {T : Tr TI} {w : Bool} (hT : TOk P T) (hI : Stb I) (k : Nat) {id : Nat} {l : List Oper} {f : FR} {L : HL} (hd : ((l.take k).all fun o => nd o.op) = true) (hk : HOk h L)
    (hv : vo false T w P h n l (fun f L => HOk h L → AOn I ro P l.toArray (l.drop k) (Q .normal) (fm n f.k) (hp h L)) (l.take k) f L) : AWn I ro P (.region id l.toArray false) Q (fm n f.k) (hp h L) := by
  refine AWn_list ?_
  have h1 := AOn_of (l := l.take k) (l2 := l.drop k) (ro := ro) (K := Q .normal) hI hd (AOps_mono (fun fr hh q => ?_) (vo_s hT _ f L hv hk))
  · rw [List.take_append_drop] at h1
    exact h1
  · obtain ⟨f', L', hk', le, q⟩ := q
    exact le.aon hI (q hk')
theorem AOn_end {T : Tr TI} {w : Bool} (hT : TOk P T) (hI : Stb I) {l0 l : List Oper} {K : Fr → Heap → Prop} {f : FR} {L : HL} (hq : ∀ fr' h' fr h, LeF fr' h' fr h → K fr' h' → K fr h) (hd : (l.all fun o => nd o.op) = true) (hk : HOk h L)
    (hv : vo false T w P h n l0 (fun f L => HOk h L → K (fm n f.k) (hp h L)) l f L) : AOn I ro P l0.toArray l K (fm n f.k) (hp h L) := by
  have h1 := AOn_of (l := l) (l2 := []) (ro := ro) (K := K) hI hd (AOps_mono (fun fr hh q => ?_) (vo_s hT _ f L hv hk))
  · rw [List.append_nil] at h1
    exact h1
  · obtain ⟨f', L', hk', le, q⟩ := q
    exact AOn_nil (hq _ _ _ _ le (q hk'))
theorem AOn_yieldF {l D p : Nat} {rec : Loop} {fr0 : Fr} {x : AV} {Kr : Heap → Prop} {y b : Operand} {dst : Option Tmp} {ts : Array TypeId} {ty : TypeId} {pos : String} {aft : Array Edge} {l2 : List Oper} {ops : Array Oper} {K : Fr → Heap → Prop} {f : FR}
    (hp : rec.params = #[p]) (hy : evk n f.k y = .fn (.yield l) []) (hx : evk n f.k b = x) (hr : Rnd P l D p rec fr0 x h Kr)
    (k : ∀ h', Kr h' → AOn (Ird l D rec fr0) none P ops l2 K (fm n (f.put dst (.sc (.bool true))).k) h') :
    AOn (Ird l D rec fr0) none P ops (⟨dst, .call { callee := .value y, args := #[b], argTypes := ts }, ty, pos, aft, none⟩ :: l2) K (fm n f.k) h := by
  refine AOn_yield hp (by rw [ev_fm]; exact hy) (by rw [ev_fm]; exact hx) hr fun h' kh => ?_
  rw [fput_fm, ← FR.put_k]
  exact k h' kh
theorem AOp_kfz {K : AV → Heap → Prop} {o : Oper} {h1 h2 : Heap} {t : Nat} {kvs : KV} (v : AV) (hs : Sub h2 h1) (hv : ALe h2 (lk n kvs t) v) (ho : AOp P o K (fm n (kp kvs t v)) h2) : AOp P o K (fm n kvs) h1 := by
 intro E w a r hva Nx Qx hn
 obtain ⟨E', k, r'⟩ := r.drop hs
 refine ho E' w a r' (fun y hy => ?_) Nx Qx fun x u w' E'' h' k' => hn x u w' E'' h' (k.trans k')
 have h1 := VR_keep k _ _ (hva y hy)
 rw [ev_fm] at h1 ⊢
 cases y with
 | tmp s =>
  simp only [evk] at h1 ⊢
  by_cases e : t = s
  ·subst e
   have h3 := hv E' w _ r' h1
   rw [lk_eq]
   split
   ·rw [kp_same]; exact h3
   ·simp only [VR]
  ·rw [lk_eq] at h1 ⊢
   rw [kp_ne _ _ e]; exact h1
 | const v => exact h1
 | global g => exact h1
 | func g => exact h1
theorem AWm_to {x y : Code} {f : FR} (g : FR) (hx : VC P h n x (fun f L => L = [] ∧ LX h n f [] g []) (fun _ _ _ => False) f []) (hy : AWm P y Q (fm n g.k) (hp h [])) : AWm P (.seq x y) Q (fm n f.k) (hp h []) := by
 refine AWm_pre ((hx.r trivial).mono ?_)
 rintro e fr hh ⟨f', L', hk', le, q⟩
 cases e with
 | normal =>
  obtain ⟨rfl, hl⟩ := q
  exact ⟨rfl, (le.trans (hl trivial).2).awm hy⟩
 | exit i => exact q.elim
 | goto l => exact q.elim
 | ret => exact q.elim
 | panic c => exact q.elim
 | outgrown => exact q.elim
theorem AWn_c {x : Code} {f : FR} {L : HL} (hq : ∀ fr' h' fr h, LeF fr' h' fr h → Q .normal fr' h' → Q .normal fr h) (hk : HOk h L) (hx : VC P h n x (fun f L => HOk h L → Q .normal (fm n f.k) (hp h L)) (fun _ _ _ => False) f L) : AWn I none P x Q (fm n f.k) (hp h L) := by
 refine AWn_of ((hx.r hk).mono ?_)
 rintro e fr hh ⟨f', L', hk', le, q⟩
 cases e with
 | normal => exact hq _ _ _ _ le (q hk')
 | exit i => exact q.elim
 | goto l => exact q.elim
 | ret => exact q.elim
 | panic c => exact q.elim
 | outgrown => exact q.elim
end
end Go.Vm
namespace Go.Proofs.Ytoomgangpjcaoaa
open Go.Vm
def M144_L0 {β : Type} (p0 : List TItem) (m : Int) (st : β → List TItem → Option β) (s : β) (i : Int) : Option (Lp (β × Int) β) :=
 if (decide (i < (p0.length : Int))) = true then ((slc p0 i (p0.length : Int)).bind fun tl => (slc p0 i (IntKind.wrap .i64 (i + min m (tl.length : Int)))).bind fun row => grd (decide (0 < IntKind.wrap .i64 (i + min m (tl.length : Int)))) ((st s row).bind fun s' => some (.go (s', IntKind.wrap .i64 (i + m))))) else some (.brk (s, i))
def M144 {β : Type} (fuel : Nat) (p0 : List TItem) (m : Int) (st : β → List TItem → Option β) (s0 : β) : Option β := after (loopM (fun s => M144_L0 p0 m st s.1 s.2) fuel (s0, 0)) fun s => some s.1
set_option maxHeartbeats 4000000 in
set_option maxRecDepth 100000 in
theorem W144 {β : Type} {Hs : β → Heap → Prop} {st : β → List TItem → Option β} {fuel : Nat} {p0 : List TItem} {m : Int} {s0 o : β} {k1 k2 : Key} {l D p : Nat} {rec : Loop} {fr0 : Fr} {h : Heap}
 (hp : rec.params = #[p])
 (h1 : ∀ s h, Hs s h → h k1 = some (.obj 70 [.sl none 37 (p0.map c_Item)])) (h2 : ∀ s h, Hs s h → h k2 = some (.obj 3 [.sc (.int .i64 m)]))
 (hr : ∀ s row s' h, st s row = some s' → Hs s h → Rnd Try.prog l D p rec fr0 (.sl none 37 (row.map c_Item)) h (Hs s'))
 (hm : M144 fuel p0 m st s0 = some o) (h0 : Hs s0 h) {E : Env} {w : World} {us : Array Value} (hi : Ird l D rec fr0 E w) (r : Rel E h w) (hv : VRL E w [.fn (.yield l) [], .ptr k1 0, .ptr k2 0] us.toList) :
 CallsIn Fence.wide 0 Try.prog 144 us w (fun e w' => ∃ v E' h', e = .returned v ∧ Keep E w E' w' ∧ Rel E' h' w' ∧ Hs o h') := by
 refine ACit Ird.stb 31 Try.func144 rfl rfl rfl rfl ?_ hi r hv
 unfold M144 at hm
 refine AWn_v Ird.stb (h := h) (L := []) trivial ?_ (ke := fun _ _ _ => False) (fun _ _ _ _ _ _ q => q.elim)
 refine v ?_
 intro _
 refine AWn_block ?_
 obtain ⟨SL, hSL⟩ : ∃ SL : Int → FR, SL = fun i => .c 0 (.fn (.yield l) []) (.c 1 (.ptr k1 0) (.c 2 (.ptr k2 0) (.c 4 (.sc (.int .i64 i)) .nil))) := ⟨_, rfl⟩
 refine AWn_loop Ird.stb (fun m' fr hh => ∃ s i, after (loopM (fun s => M144_L0 p0 m st s.1 s.2) m' (s, i)) (fun s => some s.1) = some o ∧ ∃ h1, Hs s h1 ∧ LeF (fm 31 (SL i).k) h1 fr hh) fuel ⟨s0, 0, hm, h, h0, ?_⟩ ?_
 subst hSL
 exact (lx (h := h) (L := []) (.k4 .nil) trivial).2
 rintro m' fr hh ⟨s, i, hm, h', hs, le⟩
 refine le.awn Ird.stb ?_
 cases m' with
 | zero => cases hm
 | succ m' =>
 simp only [loopM] at hm
 cases hx : M144_L0 p0 m st s i with
 | none => rw [hx] at hm; cases hm
 | some x =>
 rw [hx] at hm
 unfold M144_L0 at hx
 subst hSL
 refine AWn_v Ird.stb (h := h') (L := []) trivial ?_ (ke := fun e _ L => e = .exit 0 ∧ x = .brk (s, i) ∧ L = []) ?_
 refine vs (v (vn (fun _ => Zg _ ld70 rfl (h1 _ _ hs) rfl) (vln ln70 rfl (v ?_))))
 refine vi hx (fun hc hx => ?_) (fun hc hx => ?_)
 refine v ?_
 intro _
 obtain ⟨tl, hx1, hx⟩ := Zc hx
 obtain ⟨row, hx2, hx⟩ := Zc hx
 obtain ⟨hx3, hx⟩ := grd_of hx
 obtain ⟨s', hx4, hx⟩ := Zc hx
 injection hx with hx
 subst hx
 refine AWn_seq Ird.stb (AWn_block ?_)
 refine AWn_v Ird.stb (h := h') (L := []) trivial ?_ (ke := fun _ _ _ => False) (fun _ _ _ _ _ _ q => q.elim)
 refine v (vq (by kernel_rfl) (vn (fun _ => Zg _ ld3 rfl (h2 _ _ hs) rfl) (vn (fun _ => Zg _ ld70 rfl (h1 _ _ hs) rfl) (vn (fun _ => o_slc hx1 el70 rfl rfl rfl rfl) (vln ln70 rfl (vn (fun _ => o_min rfl rfl) ?_))))))
 intro _
 refine AWn_seq Ird.stb ?_
 refine AWn_pre tbk Ird.stb 10 (h := h') (L := []) (w := false) rfl trivial ?_
 refine vn (fun _ => Zg _ ld70 rfl (h1 _ _ hs) rfl) (vn (fun _ => o_sl3 hx2 hx3 el70 rfl rfl rfl rfl rfl) ?_)
 intro _
 refine AOn_yieldF hp rfl rfl (hr _ _ _ _ hx4 hs) fun g2 hs2 => ?_
 refine AOn_end tbk Ird.stb (h := g2) (L := []) (w := false) (fun _ _ _ _ le q => le.awn Ird.stb q) rfl trivial ?_
 intro _
 refine AWn_if (t := false) (by rw [ev_fm]; rfl) nofun fun _ => AWn_skip ?_
 refine AWn_c (h := g2) (L := []) ?_ trivial ?_
 rintro fr' hh' fr hh le ⟨n', hn, s, i, hm, h1, hs, le'⟩
 exact ⟨n', hn, s, i, hm, h1, hs, le.trans le'⟩
 refine v (vn (fun _ => Zg _ ld3 rfl (h2 _ _ hs2) rfl) ?_)
 intro _
 exact ⟨m', Nat.lt_succ_self _, s', _, hm, g2, hs2, (lx (h := g2) (L := []) (.k4 .nil) trivial).2⟩
 refine v ?_
 injection hx with hx
 exact ⟨rfl, hx.symm, rfl⟩
 rintro e f L fr hh - ⟨rfl, rfl, rfl⟩ - le
 cases hm
 exact ⟨.inl rfl, h', _, hs, le⟩
set_option maxHeartbeats 4000000 in
set_option maxRecDepth 100000 in
theorem W120 {p0 : List TItem} {m : Int} (h : Heap) (hm : decide (m < 1) = false) :
 ACalls Try.prog 120 [.sl none 37 (List.map c_Item p0), .sc (.int .i64 m)] h (fun r h' => ∃ k1 k2, HOk h [(some k2, .obj 3 [.sc (.int .i64 m)]), (some k1, .obj 70 [.sl none 37 (List.map c_Item p0)])] ∧ r = .fn (.func 144) [.ptr k1 0, .ptr k2 0] ∧ h' = hp h [(some k2, .obj 3 [.sc (.int .i64 m)]), (some k1, .obj 70 [.sl none 37 (List.map c_Item p0)])]) := by
 refine ACv 9 [.tmp 4] Try.func120 rfl rfl rfl rfl ?_
 refine v ?_
 refine ve fun hk => a_box hk rfl rfl fun k1 hk3 => qk hk3 rfl ?_
 refine ve fun hk => a_box hk rfl rfl fun k2 hk3 => qk hk3 rfl ?_
 refine vs (vs (v (vl 0 _ ld3 rfl rfl rfl (v (vf hm (v (v (v ?_))))))))
 exact vr fun hk => Ret.of1 (.inl rfl) (rsT _ _ (.fn (.func 144) [.ptr k1 0, .ptr k2 0]) rfl) (Sub.refl _) (ALe.refl _ _) ⟨k1, k2, hk, rfl, rfl⟩
theorem bd120 : bodied Try.prog 120 = true := by kernel_rfl
theorem bd144 : bodied Try.prog 144 = true := by kernel_rfl
def m86 (p1 : Int) : Int := if (decide (p1 < 1) || decide (64 < p1)) = true then 64 else p1
theorem m86_pos (p1 : Int) : decide (m86 p1 < 1) = false := by
 unfold m86
 split
 rfl
 rename_i h
 simp only [Bool.or_eq_true, decide_eq_true_eq, not_or] at h
 simp only [decide_eq_false_iff_not]
 omega
def s86 (fuel : Nat) (s : List (List TItem)) (row : List TItem) : Option (List (List TItem)) := (M121 fuel row).bind fun r => app s [r]
def M86 (fuel : Nat) (p0 : List TItem) (p1 : Int) : Option (List (List TItem)) := M144 fuel p0 (m86 p1) (s86 fuel) []
section
variable (p0 : List TItem) (m : Int) (k1 k2 k5 : Key)
def L86 (tg : Option Key) (s : List (List TItem)) : HL :=
 [(tg, .tok 70 1 (s.length * 1)), (some k2, .obj 3 [.sc (.int .i64 m)]), (some k1, .obj 70 [.sl none 37 (List.map c_Item p0)]), (some k5, .obj 125 [ow tg 1 (List.map c_s_Item s)])]
def H86 (h : Heap) (s : List (List TItem)) (hh : Heap) : Prop := ∃ tg, (tg = none → s = []) ∧ HOk h (L86 p0 m k1 k2 k5 tg s) ∧ hh = hp h (L86 p0 m k1 k2 k5 tg s)
end
set_option maxHeartbeats 4000000 in
set_option maxRecDepth 100000 in
theorem W86 {fuel : Nat} {p0 : List TItem} {p1 : Int} {o : List (List TItem)} (h : Heap) (hm : M86 fuel p0 p1 = some o) :
 ACalls Try.prog 86 [.sl none 37 (List.map c_Item p0), .sc (.int .i64 p1)] h (fun r h' => r = .sl none 1 (List.map c_s_Item o) ∧ h' = h) := by
 unfold M86 at hm
 refine ACm 23 [.tmp 4] Try.func86 rfl rfl rfl rfl ?_
 refine AWm_v (h := h) (L := []) trivial ?_
 refine v ?_
 intro _
 obtain ⟨m, em⟩ : ∃ m, m = m86 p1 := ⟨_, rfl⟩
 have hpos := m86_pos p1
 rw [← em] at hm hpos
 refine AWm_to (h := h) (.c 0 (.sl none 37 (List.map c_Item p0)) (.c 1 (.sc (.int .i64 m)) .nil)) ?_ ?_
 refine vs ?_
 rcases Bool.eq_false_or_eq_true (decide (p1 < 1)) with c1 | c1
 refine v (vt c1 ?_)
 rw [c1]
 refine v (v ?_)
 have e64 : m = 64 := by rw [em]; simp [m86, c1]
 subst e64
 exact ⟨rfl, lx (.k2 .nil)⟩
 rcases Bool.eq_false_or_eq_true (decide (64 < p1)) with c2 | c2
 refine v (vf c1 ?_)
 rw [c1]
 refine v (vt c2 (v ?_))
 have e64 : m = 64 := by rw [em]; simp [m86, c1, c2]
 subst e64
 exact ⟨rfl, lx (.k2 .nil)⟩
 refine v (vf c1 ?_)
 rw [c1]
 refine v (vf c2 (v ?_))
 have e64 : m = p1 := by rw [em]; simp [m86, c1, c2]
 subst e64
 exact ⟨rfl, lx (.k2 .nil)⟩
 refine AWm_v (h := h) (L := []) trivial ?_
 refine v ?_
 refine ve fun hk => a_alloc [.sc (.slice none 0 0)] hk zr125 rfl rfl fun k5 hk5 => qk hk5 rfl ?_
 intro hk5
 refine AWm_post ?_
 refine AWm_v (h := h) hk5 ?_
 refine v ?_
 refine ve fun hk => a_call (W120 _ hpos) rfl bd120 rfl ?_
 rintro x h' ⟨k1, k2, hk1, rfl, rfl⟩
 refine qk (HOk_app hk hk1) (hp_app h _ _) ?_
 intro hk
 have le0 := leo (n := 23) (f := .c 15 (.fn (.func 144) [.ptr k1 0, .ptr k2 0]) (.c 14 (.sc (.int .i64 m)) (.c 13 (.sl none 37 (List.map c_Item p0)) (.c 5 (.ptr k5 0) (.c 0 (.sl none 37 (List.map c_Item p0)) (.c 1 (.sc (.int .i64 m)) .nil)))))) (.tok 70 1 (([] : List (List TItem)).length * 1)) 3 [ow none 1 (List.map c_s_Item [])] rfl (.cons (ow_nil _ _) .nil) hk
 obtain ⟨hkL, le0⟩ := le0
 refine le0.awm ?_
 refine AWm_block (AWm_range (by rw [ev_fm]; rfl) bd144 (fun l D rec r1 r2 r3 r4 r5 E w us hi r hv => W144 (Hs := H86 p0 m k1 k2 k5 h) (st := s86 fuel) r3 ?_ ?_ ?_ hm ⟨none, fun _ => rfl, hkL, rfl⟩ hi r hv) ?_)
 rintro s hh ⟨tg, ot, hk, rfl⟩
 exact Zd 2 hk rfl
 rintro s hh ⟨tg, ot, hk, rfl⟩
 exact Zd 1 hk rfl
 rintro s row s' hh hst ⟨tg, ot, hk, rfl⟩
 unfold s86 at hst
 obtain ⟨row', hr1, hst⟩ := Zc hst
 have e6 : ∀ (f : FR) (x : AV), (fm 23 f.k).set 16 x = fm 23 (f.put (some 16) x).k := fun f x => by
   show fput (fm 23 f.k) (some 16) x = _
   rw [fput_fm, FR.put_k]
 refine Rnd.of r1 r2 (fr1 := fm 23 (FR.put (FR.put (.c 15 (.fn (.func 144) [.ptr k1 0, .ptr k2 0]) (.c 14 (.sc (.int .i64 m)) (.c 13 (.sl none 37 (List.map c_Item p0)) (.c 5 (.ptr k5 0) (.c 0 (.sl none 37 (List.map c_Item p0)) (.c 1 (.sc (.int .i64 m)) .nil)))))) (some 16) (.sl none 37 (List.map c_Item row))) (some 6) (.sl none 37 (List.map c_Item row))).k) ?_ ?_
 rw [r4, e6]
 refine AWn_reg rfl ?_
 rw [FR.put_k]
 refine s_v (o_as (.sl none 37 (List.map c_Item row)) rfl) ?_
 refine Zb ⟨rfl, ?_⟩
 rw [FR.put_k]
 exact LeF.rfl'
 rw [r5]
 refine AWn_block (AWn_zreg [(5, some k5, .obj 125 [ow tg 1 (List.map c_s_Item s)])] rfl mixed ⟨fun _ => hp_at 3 hk rfl, trivial⟩ ?_)
 refine z_w 0 rfl (fun S' h' hi hB => Zg (ow tg 1 (List.map c_s_Item s)) ld125 rfl (At.s (InvL.get 0 hi rfl (hB 5 (by kernel_rfl)))) rfl) ?_
 refine z_w 1 rfl (fun S' h' hi hB => o_mv (.sl none 37 (List.map c_Item row)) rfl) ?_
 refine z_e 2 rfl (by kernel_rfl) (a_call (W121 _ hr1) rfl bd121 rfl ?_)
 rintro x h' ⟨t, ot', hk', rfl, rfl⟩
 refine ⟨⟨fun _ => ?_, trivial⟩, ?_⟩
 rw [hp_app]
 exact hp_at 4 (HOk_app hk hk') rfl
 refine z_e 3 rfl (by kernel_rfl) (AOp_kfz (t := 19) (.sl none 37 (List.map c_Item row')) (hp_nil hk') (own_frz0 37 0 ot' hk' rfl) (a_v (o_lit (List.map c_s_Item [row']) et125 rfl rfl rfl rfl) ⟨⟨fun _ => hp_at 3 hk rfl, trivial⟩, ?_⟩))
 refine z_e 4 rfl (by kernel_rfl) (a_app (c := c_s_Item) 0 hst et125 rfl rfl rfl ot hk rfl fun tg' ot' hk' => ⟨⟨fun _ => hp_at 3 hk' rfl, trivial⟩, ?_⟩)
 refine z_e 5 rfl (by kernel_rfl) (a_store 3 ([ow tg' 1 (List.map c_s_Item s')]) hk' rfl rfl (cellsOf_ow rfl) (all_ow _ _ _) sz125 rfl rfl fun hk'' => ⟨⟨fun e => absurd e (by decide), trivial⟩, ?_⟩)
 exact z_nil (by kernel_rfl) ⟨rfl, _, _, ⟨tg', ot', hk'', rfl⟩, LeF.rfl'⟩
 rintro hh ⟨tg, ot, hk, rfl⟩
 refine ⟨rfl, rfl, ?_⟩
 refine AWd_seq (AWd_list ?_)
 refine AOd_plain rfl rfl (a_v (Zg (ow tg 1 (List.map c_s_Item o)) ld125 rfl (Zd 3 hk rfl) rfl) ?_)
 rw [fput_fm]
 refine AOd_plain rfl rfl (a_v (o_as (ow tg 1 (List.map c_s_Item o)) rfl) ?_)
 rw [fput_fm]
 refine AOd_nil ?_
 refine AWd_ret ?_
 exact Ret.of1 (.inl rfl) (rsT _ _ (ow tg 1 (List.map c_s_Item o)) rfl) (hp_sub (List.nil_sublist _) hk).1 (own_frz0 1 0 ot hk rfl) ⟨rfl, rfl⟩
theorem bd86 : bodied Try.prog 86 = true := by kernel_rfl
def M39 (fuel : Nat) : Option (Bool) :=
 (M86 fuel ([({ Kind := 0, Id := idZ, Seq := 1, Of := 0, Off := 0, Len := 0 } : TItem), ({ Kind := 0, Id := idZ, Seq := 2, Of := 0, Off := 0, Len := 0 } : TItem), ({ Kind := 0, Id := idZ, Seq := 3, Of := 0, Off := 0, Len := 0 } : TItem)] : List TItem) 2).bind fun y3 => after (if ((y3.length : Int) == 2) = true then ((ix y3 0).bind fun x0 => if ((x0.length : Int) == 2) = true then ((ix y3 1).bind fun x1 => if ((x1.length : Int) == 1) = true then ((ix y3 1).bind fun x2 => (ix x2 0).bind fun x3 => some (.brk (x3.Seq == 3))) else some (.brk false)) else some (.brk false)) else some (.brk false) : Option (Lp (Bool) (Bool))) fun j0 => some j0
set_option maxHeartbeats 4000000 in
set_option maxRecDepth 100000 in
theorem W39 {fuel : Nat} {o : Bool} (h : Heap) (hm : M39 fuel = some o) :
 ACalls Try.prog 39 [] h (fun r h' => r = .sc (.bool o) ∧ h' = h) := by
 refine ACv 33 [.tmp 0] Try.func39 rfl rfl rfl rfl ?_
 unfold M39 at hm
 refine v (v (vn (fun _ => o_bld (c_Item ({ Kind := 0, Id := idZ, Seq := 1, Of := 0, Off := 0, Len := 0 } : TItem)) bt99 rfl) (vn (fun _ => o_bld (c_Item ({ Kind := 0, Id := idZ, Seq := 2, Of := 0, Off := 0, Len := 0 } : TItem)) bt99 rfl) (vn (fun _ => o_bld (c_Item ({ Kind := 0, Id := idZ, Seq := 3, Of := 0, Off := 0, Len := 0 } : TItem)) bt99 rfl) (vn (fun _ => o_lit (List.map c_Item ([({ Kind := 0, Id := idZ, Seq := 1, Of := 0, Off := 0, Len := 0 } : TItem), ({ Kind := 0, Id := idZ, Seq := 2, Of := 0, Off := 0, Len := 0 } : TItem), ({ Kind := 0, Id := idZ, Seq := 3, Of := 0, Off := 0, Len := 0 } : TItem)] : List TItem)) et70 rfl rfl rfl rfl) ?_)))))
 refine vk W86 bd86 hm rfl rfl fun _ hm => ?_
 refine vs ?_
 refine vjnH hm (σ := Bool) (τ := Unit) (fun g s => []) (fun g s => .c 0 (.sc (.bool s)) .nil) (fun x hm => ?_) ?_
 refine v (vln ln125 rfl ?_)
 refine vi hm (fun hb0 hm => ?_) fun hb0 hm => ?_
 rw [hb0]
 refine vx hm el125 rfl rfl fun _ _ hm => ?_
 refine vln ln70 rfl ?_
 refine vi hm (fun hb1 hm => ?_) fun hb1 hm => ?_
 rw [hb1]
 refine vx hm el125 rfl rfl fun _ _ hm => ?_
 refine vln ln70 rfl ?_
 refine vi hm (fun hb2 hm => ?_) fun hb2 hm => ?_
 rw [hb2]
 refine vx hm el125 rfl rfl fun _ _ hm => ?_
 refine vx hm el70 rfl rfl fun _ _ hm => ?_
 exact vgo hm () trivial (lx (.cons (ALe.refl _ _) .nil))
 rw [hb2]
 exact vgo hm () trivial (lx (.cons (ALe.refl _ _) .nil))
 rw [hb1]
 exact vgo hm () trivial (lx (.cons (ALe.refl _ _) .nil))
 rw [hb0]
 exact vgo hm () trivial (lx (.cons (ALe.refl _ _) .nil))
 rintro _ j0 hm
 refine v ?_
 injection hm with hm; subst hm
 exact vr1 rfl
theorem bd39 : bodied Try.prog 39 = true := by kernel_rfl
open Go.Vm
def M36 (fuel : Nat) (p0 : TCatalog) (p1 : Int) : Option ((List TItem)) :=
 after (if (decide (p1 < 0)) = true then (some (.brk true)) else if (decide (1 < p1)) = true then (some (.brk true)) else (M33 fuel p0).bind fun y0 => some (.brk (y0 != 0)) : Option (Lp (Bool) ((List TItem)))) fun j0 => if j0 = true then (some []) else (M78 fuel p0 (fun x0 x1 => M79 fuel x0 x1 p0 p1)).bind fun y1 => some y1
set_option maxHeartbeats 4000000 in
set_option maxRecDepth 100000 in
theorem W36 {fuel : Nat} {p0 : TCatalog} {p1 : Int} {o : (List TItem)} (h : Heap) (hm : M36 fuel p0 p1 = some o) :
 ACalls Try.prog 36 [.agg (c_Catalog p0), .sc (.int .i64 p1)] h (fun r h' => r = .sl none 37 (List.map c_Item o) ∧ h' = h) := by
 refine ACv 19 [.tmp 4] Try.func36 rfl rfl rfl rfl ?_
 unfold M36 at hm
 refine v ?_
 refine ve fun hk => a_box hk rfl rfl fun k2 hk3 => qk hk3 rfl ?_
 refine ve fun hk => a_box hk rfl rfl fun k5 hk6 => qk hk6 rfl ?_
 refine vs (vs ?_)
 refine vjnH hm (σ := Bool) (τ := Unit) (fun g s => [(some k5, .obj 3 (c_i64 p1)), (some k2, .obj 27 (c_Catalog p0))]) (fun g s => .c 2 (.ptr k2 0) (.c 3 (.ptr k5 0) (.c 15 (.sc (.bool s)) .nil))) (fun x hm => ?_) ?_
 refine v (vl 0 _ ld3 rfl rfl rfl ?_)
 refine vi hm (fun hb0 hm => ?_) fun hb0 hm => ?_
 rw [hb0]
 exact vgo hm () trivial (lx (.k3 .nil))
 rw [hb0]
 refine vl 0 _ ld3 rfl rfl rfl ?_
 refine vi hm (fun hb1 hm => ?_) fun hb1 hm => ?_
 rw [hb1]
 exact vgo hm () trivial (lx (.k3 .nil))
 rw [hb1]
 refine vl 1 (.agg (c_Catalog p0)) ld27 rfl rfl rfl ?_
 refine vk W33 bd33 hm rfl rfl fun _ hm => ?_
 exact vgo hm () trivial (lx (.k3 .nil))
 rintro _ j0 hm
 refine v ?_
 refine vi hm (fun hc0 hm => ?_) fun hc0 hm => ?_
 refine v (v ?_)
 cases hm
 exact vr fun hk => Ret.of1 (.inl rfl) (rsT _ _ (.sc (.slice _ _ _)) rfl) (hp_sub (List.nil_sublist _) hk).1 (nil_lem _) ⟨rfl, rfl⟩
 refine v (v (vl 1 (.agg (c_Catalog p0)) ld27 rfl rfl rfl ?_))
 obtain ⟨_, hy0, hm⟩ := Zc hm
 refine vn (fun hk => o_call (W78 _ bd79 (fun _ _ o h0 hs ho => W79 _ (hs _ _ (Zd 1 hk rfl)) (hs _ _ (Zd 0 hk rfl)) ho) hy0) rfl bd78 rfl) (v ?_)
 injection hm with hm; subst hm
 exact vr1 rfl
theorem bd36 : bodied Try.prog 36 = true := by kernel_rfl
def M122_L0 (fuel : Nat) (p0 : TCatalog) (p1 : List TLoc) (p2 : Int) (q0 : Int) : Option (Lp (Int) (Bool)) :=
 if (decide (q0 < (p1.length : Int))) = true then (after ((ix p1 q0).bind fun x0 => if (decide (0 ≤ x0.Vol)) = true then ((ix p1 q0).bind fun x1 => if (decide (x1.Vol < (p0.Vols.length : Int))) = true then ((ix p1 q0).bind fun x2 => (ix p0.Vols x2.Vol).bind fun x3 => some (.brk (x3.Pool == p2))) else some (.brk false)) else some (.brk false) : Option (Lp (Bool) (Lp (Int) (Bool)))) fun j0 => if j0 = true then (some (.ret true)) else some (.go (IntKind.wrap .i64 (q0 + 1)))) else some (.brk q0)
def M122 (fuel : Nat) (p0 : TCatalog) (p1 : List TLoc) (p2 : Int) : Option (Bool) :=
 after (loopM (fun s => M122_L0 fuel p0 p1 p2 s) fuel 0) fun r0 => some false
set_option maxHeartbeats 4000000 in
set_option maxRecDepth 100000 in
theorem W122 {fuel : Nat} {p0 : TCatalog} {p1 : List TLoc} {p2 : Int} {o : Bool} (h : Heap) (hm : M122 fuel p0 p1 p2 = some o) :
 ACalls Try.prog 122 [.agg (c_Catalog p0), .sl none 4 (List.map c_Loc p1), .sc (.int .i64 p2)] h (fun r h' => r = .sc (.bool o) ∧ h' = h) := by
 refine ACv 45 [.tmp 6] Try.func122 rfl rfl rfl rfl ?_
 unfold M122 at hm
 refine v ?_
 refine ve fun hk => a_box hk rfl rfl fun k2 hk3 => qk hk3 rfl ?_
 refine v ?_
 refine vlpH hm (σ := Int) (τ := Unit) (fun g s => [(some k2, .obj 27 (c_Catalog p0))]) (fun g s => .c 1 (.sl none 4 (List.map c_Loc p1)) (.c 2 (.sc (.int .i64 p2)) (.c 3 (.ptr k2 0) (.c 7 (.sc (.int .i64 s)) .nil)))) () (lx (.k4 .nil)) ?_ ?_
 rintro _ q0 x hm
 replace hm : M122_L0 fuel p0 p1 p2 q0 = some x := hm
 unfold M122_L0 at hm
 refine v (vln ln58 rfl (v ?_))
 refine vi hm (fun hc0 hm => ?_) fun hc0 hm => ?_
 refine v (v (vs ?_))
 refine vjnH hm (σ := Bool) (τ := Unit) (fun g s => [(some k2, .obj 27 (c_Catalog p0))]) (fun g s => .c 1 (.sl none 4 (List.map c_Loc p1)) (.c 2 (.sc (.int .i64 p2)) (.c 3 (.ptr k2 0) (.c 7 (.sc (.int .i64 q0)) (.c 44 (.sc (.bool s)) .nil))))) (fun x hm => ?_) ?_
 refine v (vq (by kernel_rfl) ?_)
 refine vx hm el58 rfl rfl fun _ _ hm => ?_
 refine vi hm (fun hb0 hm => ?_) fun hb0 hm => ?_
 rw [hb0]
 refine vx hm el58 rfl rfl fun _ _ hm => ?_
 refine vl 0 _ ld25 rfl rfl rfl (vln ln25 rfl ?_)
 refine vi hm (fun hb1 hm => ?_) fun hb1 hm => ?_
 rw [hb1]
 refine vl 0 _ ld25 rfl rfl rfl ?_
 refine vx hm el58 rfl rfl fun _ _ hm => ?_
 refine vx hm el25 rfl rfl fun _ _ hm => ?_
 exact vgo hm () trivial (lx (.k5 .nil))
 rw [hb1]
 exact vgo hm () trivial (lx (.k5 .nil))
 rw [hb0]
 exact vgo hm () trivial (lx (.k5 .nil))
 rintro _ j0 hm
 refine v ?_
 refine vi hm (fun hc1 hm => ?_) fun hc1 hm => ?_
 refine v (v ?_)
 refine vrt hm fun hm => ?_
 injection hm with hm; subst hm
 exact vr1 rfl
 refine v (v ?_)
 exact vgo hm () trivial (lx (.k4 .nil))
 refine v ?_
 exact vbk hm () trivial (lx (.k4 .nil))
 rintro _ r0 hm
 refine v (v ?_)
 injection hm with hm; subst hm
 exact vr1 rfl
theorem bd122 : bodied Try.prog 122 = true := by kernel_rfl
def M87 (fuel : Nat) (p0 : TCatalog) (p1 : List TLoc) (p2 : Int) : Option (Bool) :=
 after ((M122 fuel p0 p1 p2).bind fun y0 => if (!y0) = true then (if (p2 == 0) = true then (some (.brk true)) else (M122 fuel p0 p1 0).bind fun y1 => some (.brk y1)) else some (.brk false) : Option (Lp (Bool) (Bool))) fun j0 => some j0
set_option maxHeartbeats 4000000 in
set_option maxRecDepth 100000 in
theorem W87 {fuel : Nat} {p0 : TCatalog} {p1 : List TLoc} {p2 : Int} {o : Bool} (h : Heap) (hm : M87 fuel p0 p1 p2 = some o) :
 ACalls Try.prog 87 [.agg (c_Catalog p0), .sl none 4 (List.map c_Loc p1), .sc (.int .i64 p2)] h (fun r h' => r = .sc (.bool o) ∧ h' = h) := by
 refine ACv 21 [.tmp 6] Try.func87 rfl rfl rfl rfl ?_
 unfold M87 at hm
 refine v ?_
 refine ve fun hk => a_box hk rfl rfl fun k2 hk3 => qk hk3 rfl ?_
 refine vs ?_
 refine vjnH hm (σ := Bool) (τ := Unit) (fun g s => [(some k2, .obj 27 (c_Catalog p0))]) (fun g s => .c 6 (.sc (.bool s)) .nil) (fun x hm => ?_) ?_
 refine v (vl 0 (.agg (c_Catalog p0)) ld27 rfl rfl rfl ?_)
 refine vk W122 bd122 hm rfl rfl fun _ hm => ?_
 refine vi hm (fun hb0 hm => ?_) fun hb0 hm => ?_
 rw [hb0]
 refine vi hm (fun hb1 hm => ?_) fun hb1 hm => ?_
 rw [hb1]
 exact vgo hm () trivial (lx (.cons (ALe.refl _ _) .nil))
 rw [hb1]
 refine vl 0 (.agg (c_Catalog p0)) ld27 rfl rfl rfl ?_
 refine vk W122 bd122 hm rfl rfl fun _ hm => ?_
 exact vgo hm () trivial (lx (.cons (ALe.refl _ _) .nil))
 rw [hb0]
 exact vgo hm () trivial (lx (.cons (ALe.refl _ _) .nil))
 rintro _ j0 hm
 refine v ?_
 injection hm with hm; subst hm
 exact vr1 rfl
theorem bd87 : bodied Try.prog 87 = true := by kernel_rfl
def M41_L0 (fuel : Nat) (p0 : TCatalog) (p1 : Int) (q0 : List TItem) (q1 : Int) : Option (Lp ((List TItem) × Int) ((List TItem))) :=
 if (decide (q1 < (p0.Chunks.length : Int))) = true then (after ((ix p0.Chunks q1).bind fun x0 => (M65 fuel p0 x0.Id).bind fun y0 => if y0 = true then ((ix p0.Chunks q1).bind fun x1 => (M87 fuel p0 x1.Locs p1).bind fun y1 => some (.brk y1)) else some (.brk false) : Option (Lp (Bool) (Lp ((List TItem) × Int) ((List TItem))))) fun j0 => after (if j0 = true then ((ix p0.Chunks q1).bind fun x2 => (app q0 ([({ Kind := 1, Id := x2.Id, Seq := 0, Of := 0, Off := 0, Len := 0 } : TItem)] : List TItem)).bind fun z0 => some (.brk z0)) else some (.brk q0) : Option (Lp ((List TItem)) (Lp ((List TItem) × Int) ((List TItem))))) fun j1 => some (.go (j1, IntKind.wrap .i64 (q1 + 1)))) else some (.brk (q0, q1))
def M41_L2 (fuel : Nat) (p0 : TCatalog) (p1 : Int) (q0 : List TItem) (q1 : Int) : Option (Lp ((List TItem) × Int) ((List TItem))) :=
 if (decide (q1 < (p0.Snaps.length : Int))) = true then ((ix p0.Snaps q1).bind fun x0 => (M87 fuel p0 x0.Locs p1).bind fun y0 => after (if y0 = true then ((ix p0.Snaps q1).bind fun x1 => (app q0 ([({ Kind := 2, Id := idZ, Seq := x1.Seq, Of := 0, Off := 0, Len := 0 } : TItem)] : List TItem)).bind fun z0 => some (.brk z0)) else some (.brk q0) : Option (Lp ((List TItem)) (Lp ((List TItem) × Int) ((List TItem))))) fun j0 => some (.go (j0, IntKind.wrap .i64 (q1 + 1)))) else some (.brk (q0, q1))
def M41_L4 (fuel : Nat) (p0 : TCatalog) (p1 : Int) (q0 : List TItem) (q1 : Int) : Option (Lp ((List TItem) × Int) ((List TItem))) :=
 if (decide (q1 < (p0.Exps.length : Int))) = true then ((ix p0.Exps q1).bind fun x0 => (M87 fuel p0 x0.Locs p1).bind fun y0 => after (if y0 = true then ((ix p0.Exps q1).bind fun x1 => (ix p0.Exps q1).bind fun x2 => (app q0 ([({ Kind := 3, Id := idZ, Seq := x1.Seq, Of := x2.Of, Off := 0, Len := 0 } : TItem)] : List TItem)).bind fun z0 => some (.brk z0)) else some (.brk q0) : Option (Lp ((List TItem)) (Lp ((List TItem) × Int) ((List TItem))))) fun j0 => some (.go (j0, IntKind.wrap .i64 (q1 + 1)))) else some (.brk (q0, q1))
def M41 (fuel : Nat) (p0 : TCatalog) (p1 : Int) : Option ((List TItem)) :=
 after (if (p1 != 0) = true then (some (.brk (p1 != 1))) else some (.brk false) : Option (Lp (Bool) ((List TItem)))) fun j9 => if j9 = true then (some []) else after (loopM (fun s => M41_L0 fuel p0 p1 s.1 s.2) fuel ([], 0)) fun ⟨r0, r1⟩ => after (loopM (fun s => M41_L2 fuel p0 p1 s.1 s.2) fuel (r0, 0)) fun ⟨r2, r3⟩ => after (loopM (fun s => M41_L4 fuel p0 p1 s.1 s.2) fuel (r2, 0)) fun ⟨r4, r5⟩ => some r4
set_option maxHeartbeats 4000000 in
set_option maxRecDepth 100000 in
theorem W41 {fuel : Nat} {p0 : TCatalog} {p1 : Int} {o : (List TItem)} (h : Heap) (hm : M41 fuel p0 p1 = some o) :
 ACalls Try.prog 41 [.agg (c_Catalog p0), .sc (.int .i64 p1)] h (fun r h' => r = .sl none 37 (List.map c_Item o) ∧ h' = h) := by
 refine ACv 110 [.tmp 4] Try.func41 rfl rfl rfl rfl ?_
 unfold M41 at hm
 refine v ?_
 refine ve fun hk => a_box hk rfl rfl fun k2 hk3 => qk hk3 rfl ?_
 refine v (vs (vs ?_))
 refine vjnH hm (σ := Bool) (τ := Unit) (fun g s => [(some k2, .obj 27 (c_Catalog p0))]) (fun g s => .c 1 (.sc (.int .i64 p1)) (.c 2 (.ptr k2 0) (.c 5 (.sc (.slice none 0 0)) (.c 14 (.sc (.bool s)) .nil)))) (fun x hm => ?_) ?_
 refine v ?_
 refine vi hm (fun hb0 hm => ?_) fun hb0 hm => ?_
 rw [hb0]
 exact vgo hm () trivial (lx (.k4 .nil))
 rw [hb0]
 exact vgo hm () trivial (lx (.k4 .nil))
 rintro _ j9 hm
 refine v ?_
 refine vi hm (fun hc0 hm => ?_) fun hc0 hm => ?_
 refine v (v ?_)
 cases hm
 exact vr fun hk => Ret.of1 (.inl rfl) (rsT _ _ (.sc (.slice _ _ _)) rfl) (hp_sub (List.nil_sublist _) hk).1 (nil_lem _) ⟨rfl, rfl⟩
 refine v (v (vle (lno (.tok 99 37 (([] : List TItem).length * 37)) 5 (ow none 37 (List.map c_Item [])) (ow_nil _ _)) ?_))
 refine vlp hm (σ := (List TItem) × Int) (τ := Option Key) (fun g s => [(g, .tok 99 37 ((s.1 : List TItem).length * 37)), (some k2, .obj 27 (c_Catalog p0))]) (fun g s => (g = none → s.1 = [])) (fun g s => .c 1 (.sc (.int .i64 p1)) (.c 2 (.ptr k2 0) (.c 5 (ow g 37 (List.map c_Item s.1)) (.c 6 (.sc (.int .i64 s.2)) .nil)))) none (fun _ => rfl) (lx (.k4 .nil)) ?_ ?_
 rintro tg0 ⟨q0, q1⟩ x ot0 hm
 replace hm : M41_L0 fuel p0 p1 q0 q1 = some x := hm
 unfold M41_L0 at hm
 refine v (vl 1 _ ld23 rfl rfl rfl (vln ln23 rfl (v ?_)))
 refine vi hm (fun hc1 hm => ?_) fun hc1 hm => ?_
 refine v (v (vs ?_))
 refine vjnH hm (σ := Bool) (τ := Unit) (fun g s => [(tg0, .tok 99 37 ((q0 : List TItem).length * 37)), (some k2, .obj 27 (c_Catalog p0))]) (fun g s => .c 1 (.sc (.int .i64 p1)) (.c 2 (.ptr k2 0) (.c 5 (ow tg0 37 (List.map c_Item q0)) (.c 6 (.sc (.int .i64 q1)) (.c 40 (.sc (.bool s)) .nil))))) (fun x hm => ?_) ?_
 refine v (vq (by kernel_rfl) (vl 1 (.agg (c_Catalog p0)) ld27 rfl rfl rfl (vl 1 _ ld23 rfl rfl rfl ?_)))
 refine vx hm el23 rfl rfl fun x0 _ hm => ?_
 refine va (.agg (c_id x0.Id)) ld61 rfl rfl ?_
 refine vk W65 bd65 hm rfl rfl fun _ hm => ?_
 refine vi hm (fun hb1 hm => ?_) fun hb1 hm => ?_
 rw [hb1]
 refine vl 1 (.agg (c_Catalog p0)) ld27 rfl rfl rfl (vl 1 _ ld23 rfl rfl rfl ?_)
 refine vx hm el23 rfl rfl fun _ _ hm => ?_
 refine vk W87 bd87 hm rfl rfl fun _ hm => ?_
 exact vgo hm () trivial (lx (.k5 .nil))
 rw [hb1]
 exact vgo hm () trivial (lx (.k5 .nil))
 rintro _ j0 hm
 refine vjn hm (σ := (List TItem)) (τ := Option Key) (fun g s => [(g, .tok 99 37 ((s : List TItem).length * 37)), (some k2, .obj 27 (c_Catalog p0))]) (fun g s => (g = none → s = [])) (fun g s => .c 1 (.sc (.int .i64 p1)) (.c 2 (.ptr k2 0) (.c 5 (ow g 37 (List.map c_Item s)) (.c 6 (.sc (.int .i64 q1)) .nil)))) (fun x hm => ?_) ?_
 refine v ?_
 refine vi hm (fun hc2 hm => ?_) fun hc2 hm => ?_
 refine v (vl 1 _ ld23 rfl rfl rfl ?_)
 refine vx hm el23 rfl rfl fun x1 _ hm => ?_
 refine va (.agg (c_id x1.Id)) ld61 rfl rfl (vn (fun _ => o_bld (c_Item ({ Kind := 1, Id := x1.Id, Seq := 0, Of := 0, Off := 0, Len := 0 } : TItem)) bt99 rfl) (vn (fun _ => o_lit (List.map c_Item ([({ Kind := 1, Id := x1.Id, Seq := 0, Of := 0, Off := 0, Len := 0 } : TItem)] : List TItem)) et70 rfl rfl rfl rfl) ?_))
 obtain ⟨z0, hz0, hm⟩ := Zc hm
 refine ve fun hk => a_app (c := c_Item) 0 hz0 et70 rfl rfl rfl ot0 hk rfl fun tg1 ot1 hk0 => qk hk0 rfl ?_
 exact vgo hm tg1 ot1 (lx (.k4 .nil))
 refine v ?_
 exact vgo hm tg0 ot0 (lx (.k4 .nil))
 rintro tg2 j1 ot2 hm
 refine v ?_
 exact vgo hm tg2 ot2 (lx (.k4 .nil))
 refine v ?_
 exact vbk hm tg0 ot0 (lx (.k4 .nil))
 rintro tg3 ⟨r0, r1⟩ ot3 hm
 refine v ?_
 refine vlp hm (σ := (List TItem) × Int) (τ := Option Key) (fun g s => [(g, .tok 99 37 ((s.1 : List TItem).length * 37)), (some k2, .obj 27 (c_Catalog p0))]) (fun g s => (g = none → s.1 = [])) (fun g s => .c 1 (.sc (.int .i64 p1)) (.c 2 (.ptr k2 0) (.c 5 (ow g 37 (List.map c_Item s.1)) (.c 7 (.sc (.int .i64 s.2)) .nil)))) tg3 ot3 (lx (.k4 .nil)) ?_ ?_
 rintro tg4 ⟨q2, q3⟩ x ot4 hm
 replace hm : M41_L2 fuel p0 p1 q2 q3 = some x := hm
 unfold M41_L2 at hm
 refine v (vl 1 _ ld22 rfl rfl rfl (vln ln22 rfl (v ?_)))
 refine vi hm (fun hc3 hm => ?_) fun hc3 hm => ?_
 refine v (v (v (vq (by kernel_rfl) (vl 1 (.agg (c_Catalog p0)) ld27 rfl rfl rfl (vl 1 _ ld22 rfl rfl rfl ?_)))))
 refine vx hm el22 rfl rfl fun _ _ hm => ?_
 refine vk W87 bd87 hm rfl rfl fun _ hm => ?_
 refine vjn hm (σ := (List TItem)) (τ := Option Key) (fun g s => [(g, .tok 99 37 ((s : List TItem).length * 37)), (some k2, .obj 27 (c_Catalog p0))]) (fun g s => (g = none → s = [])) (fun g s => .c 1 (.sc (.int .i64 p1)) (.c 2 (.ptr k2 0) (.c 5 (ow g 37 (List.map c_Item s)) (.c 7 (.sc (.int .i64 q3)) .nil)))) (fun x hm => ?_) ?_
 refine v ?_
 refine vi hm (fun hc4 hm => ?_) fun hc4 hm => ?_
 refine v (vl 1 _ ld22 rfl rfl rfl ?_)
 refine vx hm el22 rfl rfl fun x2 _ hm => ?_
 refine vn (fun _ => o_bld (c_Item ({ Kind := 2, Id := idZ, Seq := x2.Seq, Of := 0, Off := 0, Len := 0 } : TItem)) bt99 rfl) (vn (fun _ => o_lit (List.map c_Item ([({ Kind := 2, Id := idZ, Seq := x2.Seq, Of := 0, Off := 0, Len := 0 } : TItem)] : List TItem)) et70 rfl rfl rfl rfl) ?_)
 obtain ⟨z1, hz1, hm⟩ := Zc hm
 refine ve fun hk => a_app (c := c_Item) 0 hz1 et70 rfl rfl rfl ot4 hk rfl fun tg5 ot5 hk1 => qk hk1 rfl ?_
 exact vgo hm tg5 ot5 (lx (.k4 .nil))
 refine v ?_
 exact vgo hm tg4 ot4 (lx (.k4 .nil))
 rintro tg6 j2 ot6 hm
 refine v ?_
 exact vgo hm tg6 ot6 (lx (.k4 .nil))
 refine v ?_
 exact vbk hm tg4 ot4 (lx (.k4 .nil))
 rintro tg7 ⟨r2, r3⟩ ot7 hm
 refine v ?_
 refine vlp hm (σ := (List TItem) × Int) (τ := Option Key) (fun g s => [(g, .tok 99 37 ((s.1 : List TItem).length * 37)), (some k2, .obj 27 (c_Catalog p0))]) (fun g s => (g = none → s.1 = [])) (fun g s => .c 1 (.sc (.int .i64 p1)) (.c 2 (.ptr k2 0) (.c 5 (ow g 37 (List.map c_Item s.1)) (.c 8 (.sc (.int .i64 s.2)) .nil)))) tg7 ot7 (lx (.k4 .nil)) ?_ ?_
 rintro tg8 ⟨q4, q5⟩ x ot8 hm
 replace hm : M41_L4 fuel p0 p1 q4 q5 = some x := hm
 unfold M41_L4 at hm
 refine v (vl 1 _ ld24 rfl rfl rfl (vln ln24 rfl (v ?_)))
 refine vi hm (fun hc5 hm => ?_) fun hc5 hm => ?_
 refine v (v (v (vq (by kernel_rfl) (vl 1 (.agg (c_Catalog p0)) ld27 rfl rfl rfl (vl 1 _ ld24 rfl rfl rfl ?_)))))
 refine vx hm el24 rfl rfl fun _ _ hm => ?_
 refine vk W87 bd87 hm rfl rfl fun _ hm => ?_
 refine vjn hm (σ := (List TItem)) (τ := Option Key) (fun g s => [(g, .tok 99 37 ((s : List TItem).length * 37)), (some k2, .obj 27 (c_Catalog p0))]) (fun g s => (g = none → s = [])) (fun g s => .c 1 (.sc (.int .i64 p1)) (.c 2 (.ptr k2 0) (.c 5 (ow g 37 (List.map c_Item s)) (.c 8 (.sc (.int .i64 q5)) .nil)))) (fun x hm => ?_) ?_
 refine v ?_
 refine vi hm (fun hc6 hm => ?_) fun hc6 hm => ?_
 refine v ?_
 refine vz [(1000000, some k2, .obj 27 (c_Catalog p0))] mixed (fun hk => ⟨fun _ => hp_at 1 hk rfl, trivial⟩) fun hk => ?_
 refine z_w 0 rfl (fun S' h' hi hB => o_mv (ow _ _ _) rfl) ?_
 refine z_w 1 rfl (fun S' h' hi hB => Zh fd27_3 rfl rfl) ?_
 refine z_w 2 rfl (fun S' h' hi hB => Zg (.sl none 3 (List.map c_Exp p0.Exps)) ld24 rfl (At.s (InvL.get 0 hi rfl (hB 1000000 (by kernel_rfl)))) rfl) ?_
 refine z_w 3 rfl (fun S' h' hi hB => o_mv (.sc (.int _ _)) rfl) ?_
 obtain ⟨x3, hx0, hm⟩ := Zc hm
 refine z_w 4 rfl (fun S' h' hi hB => o_ix hx0 el24 rfl rfl) ?_
 refine z_w 5 rfl (fun S' h' hi hB => o_fl fd65_0 rfl rfl) ?_
 refine z_w 6 rfl (fun S' h' hi hB => o_ld (.sc (.int .i64 x3.Seq)) ld3 rfl rfl) ?_
 refine z_w 7 rfl (fun S' h' hi hB => Zh fd27_3 rfl rfl) ?_
 refine z_w 8 rfl (fun S' h' hi hB => Zg (.sl none 3 (List.map c_Exp p0.Exps)) ld24 rfl (At.s (InvL.get 0 hi rfl (hB 1000000 (by kernel_rfl)))) rfl) ?_
 refine z_w 9 rfl (fun S' h' hi hB => o_mv (.sc (.int _ _)) rfl) ?_
 obtain ⟨x4, hx1, hm⟩ := Zc hm
 refine z_w 10 rfl (fun S' h' hi hB => o_ix hx1 el24 rfl rfl) ?_
 refine z_w 11 rfl (fun S' h' hi hB => o_fl fd65_1 rfl rfl) ?_
 refine z_w 12 rfl (fun S' h' hi hB => o_ld (.sc (.int .i64 x4.Of)) ld3 rfl rfl) ?_
 refine z_w 13 rfl (fun S' h' hi hB => o_bld (c_Item ({ Kind := 3, Id := idZ, Seq := x3.Seq, Of := x4.Of, Off := 0, Len := 0 } : TItem)) bt99 rfl) ?_
 refine z_w 14 rfl (fun S' h' hi hB => o_lit (List.map c_Item ([({ Kind := 3, Id := idZ, Seq := x3.Seq, Of := x4.Of, Off := 0, Len := 0 } : TItem)] : List TItem)) et70 rfl rfl rfl rfl) ?_
 obtain ⟨z2, hz2, hm⟩ := Zc hm
 refine z_e 15 rfl (by kernel_rfl) (a_app (c := c_Item) 0 hz2 et70 rfl rfl rfl ot8 hk rfl fun tg9 ot9 hk2 => ⟨⟨fun _ => hp_at 1 hk2 rfl, trivial⟩, ?_⟩)
 refine z_w 16 rfl (fun S' h' hi hB => o_as (ow _ _ _) rfl) ?_
 refine z_nil (by kernel_rfl) (qk (f := .c 5 _ (.c 108 _ (.c 107 _ (.c 106 _ (.c 105 _ (.c 104 _ (.c 103 _ (.c 102 _ (.c 101 _ (.c 100 _ (.c 99 _ (.c 98 _ (.c 97 _ (.c 96 _ (.c 95 _ (.c 94 _ (.c 93 _ _))))))))))))))))) hk2 rfl ?_)
 exact vgo hm tg9 ot9 (lx (.k4 .nil))
 refine v ?_
 exact vgo hm tg8 ot8 (lx (.k4 .nil))
 rintro tg10 j3 ot10 hm
 refine v ?_
 exact vgo hm tg10 ot10 (lx (.k4 .nil))
 refine v ?_
 exact vbk hm tg8 ot8 (lx (.k4 .nil))
 rintro tg11 ⟨r4, r5⟩ ot11 hm
 refine v (v ?_)
 injection hm with hm; subst hm
 exact vr fun hk => Ret.of1 (.inl rfl) (rsT _ _ (ow _ _ _) rfl) (hp_sub (List.nil_sublist _) hk).1 ((own_frz0 _ 0 ot11 hk rfl)) ⟨rfl, rfl⟩
theorem bd41 : bodied Try.prog 41 = true := by kernel_rfl
def M43 (fuel : Nat) (p0 : TCatalog) (p1 : Int) : Option ((List TItem)) :=
 (M88 fuel p0 p1 true).bind fun y6 => some y6
set_option maxHeartbeats 4000000 in
set_option maxRecDepth 100000 in
theorem W43 {fuel : Nat} {p0 : TCatalog} {p1 : Int} {o : (List TItem)} (h : Heap) (hm : M43 fuel p0 p1 = some o) :
 ACalls Try.prog 43 [.agg (c_Catalog p0), .sc (.int .i64 p1)] h (fun r h' => r = .sl none 37 (List.map c_Item o) ∧ h' = h) := by
 refine ACv 8 [.tmp 4] Try.func43 rfl rfl rfl rfl ?_
 unfold M43 at hm
 refine v ?_
 refine ve fun hk => a_box hk rfl rfl fun k2 hk3 => qk hk3 rfl ?_
 refine v (vl 0 (.agg (c_Catalog p0)) ld27 rfl rfl rfl ?_)
 refine vk W88 bd88 hm rfl rfl fun _ hm => ?_
 refine v ?_
 injection hm with hm; subst hm
 exact vr1 rfl
theorem bd43 : bodied Try.prog 43 = true := by kernel_rfl
open Go.Vm
def M9 (fuel : Nat) (p0 : TCatalog) (p1 : Int) (p2 : Int) : Option (Bool) :=
 (M13 fuel p0).bind fun y7 => if y7 = true then (some true) else (M14 fuel p0).bind fun y0 => (M36 fuel y0 p1).bind fun y1 => (M37 fuel y0 p2).bind fun y2 => (M38 fuel y0 p2).bind fun y3 => (M17 fuel y0 p0).bind fun y4 => if (!y4) = true then (some false) else (M19 fuel p0).bind fun y5 => if (!y5) = true then (after (if ((IntKind.wrap .i64 ((IntKind.wrap .i64 ((y1.length : Int) + (y2.length : Int))) + (y3.length : Int))) == 0) = true then ((M39 fuel).bind fun y6 => some (.brk y6)) else some (.brk false) : Option (Lp (Bool) (Bool))) fun j0 => some j0) else after ((M41 fuel p0 p1).bind fun y8 => (M40 fuel y1 y8).bind fun y9 => if y9 = true then ((M42 fuel p0 p2).bind fun y69 => (M40 fuel y2 y69).bind fun y71 => if y71 = true then ((M43 fuel p0 p2).bind fun y74 => (M40 fuel y3 y74).bind fun y76 => if y76 = true then ((M39 fuel).bind fun y79 => some (.brk y79)) else some (.brk false)) else some (.brk false)) else some (.brk false) : Option (Lp (Bool) (Bool))) fun j1 => some j1
set_option maxHeartbeats 4000000 in
set_option maxRecDepth 100000 in
theorem W9 {fuel : Nat} {p0 : TCatalog} {p1 : Int} {p2 : Int} {o : Bool} (h : Heap) (hm : M9 fuel p0 p1 p2 = some o) :
 ACalls Try.prog 9 [.agg (c_Catalog p0), .sc (.int .i64 p1), .sc (.int .i64 p2)] h (fun r h' => r = .sc (.bool o) ∧ h' = h) := by
 refine ACv 65 [.tmp 6] Try.func9 rfl rfl rfl rfl ?_
 unfold M9 at hm
 refine v ?_
 refine ve fun hk => a_box hk rfl rfl fun k2 hk3 => qk hk3 rfl ?_
 refine v (vl 0 (.agg (c_Catalog p0)) ld27 rfl rfl rfl ?_)
 refine vk W13 bd13 hm rfl rfl fun _ hm => ?_
 refine v ?_
 refine vi hm (fun hc9 hm => ?_) fun hc9 hm => ?_
 refine v (v ?_)
 injection hm with hm; subst hm
 exact vr1 rfl
 refine v (v (vl 0 (.agg (c_Catalog p0)) ld27 rfl rfl rfl ?_))
 refine vk W14 bd14 hm rfl rfl fun y0 hm => ?_
 refine ve fun hk => a_alloc ([.sc (.int .i64 0), .sc (.slice none 0 0), .sc (.slice none 0 0), .sc (.slice none 0 0), .sc (.slice none 0 0)]) hk zr27 rfl rfl fun k14 hk0 => qk hk0 rfl ?_
 refine ve fun hk => a_store 0 (c_Catalog y0) hk rfl rfl rfl rfl sz27 rfl rfl fun hk1 => qk hk1 rfl ?_
 refine v (vq (by kernel_rfl) (vl 0 (.agg (c_Catalog y0)) ld27 rfl rfl rfl ?_))
 refine vk W36 bd36 hm rfl rfl fun _ hm => ?_
 refine vl 0 (.agg (c_Catalog y0)) ld27 rfl rfl rfl ?_
 refine vk W37 bd37 hm rfl rfl fun _ hm => ?_
 refine vl 0 (.agg (c_Catalog y0)) ld27 rfl rfl rfl ?_
 refine vk W38 bd38 hm rfl rfl fun _ hm => ?_
 refine v (vl 0 (.agg (c_Catalog y0)) ld27 rfl rfl rfl (vl 1 (.agg (c_Catalog p0)) ld27 rfl rfl rfl ?_))
 refine vk W17 bd17 hm rfl rfl fun _ hm => ?_
 refine v ?_
 refine vi hm (fun hc0 hm => ?_) fun hc0 hm => ?_
 refine v (v ?_)
 injection hm with hm; subst hm
 exact vr1 rfl
 refine v (v (vl 1 (.agg (c_Catalog p0)) ld27 rfl rfl rfl ?_))
 refine vk W19 bd19 hm rfl rfl fun _ hm => ?_
 refine v ?_
 refine vi hm (fun hc1 hm => ?_) fun hc1 hm => ?_
 refine vs ?_
 refine vjnH hm (σ := Bool) (τ := Unit) (fun g s => [(some k14, .obj 27 (c_Catalog y0)), (some k2, .obj 27 (c_Catalog p0))]) (fun g s => .c 6 (.sc (.bool s)) .nil) (fun x hm => ?_) ?_
 refine v (vln ln70 rfl (vln ln70 rfl (vln ln70 rfl ?_)))
 refine vi hm (fun hb0 hm => ?_) fun hb0 hm => ?_
 rw [hb0]
 refine vk W39 bd39 hm rfl rfl fun _ hm => ?_
 exact vgo hm () trivial (lx (.cons (ALe.refl _ _) .nil))
 rw [hb0]
 exact vgo hm () trivial (lx (.cons (ALe.refl _ _) .nil))
 rintro _ j0 hm
 refine v ?_
 injection hm with hm; subst hm
 exact vr1 rfl
 refine v (vs ?_)
 refine vjnH hm (σ := Bool) (τ := Unit) (fun g s => [(some k14, .obj 27 (c_Catalog y0)), (some k2, .obj 27 (c_Catalog p0))]) (fun g s => .c 6 (.sc (.bool s)) .nil) (fun x hm => ?_) ?_
 refine v (vl 1 (.agg (c_Catalog p0)) ld27 rfl rfl rfl ?_)
 refine vk W41 bd41 hm rfl rfl fun _ hm => ?_
 refine vk W40 bd40 hm rfl rfl fun _ hm => ?_
 refine vi hm (fun hb1 hm => ?_) fun hb1 hm => ?_
 rw [hb1]
 refine vl 1 (.agg (c_Catalog p0)) ld27 rfl rfl rfl ?_
 refine vk W42 bd42 hm rfl rfl fun _ hm => ?_
 refine vk W40 bd40 hm rfl rfl fun _ hm => ?_
 refine vi hm (fun hb2 hm => ?_) fun hb2 hm => ?_
 rw [hb2]
 refine vl 1 (.agg (c_Catalog p0)) ld27 rfl rfl rfl ?_
 refine vk W43 bd43 hm rfl rfl fun _ hm => ?_
 refine vk W40 bd40 hm rfl rfl fun _ hm => ?_
 refine vi hm (fun hb3 hm => ?_) fun hb3 hm => ?_
 rw [hb3]
 refine vk W39 bd39 hm rfl rfl fun _ hm => ?_
 exact vgo hm () trivial (lx (.cons (ALe.refl _ _) .nil))
 rw [hb3]
 exact vgo hm () trivial (lx (.cons (ALe.refl _ _) .nil))
 rw [hb2]
 exact vgo hm () trivial (lx (.cons (ALe.refl _ _) .nil))
 rw [hb1]
 exact vgo hm () trivial (lx (.cons (ALe.refl _ _) .nil))
 rintro _ j1 hm
 refine v ?_
 injection hm with hm; subst hm
 exact vr1 rfl
open Go.Vm
def laB (c : TCatalog) (p : Int) (l : List TLoc) : Bool := !l.any (inP c p) && (p == 0 || l.any (inP c 0))
theorem m79 {F : Nat} {c : TCatalog} {p : Int} {l : List TLoc} {b : Bool} (hF : 1000 ≤ F) (h : Sm c) (hl : l.length ≤ 300) : M79 F l b c p = some (b && laB c p l) := by
 have hvo := h.vo
 unfold M79 laB
 simp only [m46 hF (by omega : c.Vols.length < 1000) hl, Option.bind_some]
 cases b <;> cases l.any (inP c p) <;> cases p == 0 <;> rfl
theorem m122 {F : Nat} {c : TCatalog} {p : Int} {l : List TLoc} (hF : 1000 ≤ F) (h : Sm c) (hl : l.length ≤ 300) : M122 F c l p = some (l.any (inP c p)) := by
 unfold M122
 rw [any_loop (l := l) (F := F) (inP c p) true (by omega) (fun i x hx hm hi => by
  unfold M122_L0
  rw [wr1 (by omega)]
  simp only [ix_nat, hx, Option.bind_some, Int.ofNat_lt, hi, decide_true, if_true]
  unfold inP inR
  by_cases h1 : 0 ≤ x.Vol
  ·by_cases h2 : x.Vol < (c.Vols.length : Int)
   ·have h3 : x.Vol ≤ (c.Vols.length : Int) - 1 := by omega
    have hi : x.Vol.toNat < c.Vols.length := by omega
    simp only [h1, h2, h3, decide_true, if_true, ix_pos _ h1, List.getElem?_eq_getElem hi, Option.bind_some, after_brk, Option.any_some, Bool.true_and]
    cases c.Vols[x.Vol.toNat].Pool == p <;> rfl
   ·have h3 : ¬ x.Vol ≤ (c.Vols.length : Int) - 1 := by omega
    simp [h1, h2, h3, after]
  ·simp [h1, after]) (by unfold M122_L0; simp)]
 cases l.any (inP c p) <;> rfl
theorem m87 {F : Nat} {c : TCatalog} {p : Int} {l : List TLoc} (hF : 1000 ≤ F) (h : Sm c) (hl : l.length ≤ 300) : M87 F c l p = some (laB c p l) := by
 unfold M87 laB
 simp only [m122 hF h hl, Option.bind_some]
 cases l.any (inP c p) <;> cases p == 0 <;> rfl
def lacks (c : TCatalog) (p : Int) : List TItem := allL c fun l b => b && laB c p l
theorem m36 {F : Nat} {c : TCatalog} {p : Int} (hF : 1000 ≤ F) (h : Sm c) : M36 F c p = some (if good c = true ∧ 0 ≤ p ∧ p ≤ 1 then lacks c p else []) := by
 unfold M36
 by_cases h1 : p < 0
 ·have : ¬ (good c = true ∧ 0 ≤ p ∧ p ≤ 1) := by omega
  simp [h1, this, after]
 ·by_cases h2 : 1 < p
  ·have : ¬ (good c = true ∧ 0 ≤ p ∧ p ≤ 1) := by omega
   simp [h1, h2, this, after]
  ·rw [m33 hF h]
   have h3 : p ≤ 1 := by omega
   have h0 : 0 ≤ p := by omega
   cases hg : good c
   ·simp [h1, h2, hg, after]
   ·simp only [h1, h2, decide_false, Bool.false_eq_true, if_false, if_true, Option.bind_some, bne_self_eq_false, after_brk, h0, h3, and_self, true_and]
    rw [m78g (fun l b => b && laB c p l) hF h (fun l b hl => m79 hF h hl)]
    rfl
theorem m41 {F : Nat} {c : TCatalog} {p : Int} (hF : 1000 ≤ F) (h : Sm c) : M41 F c p = some (if 0 ≤ p ∧ p ≤ 1 then lacks c p else []) := by
 have hsn := h.sn
 have hch := h.ch
 have hex := h.ex
 unfold M41
 by_cases hp : 0 ≤ p ∧ p ≤ 1
 ·have e : (if (p != 0) = true then (some (.brk (p != 1))) else some (.brk false) : Option (Lp Bool (List TItem))) = some (.brk false) := by
   have : p = 0 ∨ p = 1 := by omega
   rcases this with rfl | rfl <;> rfl
  rw [e, if_pos hp]
  simp only [after_brk, Bool.false_eq_true, if_false]
  rw [filt_loop (l := c.Chunks) [] (fun x => usedB c x.Id && laB c p x.Locs) it1 (by omega) (fun i x hx hm hi acc ha => by
   unfold M41_L0
   rw [wr1 (by omega)]
   simp only [ix_nat, hx, Option.bind_some, Int.ofNat_lt, hi, decide_true, if_true, m65 hF h, m87 hF h (h.cl x hm).1]
   simp only [List.length_nil] at ha
   rw [app_some (by simp; omega)]
   cases usedB c x.Id <;> cases laB c p x.Locs <;> rfl) (fun acc => by unfold M41_L0; simp)]
  simp only [after_brk, List.nil_append]
  have l1 : ((c.Chunks.filter fun x => usedB c x.Id && laB c p x.Locs).map it1).length ≤ 400 := by rw [List.length_map]; exact Nat.le_trans (List.length_filter_le _ _) hch
  rw [filt_loop (l := c.Snaps) _ (fun x => true && laB c p x.Locs) it2 (by omega) (fun i x hx hm hi acc ha => by
   unfold M41_L2
   rw [wr1 (by omega)]
   simp only [ix_nat, hx, Option.bind_some, Int.ofNat_lt, hi, decide_true, if_true, m87 hF h (h.sl x hm)]
   rw [app_some (by simp; omega)]
   cases laB c p x.Locs <;> rfl) (fun acc => by unfold M41_L2; simp)]
  simp only [after_brk]
  have l2 : ((c.Snaps.filter fun x => true && laB c p x.Locs).map it2).length ≤ 12 := by rw [List.length_map]; exact Nat.le_trans (List.length_filter_le _ _) hsn
  rw [filt_loop (l := c.Exps) _ (fun x => true && laB c p x.Locs) it3 (by omega) (fun i x hx hm hi acc ha => by
   unfold M41_L4
   rw [wr1 (by omega)]
   simp only [ix_nat, hx, Option.bind_some, Int.ofNat_lt, hi, decide_true, if_true, m87 hF h (h.el x hm)]
   rw [List.length_append] at ha
   rw [app_some (by simp; omega)]
   cases laB c p x.Locs <;> rfl) (fun acc => by unfold M41_L4; simp)]
  rfl
 ·have e : (if (p != 0) = true then (some (.brk (p != 1))) else some (.brk false) : Option (Lp Bool (List TItem))) = some (.brk true) := by
   have h0 : (p != 0) = true := by simp; omega
   have h1 : (p != 1) = true := by simp; omega
   simp [h0, h1]
  rw [e, if_neg hp]
  rfl
theorem m40 {F : Nat} {l : List TItem} (hF : 1000 ≤ F) (hl : l.length ≤ 900) : M40 F l l = some true := by
 unfold M40
 rw [if_neg (by simp), any_loop (l := l) (F := F) (fun _ => false) false (by omega) (fun i x hx _ hi => by
  unfold M40_L0
  rw [wr1 (by omega)]
  simp [ix_nat, hx, hi, after]) (by unfold M40_L0; simp)]
 simp [after]
theorem allL_len {c : TCatalog} {g : List TLoc → Bool → Bool} (h : Sm c) : (allL c g).length ≤ 720 := by
 have hsn := h.sn
 have hch := h.ch
 have hex := h.ex
 unfold allL
 simp only [List.length_append, List.length_map]
 have h1 := List.length_filter_le (fun x : TChunk => g x.Locs (usedB c x.Id)) c.Chunks
 have h2 := List.length_filter_le (fun x : TSnap => g x.Locs true) c.Snaps
 have h3 := List.length_filter_le (fun x : TExp => g x.Locs true) c.Exps
 omega
def othV (c : TCatalog) (v p : Int) (l : List TLoc) : Bool := (l.filter fun x => !(x.Vol == v)).any (inP c p)
theorem m123' {F : Nat} {c : TCatalog} {l : List TLoc} {v : Int} (hF : 1000 ≤ F) (hl : l.length ≤ 300) (hin : ∀ x ∈ l, 0 ≤ x.Vol ∧ x.Vol.toNat < c.Vols.length) (hv : 0 ≤ v ∧ v.toNat < c.Vols.length) :
    M123 F c l v = some (onV v l, othV c v ((c.Vols[v.toNat]?).elim 0 (·.Pool)) l) := by
  have e2 : c.Vols[v.toNat]? = some c.Vols[v.toNat] := List.getElem?_eq_getElem hv.2
  generalize c.Vols[v.toNat] = w2 at e2
  rw [e2]
  unfold M123
  obtain ⟨s, ⟨h1, h2, h4⟩, h3⟩ := loop_inv (body := fun s : Bool × Bool × Int => M123_L0 F c l v s.1 s.2.1 s.2.2) (I := fun i s => s.2.2 = (i : Int) ∧ s.1 = ((l.take i).any fun y => y.Vol == v) ∧ s.2.1 = othV c v w2.Pool (l.take i)) (n := l.length) (fun i s hi hI => by
    obtain ⟨a, b, q⟩ := s
    obtain ⟨rfl, rfl, rfl⟩ := hI
    have hx : l[i]? = some l[i] := List.getElem?_eq_getElem hi
    have hm := List.getElem_mem hi
    have htk := List.take_succ_eq_append_getElem hi
    generalize l[i] = x at hx hm htk
    obtain ⟨i1, i2⟩ := hin x hm
    have e1 : c.Vols[x.Vol.toNat]? = some c.Vols[x.Vol.toNat] := List.getElem?_eq_getElem i2
    generalize c.Vols[x.Vol.toNat] = w1 at e1
    have hinp : inP c w2.Pool x = (w1.Pool == w2.Pool) := by
      unfold inP inR
      rw [e1]
      have : x.Vol ≤ (c.Vols.length : Int) - 1 := by omega
      simp [i1, this]
    refine ⟨((l.take (i + 1)).any fun y => y.Vol == v, othV c v w2.Pool (l.take (i + 1)), ((i + 1 : Nat) : Int)), ?_, rfl, rfl, rfl⟩
    unfold M123_L0 othV
    rw [wr1 (by omega)]
    simp only [ix_nat, hx, ix_pos _ i1, ix_pos _ hv.1, e1, e2, Option.bind_some, Int.ofNat_lt, hi, decide_true, if_true, htk, List.any_append, List.filter_append]
    cases hq : x.Vol == v
    · cases hw : w1.Pool == w2.Pool <;> simp [after, hq, hw, hinp, List.filter]
    · simp [after, hq, List.filter]) (fun s hs => by
    obtain ⟨a, b, q⟩ := s
    obtain ⟨rfl, -⟩ := hs
    unfold M123_L0
    simp) F 0 (false, false, 0) (by omega) (by omega) ⟨rfl, rfl, rfl⟩
  rw [h3]
  simp only [after_brk]
  rw [h2, h4, List.take_length]
  rfl
theorem m43 {F : Nat} {c : TCatalog} {v : Int} (hF : 1000 ≤ F) (h : Sm c) (hg : good c = true) : M43 F c v = some (if 0 ≤ v ∧ v < c.Vols.length then allL c (movB c v ((c.Vols[v.toNat]?).elim 0 (·.Pool))) else []) := by
 have hsn := h.sn
 have hch := h.ch
 have hex := h.ex
 obtain ⟨g1, g2, g3⟩ := good_locs hg
 unfold M43 M88
 by_cases hv' : 0 ≤ v ∧ v < (c.Vols.length : Int)
 ·have hv : 0 ≤ v ∧ v.toNat < c.Vols.length := by omega
  have v1 : decide (v < 0) = false := by simp; omega
  have v2 : decide ((c.Vols.length : Int) ≤ v) = false := by simp; omega
  rw [if_pos hv']
  generalize hpl : (c.Vols[v.toNat]?).elim 0 (·.Pool) = pl
  have key : ∀ l : List TLoc, l.length ≤ 300 → (∀ x ∈ l, 0 ≤ x.Vol ∧ x.Vol.toNat < c.Vols.length) → M123 F c l v = some (onV v l, othV c v pl l) := fun l h1 h2 => by rw [← hpl]; exact m123' hF h1 h2 hv
  simp only [v1, v2, Bool.false_eq_true, if_false, after_brk]
  rw [filt_loop (l := c.Chunks) [] (fun x => movB c v pl x.Locs (usedB c x.Id)) it1 (by omega) (fun i x hx hm hi acc ha => by
   have hb := key x.Locs (h.cl x hm).1 (locs_in (g1 x hm))
   unfold M88_L0
   rw [wr1 (by omega)]
   simp only [ix_nat, hx, Option.bind_some, Int.ofNat_lt, hi, decide_true, if_true, hb, m65 hF h]
   simp only [List.length_nil] at ha
   rw [app_some (by simp; omega)]
   unfold movB
   have ho : ((x.Locs.filter fun x => !(x.Vol == v)).any (inP c pl)) = othV c v pl x.Locs := rfl
   rw [ho]
   cases onV v x.Locs <;> cases othV c v pl x.Locs <;> cases usedB c x.Id <;> rfl) (fun acc => by unfold M88_L0; simp)]
  simp only [after_brk, List.nil_append]
  have l1 : ((c.Chunks.filter fun x => movB c v pl x.Locs (usedB c x.Id)).map it1).length ≤ 400 := by rw [List.length_map]; exact Nat.le_trans (List.length_filter_le _ _) hch
  rw [filt_loop (l := c.Snaps) _ (fun x => movB c v pl x.Locs true) it2 (by omega) (fun i x hx hm hi acc ha => by
   have hb := key x.Locs (h.sl x hm) (locs_in (g2 x hm))
   unfold M88_L2
   rw [wr1 (by omega)]
   simp only [ix_nat, hx, Option.bind_some, Int.ofNat_lt, hi, decide_true, if_true, hb]
   rw [app_some (by simp; omega)]
   unfold movB
   have ho : ((x.Locs.filter fun x => !(x.Vol == v)).any (inP c pl)) = othV c v pl x.Locs := rfl
   rw [ho]
   cases onV v x.Locs <;> cases othV c v pl x.Locs <;> rfl) (fun acc => by unfold M88_L2; simp)]
  simp only [after_brk]
  have l2 : ((c.Snaps.filter fun x => movB c v pl x.Locs true).map it2).length ≤ 12 := by rw [List.length_map]; exact Nat.le_trans (List.length_filter_le _ _) hsn
  rw [filt_loop (l := c.Exps) _ (fun x => movB c v pl x.Locs true) it3 (by omega) (fun i x hx hm hi acc ha => by
   have hb := key x.Locs (h.el x hm) (locs_in (g3 x hm))
   unfold M88_L4
   rw [wr1 (by omega)]
   simp only [ix_nat, hx, Option.bind_some, Int.ofNat_lt, hi, decide_true, if_true, hb]
   rw [List.length_append] at ha
   rw [app_some (by simp; omega)]
   unfold movB
   have ho : ((x.Locs.filter fun x => !(x.Vol == v)).any (inP c pl)) = othV c v pl x.Locs := rfl
   rw [ho]
   cases onV v x.Locs <;> cases othV c v pl x.Locs <;> rfl) (fun acc => by unfold M88_L4; simp)]
  rfl
 ·rw [if_neg hv']
  have : (decide (v < 0) || decide ((c.Vols.length : Int) ≤ v)) = true := by simp; omega
  cases q1 : decide (v < 0)
  ·rw [q1] at this
   simp only [Bool.false_or] at this
   simp only [Bool.false_eq_true, if_false, this, after_brk, if_true]
   rfl
  ·simp only [if_true, after_brk]
   rfl
theorem m39 : M39 1000 = some true := by decide +kernel
theorem stage_exact {c : TCatalog} {p v : Int} (hg : g_Catalog c) : M9 1000 c p v = some true := by
 have hF : 1000 ≤ 1000 := Nat.le_refl _
 obtain ⟨b, hb, hs⟩ := m13 (F := 1000) hF hg
 unfold M9
 rw [hb]
 simp only [Option.bind_some]
 cases b
 ·have h := hs rfl
  simp only [Bool.false_eq_true, if_false]
  rw [m14 hF h]
  simp only [Option.bind_some]
  rw [m36 hF h, m37 hF h, m38 hF h, m17 hF h, m19 hF h]
  simp only [Option.bind_some, Bool.not_true, Bool.false_eq_true, if_false]
  cases hgd : good c
  ·simp [after, m39, wr]
  ·rw [m41 hF h, m42 hF h hgd, m43 hF h hgd]
   simp only [Option.bind_some, Bool.not_true, Bool.false_eq_true, if_false, true_and, if_true]
   have l1 : (if 0 ≤ p ∧ p ≤ 1 then lacks c p else []).length ≤ 900 := by
    split
    ·exact Nat.le_trans (allL_len h) (by omega)
    ·simp
   have l2 : (onL c v).length ≤ 900 := Nat.le_trans (onL_len h) (by omega)
   have l3 : (if 0 ≤ v ∧ v < (c.Vols.length : Int) then allL c (movB c v ((c.Vols[v.toNat]?).elim 0 (·.Pool))) else []).length ≤ 900 := by
    split
    ·exact Nat.le_trans (allL_len h) (by omega)
    ·simp
   rw [m40 hF l1, m40 hF l2, m40 hF l3, m39]
   rfl
 ·rfl
theorem stage_exact3 {c : TCatalog} {p v : Int} (hg : g_Catalog c) (_ : gI p) (_ : gI v) : M9 1000 c p v = some true := stage_exact hg
end Go.Proofs.Ytoomgangpjcaoaa
