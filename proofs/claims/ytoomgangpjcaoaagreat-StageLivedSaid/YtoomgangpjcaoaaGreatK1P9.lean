import Derived.Test.YtoomgangpjcaoaaGreatK1P8
import Derived.Test.YtoomgangpjcaoaaGreatK1P5
set_option linter.unusedSimpArgs false
set_option linter.unusedVariables false
namespace Go.Proofs.YtoomgangpjcaoaaGreat
open Go.Vm
def lcOk (n : Nat) (l : List TLoc) : Prop := l.length ≤ n ∧ gL g_Loc l
def snOk (n : Nat) (s : TSnap) : Prop := gI s.Seq ∧ manOk s.Man ∧ lcOk n s.Locs
def chOk (n : Nat) (x : TChunk) : Prop := gId x.Id ∧ x.Data.length ≤ 300 ∧ gL gB x.Data ∧ lcOk n x.Locs
def exOk (n : Nat) (x : TExp) : Prop := gI x.Seq ∧ gI x.Of ∧ lcOk n x.Locs
structure Md (n m : Nat) (q : Int) (s : List TSnap) (k : List TChunk) (e : List TExp) (v : List TVol) : Prop where
 q : gI q
 sn : s.length ≤ 9
 s : ∀ x ∈ s, snOk n x
 kn : k.length ≤ 360
 k : ∀ x ∈ k, chOk n x
 en : e.length ≤ m
 e : ∀ x ∈ e, exOk n x
 vn : v.length ≤ 8
 v : ∀ x ∈ v, g_Vol x
theorem lcOk.mono {n n' : Nat} {l : List TLoc} (h : lcOk n l) (hn : n ≤ n') : lcOk n' l := ⟨Nat.le_trans h.1 hn, h.2⟩
theorem snOk.mono {n n' : Nat} {x : TSnap} (h : snOk n x) (hn : n ≤ n') : snOk n' x := ⟨h.1, h.2.1, h.2.2.mono hn⟩
theorem chOk.mono {n n' : Nat} {x : TChunk} (h : chOk n x) (hn : n ≤ n') : chOk n' x := ⟨h.1, h.2.1, h.2.2.1, h.2.2.2.mono hn⟩
theorem exOk.mono {n n' : Nat} {x : TExp} (h : exOk n x) (hn : n ≤ n') : exOk n' x := ⟨h.1, h.2.1, h.2.2.mono hn⟩
theorem Md.mono {n m n' m' : Nat} {q : Int} {s : List TSnap} {k : List TChunk} {e : List TExp} {v : List TVol} (h : Md n m q s k e v) (hn : n ≤ n') (hm : m ≤ m') : Md n' m' q s k e v :=
 ⟨h.q, h.sn, fun x hx => (h.s x hx).mono hn, h.kn, fun x hx => (h.k x hx).mono hn, Nat.le_trans h.en hm, fun x hx => (h.e x hx).mono hn, h.vn, h.v⟩
theorem Md.sm {n m : Nat} {q : Int} {s : List TSnap} {k : List TChunk} {e : List TExp} {v : List TVol} (h : Md n m q s k e v) (hn : n ≤ 300) (hm : m ≤ 300) : Sm { Seq := q, Snaps := s, Chunks := k, Exps := e, Vols := v } where
 g := ⟨h.q, fun x hx => ⟨(h.s x hx).1, (h.s x hx).2.1.2.2.2, (h.s x hx).2.2.2⟩, fun x hx => ⟨(h.k x hx).1, trivial, (h.k x hx).2.2.1, (h.k x hx).2.2.2.2⟩, fun x hx => ⟨(h.e x hx).1, (h.e x hx).2.1, (h.e x hx).2.2.2⟩, h.v⟩
 sn := Nat.le_trans h.sn (by omega)
 ch := Nat.le_trans h.kn (by omega)
 ex := Nat.le_trans h.en hm
 vo := Nat.le_trans h.vn (by omega)
 sl := fun x hx => Nat.le_trans (h.s x hx).2.2.1 hn
 cl := fun x hx => ⟨Nat.le_trans (h.k x hx).2.2.2.1 hn, (h.k x hx).2.1⟩
 el := fun x hx => Nat.le_trans (h.e x hx).2.2.1 hn
 man := fun x hx => ⟨(h.s x hx).2.1.1, (h.s x hx).2.1.2.1, (h.s x hx).2.1.2.2.1⟩
theorem locsB_len {c : TCatalog} {l : List TLoc} (h : locsB c l = true) : l.length ≤ 200 := by
 unfold locsB at h
 simp only [Bool.and_eq_true, decide_eq_true_eq] at h
 exact h.1
theorem Ok.md {c : TCatalog} (h : Ok c) : Md 200 200 c.Seq c.Snaps c.Chunks c.Exps c.Vols where
 q := h.sm.g.1
 sn := Nat.le_trans h.rg.sn (by omega)
 s := fun x hx => ⟨(h.sm.g.2.1 x hx).1, ⟨(h.sm.man x hx).1, (h.sm.man x hx).2.1, (h.sm.man x hx).2.2, (h.sm.g.2.1 x hx).2.1⟩, locsB_len (h.rg.s x hx).2.2.2, (h.sm.g.2.1 x hx).2.2⟩
 kn := Nat.le_trans h.rg.ch (by omega)
 k := fun x hx => ⟨(h.sm.g.2.2.1 x hx).1, (h.sm.cl x hx).2, (h.sm.g.2.2.1 x hx).2.2.1, locsB_len (h.rg.k x hx).2, (h.sm.g.2.2.1 x hx).2.2.2⟩
 en := h.rg.ex
 e := fun x hx => ⟨(h.sm.g.2.2.2.1 x hx).1, (h.sm.g.2.2.2.1 x hx).2.1, locsB_len (h.rg.e x hx).2.2.2.2, (h.sm.g.2.2.2.1 x hx).2.2⟩
 vn := h.rg.vo
 v := h.sm.g.2.2.2.2
theorem t64 {F : Nat} {c : TCatalog} {d : Id32} (hF : 1000 ≤ F) (hl : c.Chunks.length < 1000) : T (M88 F c d) fun n => n < c.Chunks.length := by
 unfold M88
 refine .loop (fun i => 0 ≤ i ∧ i ≤ c.Chunks.length) (fun i => (c.Chunks.length - i).toNat) (fun _ => True) (by omega) (by omega) (fun i hi => ?_) (fun i _ => .some (by omega))
 unfold M88_L0
 refine .ite (fun hc => ?_) fun _ => .brk trivial
 have hc := of_decide_eq_true hc
 rw [wr (by omega) (by omega)]
 exact .ix (by omega) (by omega) fun x _ _ => .ite (fun _ => .ret hc) fun _ => .go (by omega)
theorem t148 {F : Nat} {a b : TLoc} : T (M191 F a b) fun _ => True := by
 unfold M191
 exact .ite (fun _ => .some trivial) fun _ => .ite (fun _ => .some trivial) fun _ => .ite (fun _ => .some trivial) fun _ => .some trivial
theorem t146 {F n : Nat} {l : List TLoc} {x : TLoc} (hF : 1000 ≤ F) (h : lcOk n l) (hn : n ≤ 300) (hx : g_Loc x) : T (M185 F l x) fun r => lcOk (n + 1) r := by
 have h1 := h.1
 unfold M185
 refine T.scan (by omega) (by omega) (fun _ => rfl) (fun y _ => .bind _ t148 fun _ _ => .brk trivial) fun r hr => ?_
 refine .ins hr (by omega) fun z z1 z2 => .some ⟨by omega, fun y hy => ?_⟩
 rcases z2 y hy with h2 | rfl
 ·exact h.2 y h2
 ·exact hx
theorem t139 {F n : Nat} {l : List TLoc} {v : Int} (hF : 1000 ≤ F) (h : lcOk n l) (hn : n ≤ 300) : T (M157 F l v) fun r => lcOk n r := by
 have h1 := h.1
 unfold M157
 refine .loop (fun s => 0 ≤ s.2 ∧ s.2 ≤ l.length ∧ (s.1.length : Int) ≤ s.2 ∧ gL g_Loc s.1) (fun s => (l.length - s.2).toNat) (fun s => lcOk n s.1) (by simp; omega) ⟨by simp, by simp, by simp, fun _ h => by simp at h⟩ (fun s hs => ?_) (fun s hs => .some hs)
 obtain ⟨q, i⟩ := s
 simp only at hs
 unfold M157_L0
 refine .ite (fun hc => ?_) fun _ => .brk ⟨by simp only; omega, hs.2.2.2⟩
 have hc := of_decide_eq_true hc
 simp only at hc
 rw [wr (n := i + 1) (by omega) (by omega)]
 refine .ix (by omega) (by omega) fun x _ hx => .after (.ite (fun _ => .ix (by omega) (by omega) fun y _ hy => .app (by simp; omega) (.brk (.go ?_))) fun _ => .brk (.go ⟨⟨by simp only; omega, by simp only; omega, by simp only; omega, hs.2.2.2⟩, by simp only; omega⟩))
 refine ⟨⟨by simp only; omega, by simp only; omega, by simp; omega, fun z hz => ?_⟩, by simp only; omega⟩
 rcases List.mem_append.1 hz with h2 | h2
 ·exact hs.2.2.2 z h2
 ·rw [List.mem_singleton] at h2
  exact h2 ▸ h.2 y hy
theorem t137 {F : Nat} {c : TCatalog} {i a b : Int} : T (M155 F c i a b) fun r => r = true → 0 ≤ i ∧ i < c.Vols.length := by
 unfold M155
 refine .after (.ite (fun h0 => .ite (fun h1 => ?_) fun _ => .brk (.some fun h => by cases h)) fun _ => .brk (.some fun h => by cases h))
 have h0 := of_decide_eq_true h0
 have h1 := of_decide_eq_true h1
 exact .ix (by omega) (by omega) fun x _ hx => .ite (fun _ => .brk (.some fun _ => ⟨h0, h1⟩)) fun _ => .ix (by omega) (by omega) fun y _ _ => .brk (.some fun _ => ⟨h0, h1⟩)
theorem t136 {F n m : Nat} {q : Int} {s : List TSnap} {k : List TChunk} {e : List TExp} {v : List TVol} {z : Int} (hF : 1000 ≤ F) (h : Md n m q s k e v) (hn : n ≤ 300) (hm : m ≤ 300) :
    T (M154 F { Seq := q, Snaps := s, Chunks := k, Exps := e, Vols := v } z) fun r => Md n m q r.2.1 r.2.2 e v := by
  have h1 := h.sn
  have h2 := h.kn
  unfold M154
  refine .loop (fun s' => 0 ≤ s'.2 ∧ s'.2 ≤ s.length ∧ (s'.1.length : Int) ≤ s'.2 ∧ ∀ x ∈ s'.1, snOk n x) (fun s' => (s.length - s'.2).toNat) (fun s' => s'.1.length ≤ 9 ∧ ∀ x ∈ s'.1, snOk n x) (by simp; omega) (by simp) (fun s' hs => ?_) (fun s' hs => ?_)
  · obtain ⟨a, i⟩ := s'
    simp only at hs
    unfold M154_L0
    refine .ite (fun hc => ?_) fun _ => .brk ⟨by simp only; omega, hs.2.2.2⟩
    have hc := of_decide_eq_true hc
    simp only at hc
    rw [wr (n := i + 1) (by omega) (by omega)]
    refine .ix (by omega) (by simp only; omega) fun x _ hx => .after (.ite (fun _ => .ix (by omega) (by simp only; omega) fun y _ hy => .app (by simp; omega) (.brk (.go ?_))) fun _ => .brk (.go ⟨⟨by simp only; omega, by simp only; omega, by simp only; omega, hs.2.2.2⟩, by simp only; omega⟩))
    refine ⟨⟨by simp only; omega, by simp only; omega, by simp; omega, fun w hw => ?_⟩, by simp only; omega⟩
    rcases List.mem_append.1 hw with h3 | h3
    · exact hs.2.2.2 w h3
    · rw [List.mem_singleton] at h3
      exact h3 ▸ h.s y hy
  · obtain ⟨a, i0⟩ := s'
    have M1 : Md n m q a k e v := ⟨h.q, hs.1, hs.2, h.kn, h.k, h.en, h.e, h.vn, h.v⟩
    refine .ite (fun _ => .some h) fun _ => ?_
    refine .loop (fun s' => 0 ≤ s'.2 ∧ s'.2 ≤ k.length ∧ (s'.1.length : Int) ≤ s'.2 ∧ ∀ x ∈ s'.1, chOk n x) (fun s' => (k.length - s'.2).toNat) (fun s' => s'.1.length ≤ 360 ∧ ∀ x ∈ s'.1, chOk n x) (by simp; omega) (by simp) (fun s' hs2 => ?_) (fun s' hs2 => .some ⟨h.q, hs.1, hs.2, hs2.1, hs2.2, h.en, h.e, h.vn, h.v⟩)
    obtain ⟨b, i⟩ := s'
    simp only at hs2
    unfold M154_L2
    refine .ite (fun hc => ?_) fun _ => .brk ⟨by simp only; omega, hs2.2.2.2⟩
    have hc := of_decide_eq_true hc
    simp only at hc
    rw [wr (n := i + 1) (by omega) (by omega)]
    have put : ∀ y : TChunk, chOk n y → T ((app b ([y] : List TChunk)).bind fun z490 => some (.brk z490) : Option (Lp (List TChunk) (Lp (List TChunk × Int) (Bool × List TSnap × List TChunk))))
        (L3 (fun _ => False) (fun b' : List TChunk => b'.length ≤ b.length + 1 ∧ ∀ x ∈ b', chOk n x) (fun b' : Lp (List TChunk × Int) (Bool × List TSnap × List TChunk) => ∃ s, b' = .brk s ∧ s.1.length ≤ 360 ∧ ∀ x ∈ s.1, chOk n x)) := fun y hy => by
      refine .app (by simp; omega) (.brk ⟨by simp, fun x hx => ?_⟩)
      rcases List.mem_append.1 hx with h3 | h3
      · exact hs2.2.2.2 x h3
      · rw [List.mem_singleton] at h3
        exact h3 ▸ hy
    refine .after (T.mono (P := L3 (fun _ => False) (fun b' : List TChunk => b'.length ≤ b.length + 1 ∧ ∀ x ∈ b', chOk n x) (fun b' : Lp (List TChunk × Int) (Bool × List TSnap × List TChunk) => ∃ s, b' = .brk s ∧ s.1.length ≤ 360 ∧ ∀ x ∈ s.1, chOk n x)) (.ix (by omega) (by simp only; omega) fun x _ hx => .bindEq (m65 hF (M1.sm hn hm)) (.after ?_)) fun j hj => ?_)
    · have gx := h.k x hx
      refine .ite (fun _ => .ite (fun _ => .ret (show b.length ≤ b.length + 1 ∧ _ from ⟨by omega, hs2.2.2.2⟩)) fun _ => .brk (put _ ⟨gx.1, by simp, fun _ h => by simp at h, gx.2.2.2⟩)) fun _ => .brk (put _ gx)
    · cases j with
      | go s => exact hj
      | ret s =>
        obtain ⟨s', rfl, h3⟩ := hj
        exact h3
      | brk b' =>
        have := hj.1
        exact .go ⟨⟨by simp only; omega, by simp only; omega, by simp only; omega, hj.2⟩, by simp only; omega⟩
open Go.Vm
section
variable {n m : Nat} {q : Int} {s : List TSnap} {k : List TChunk} {e : List TExp} {v : List TVol}
theorem Md.setK (h : Md n m q s k e v) {i : Nat} {x : TChunk} (hx : chOk n x) : Md n m q s (k.set i x) e v :=
 ⟨h.q, h.sn, h.s, by simp [h.kn], fun y hy => (mem_set hy).elim (h.k y) fun e => e ▸ hx, h.en, h.e, h.vn, h.v⟩
theorem Md.setS (h : Md n m q s k e v) {i : Nat} {x : TSnap} (hx : snOk n x) : Md n m q (s.set i x) k e v :=
 ⟨h.q, by simp [h.sn], fun y hy => (mem_set hy).elim (h.s y) fun e => e ▸ hx, h.kn, h.k, h.en, h.e, h.vn, h.v⟩
theorem Md.setE (h : Md n m q s k e v) {i : Nat} {x : TExp} (hx : exOk n x) : Md n m q s k (e.set i x) v :=
 ⟨h.q, h.sn, h.s, h.kn, h.k, by simp [h.en], fun y hy => (mem_set hy).elim (h.e y) fun e => e ▸ hx, h.vn, h.v⟩
theorem Md.setV (h : Md n m q s k e v) {i : Nat} {x : TVol} (hx : g_Vol x) : Md n m q s k e (v.set i x) :=
 ⟨h.q, h.sn, h.s, h.kn, h.k, h.en, h.e, by simp [h.vn], fun y hy => (mem_set hy).elim (h.v y) fun e => e ▸ hx⟩
end
theorem t138 {F n m : Nat} {q : Int} {s : List TSnap} {k : List TChunk} {e : List TExp} {v : List TVol} {it : TItem} {lc : TLoc} (hF : 1000 ≤ F) (h : Md n m q s k e v) (hn : n < 300) (hm : m < 300) (hl : g_Loc lc) (h1 : gI it.Seq) (h2 : gI it.Of) :
    T (M156 F { Seq := q, Snaps := s, Chunks := k, Exps := e, Vols := v } it lc) fun r => Md (n + 1) (m + 1) r.2.1 r.2.2.1 r.2.2.2.1 r.2.2.2.2 v := by
  have hsn := h.sn
  have hkn := h.kn
  have hen := h.en
  have H : Md (n + 1) (m + 1) q s k e v := h.mono (by omega) (by omega)
  have H1 : Md (n + 1) m q s k e v := h.mono (by omega) (by omega)
  unfold M156
  refine .after (T.mono (P := L3 (fun _ => False) (fun j => Md (n + 1) (m + 1) j.1 s j.2.1 j.2.2 v) fun r => Md (n + 1) (m + 1) r.2.1 r.2.2.1 r.2.2.2.1 r.2.2.2.2 v) (.ite (fun _ => ?_) fun _ => .ite (fun _ => ?_) fun _ => ?_) fun j hj => ?_)
  · refine .bind _ (t64 hF (by simp only; omega)) fun y hy => .ite (fun _ => .ret H) fun hc => ?_
    have hc : ¬ (y < 0) := by simpa using hc
    simp only at hy
    refine .ix (by omega) (by simp only; omega) fun x _ hx => .bind _ (t146 hF (h.k x hx).2.2.2 (by omega) hl) fun z hz => .ix (by omega) (by simp only; omega) fun x2 _ hx2 => .brk ?_
    exact H.setK ⟨(h.k x2 hx2).1, (h.k x2 hx2).2.1, (h.k x2 hx2).2.2.1, hz⟩
  · refine .loop (fun i => 0 ≤ i ∧ i ≤ s.length) (fun i => (s.length - i).toNat) (fun _ => True) (by omega) (by omega) (fun i hi => ?_) (fun _ _ => .ret H)
    unfold M156_L3
    refine .ite (fun hc => ?_) fun _ => .brk trivial
    have hc := of_decide_eq_true hc
    simp only at hc
    rw [wr (n := i + 1) (by omega) (by omega)]
    refine .ix (by omega) (by simp only; omega) fun x _ hx => .ite (fun _ => ?_) fun _ => .go (by omega)
    refine .ix (by omega) (by simp only; omega) fun x _ hx => .bind _ (t146 hF (h.s x hx).2.2 (by omega) hl) fun z hz => .ix (by omega) (by simp only; omega) fun x2 _ hx2 => .ret ?_
    exact H.setS (x := { x2 with Locs := z }) ⟨(h.s x2 hx2).1, (h.s x2 hx2).2.1, hz⟩
  · refine T.scan (by simp only; omega) (by simp only; omega) (fun _ => rfl) (fun y _ => .brk trivial) fun r hr => ?_
    simp only at hr
    have rest : T ((slc e 0 r).bind fun x441 => (app ([] : List TExp) x441).bind fun z443 => (app z443 ([({ Seq := it.Seq, Of := it.Of, Locs := ([lc] : List TLoc) } : TExp)] : List TExp)).bind fun z451 => (slc e r (e).length).bind fun x459 => (app z451 x459).bind fun z461 => after (if (decide (q ≤ it.Seq)) = true then (some (.brk (decide (it.Seq < 4611686018427387904)))) else some (.brk false) : Option (Lp (Bool) (Lp (Int × (List TChunk) × (List TExp)) (Bool × Int × (List TSnap) × (List TChunk) × (List TExp))))) fun j471 => after (if j471 = true then (some (.brk (IntKind.wrap .i64 (it.Seq + 1)))) else some (.brk q) : Option (Lp (Int) (Lp (Int × (List TChunk) × (List TExp)) (Bool × Int × (List TSnap) × (List TChunk) × (List TExp))))) fun j476 => some (.brk (j476, k, z461)))
        (L3 (fun _ => False) (fun j => Md (n + 1) (m + 1) j.1 s j.2.1 j.2.2 v) fun r => Md (n + 1) (m + 1) r.2.1 r.2.2.1 r.2.2.2.1 r.2.2.2.2 v) := by
      refine .ins (by omega) (by omega) fun z z1 z2 => ?_
      have fin : ∀ q' : Int, gI q' → Md (n + 1) (m + 1) q' s k z v := fun q' hq => ⟨hq, H.sn, H.s, H.kn, H.k, by omega, fun x hx => by
        rcases z2 x hx with h3 | rfl
        · exact H.e x h3
        · exact ⟨h1, h2, by simp, fun y hy => by rw [List.mem_singleton] at hy; exact hy ▸ hl⟩, H.vn, H.v⟩
      have fin2 : ∀ b : Bool, T (after (if b = true then (some (.brk (IntKind.wrap .i64 (it.Seq + 1)))) else some (.brk q) : Option (Lp (Int) (Lp (Int × (List TChunk) × (List TExp)) (Bool × Int × (List TSnap) × (List TChunk) × (List TExp))))) fun j476 => some (.brk (j476, k, z)))
          (L3 (fun _ => False) (fun j => Md (n + 1) (m + 1) j.1 s j.2.1 j.2.2 v) fun r => Md (n + 1) (m + 1) r.2.1 r.2.2.1 r.2.2.2.1 r.2.2.2.2 v) := fun b => .after (.ite (fun _ => .brk (.brk (fin _ (gI_wr _)))) fun _ => .brk (.brk (fin _ h.q)))
      exact .after (.ite (fun _ => .brk (fin2 _)) fun _ => .brk (fin2 _))
    refine .after (.ite (fun hc => ?_) fun _ => .brk (T.ite (fun h => by cases h) fun _ => rest))
    have hc := of_decide_eq_true hc
    simp only at hc
    refine .ix (by omega) (by simp only; omega) fun x _ hx => .brk (T.ite (fun _ => ?_) fun _ => rest)
    refine .ix (by omega) (by simp only; omega) fun x _ hx => .bind _ (t146 hF (h.e x hx).2.2 (by omega) hl) fun z hz => .ix (by omega) (by simp only; omega) fun x2 _ hx2 => .ret ?_
    exact H.setE (x := { x2 with Locs := z }) ⟨(h.e x2 hx2).1, (h.e x2 hx2).2.1, hz⟩
  · cases j with
    | go _ => exact hj
    | brk j => exact .some hj
    | ret r => exact hj
theorem t135 {F n : Nat} {k : List TChunk} {x : TChunk} (hF : 1000 ≤ F) (hk : k.length ≤ 390) (h : ∀ y ∈ k, chOk n y) (hx : chOk n x) (hn : n ≤ 300) : T (M153a F k x) fun r => r.length ≤ k.length + 1 ∧ ∀ y ∈ r, chOk n y := by
 unfold M153a
 refine T.scan (by omega) (by omega) (fun _ => rfl) (fun y hy => .bindEq (m60 hF (h y hy).1 hx.1) (.brk trivial)) fun r hr => ?_
 have rest : T ((slc k 0 r).bind fun x104 => (app ([] : List TChunk) x104).bind fun z106 => (app z106 ([x] : List TChunk)).bind fun z114 => (slc k r (k).length).bind fun x122 => (app z114 x122).bind fun z124 => some z124) fun r => r.length ≤ k.length + 1 ∧ ∀ y ∈ r, chOk n y :=
  .ins hr (by omega) fun z z1 z2 => .some ⟨by omega, fun y hy => by
   rcases z2 y hy with h3 | rfl
   ·exact h y h3
   ·exact hx⟩
 refine .after (.ite (fun hc => ?_) fun _ => .brk (T.ite (fun h => by cases h) fun _ => rest))
 have hc := of_decide_eq_true hc
 refine .ix (by omega) (by omega) fun y _ hy => .brk (T.ite (fun _ => ?_) fun _ => rest)
 rw [m54a]
 refine .bindEq (m54 hF (by omega) fun y hy => ⟨Nat.le_trans (h y hy).2.2.2.1 hn, (h y hy).2.1⟩) (.bindEq (m100 (by have := hx.2.1; omega)) (.ix (by omega) (by omega) fun y2 _ hy2 => .ix (by omega) (by simp; omega) fun y3 _ hy3 => .some ⟨by simp, fun w hw => ?_⟩))
 have g2 := h y2 hy2
 have g2' : chOk n { y2 with Staged := true } := g2
 have g3 : chOk n y3 := by
  rcases mem_set hy3 with h4 | rfl
  ·exact h y3 h4
  ·exact g2'
 rcases mem_set hw with h3 | rfl
 ·rcases mem_set h3 with h4 | rfl
  ·exact h w h4
  ·exact g2'
 ·exact ⟨g3.1, hx.2.1, hx.2.2.1, g3.2.2.2⟩
theorem t110 {F : Nat} {c : TChange} (hF : 1000 ≤ F) (h : Chg c) : T (M92 F c) Chg := by
 unfold M92
 have h1 := h.cn
 have h2 := h.it
 refine .bindEq (m52 hF h.man.2.1 fun p hp => (h.man.2.2.1 p hp).2) (.bindEq (m53 (by rw [h.locs]; simp)) (.bindEq (m54 hF (by simp only; omega) fun y hy => ⟨by rw [(h.ch y hy).2.2.2]; simp, (h.ch y hy).2.1⟩) (.app (by simp; omega) (.some ?_))))
 exact ⟨h.seq, h.man, h.locs, h.cn, h.ch, h.sq, h.vol, by simpa using h.it, by simpa using h.iti⟩
open Go.Vm
abbrev R109 := Int × Int × (List TSnap) × (List TChunk) × (List TExp) × (List TVol)
def Po (r : R109) : Prop := r.1 = 0 → Md 264 264 r.2.1 r.2.2.1 r.2.2.2.1 r.2.2.2.2.1 r.2.2.2.2.2
theorem notZ {n : Int} {x : Int × (List TSnap) × (List TChunk) × (List TExp) × (List TVol)} (h : n ≠ 0) : Po (n, x) := fun h0 => absurd h0 h
theorem t109 {F : Nat} {c : TCatalog} {d : TChange} (hF : 1000 ≤ F) (ok : Ok c) (hd : Chg d) : T (M91 F c d) Po := by
  have H := ok.md
  have H2 : Md 264 264 c.Seq c.Snaps c.Chunks c.Exps c.Vols := H.mono (by omega) (by omega)
  have c1 := ok.rg.ch
  have c2 := ok.rg.sn
  have c3 := ok.rg.ex
  have c4 := ok.rg.vo
  have dn := hd.cn
  have di := hd.it
  have gvol : gI d.Vol := hd.vol
  unfold M91
  refine .after (T.mono (P := L3 (fun _ => False) (fun j => Md 264 264 j.1 j.2.1 j.2.2.1 j.2.2.2.1 j.2.2.2.2) Po) (.ite (fun _ => ?_) fun _ => ?_) fun j hj => ?_)
  · have k1 : ∀ b : Bool, T (after (loopM (fun s => M91_L1 F d s.1 s.2) F (b, 0)) fun ⟨r8267, r8268⟩ => if (!r8267) = true then (some (.ret (1, c.Seq, c.Snaps, c.Chunks, c.Exps, c.Vols))) else (M149 F ({ Seq := c.Seq, Snaps := c.Snaps, Chunks := c.Chunks, Exps := c.Exps, Vols := c.Vols } : TCatalog) d.Snap.Man.Name).bind fun y8276 => if (decide (0 ≤ y8276)) = true then (some (.ret (9, c.Seq, c.Snaps, c.Chunks, c.Exps, c.Vols))) else (app c.Snaps ([d.Snap] : List TSnap)).bind fun z8291 => after (loopM (fun s => M91_L3 F d s.1 s.2) F (c.Chunks, 0)) fun ⟨r8375, r8376⟩ => some (.brk (IntKind.wrap .i64 (c.Seq + 1), z8291, r8375, c.Exps, c.Vols)))
        (L3 (fun _ => False) (fun j => Md 264 264 j.1 j.2.1 j.2.2.1 j.2.2.2.1 j.2.2.2.2) Po) := fun b => by
      refine .loop (fun s => 0 ≤ s.2 ∧ s.2 ≤ d.Chunks.length) (fun s => (d.Chunks.length - s.2).toNat) (fun _ => True) (by simp; omega) (by simp) (fun s hs => ?_) (fun s _ => ?_)
      · obtain ⟨b, i⟩ := s
        simp only at hs
        unfold M91_L1
        refine .ite (fun hc => ?_) fun _ => .brk trivial
        have hc := of_decide_eq_true hc
        simp only at hc
        rw [wr (n := i + 1) (by omega) (by omega)]
        refine .after (.ite (fun _ => .ix (by omega) (by omega) fun x _ _ => .ite (fun _ => .ix (by omega) (by omega) fun y _ _ => .brk (.go (by first | omega | (simp only; omega)))) fun _ => .brk (.go (by first | omega | (simp only; omega)))) fun _ => .brk (.go (by first | omega | (simp only; omega))))
      · obtain ⟨b, i⟩ := s
        refine .ite (fun _ => .ret (notZ (by decide))) fun _ => .bindEq (m50f hF (by first | omega | (simp only; omega))) (.ite (fun _ => .ret (notZ (by decide))) fun _ => .app (by simp; omega) ?_)
        refine .loop (fun s => 0 ≤ s.2 ∧ s.2 ≤ d.Chunks.length ∧ (s.1.length : Int) ≤ c.Chunks.length + s.2 ∧ ∀ x ∈ s.1, chOk 200 x) (fun s => (d.Chunks.length - s.2).toNat) (fun s => s.1.length ≤ 360 ∧ ∀ x ∈ s.1, chOk 200 x) (by simp; omega) ⟨by simp, by simp, by simp, H.k⟩ (fun s hs => ?_) (fun s hs => ?_)
        · obtain ⟨q, i⟩ := s
          simp only at hs
          unfold M91_L3
          refine .ite (fun hc => ?_) fun _ => .brk ⟨by first | omega | (simp only; omega), hs.2.2.2⟩
          have hc := of_decide_eq_true hc
          simp only at hc
          rw [wr (n := i + 1) (by omega) (by omega)]
          refine .ix (by omega) (by omega) fun x _ hx => ?_
          have gx := hd.ch x hx
          refine .bind _ (t135 hF (by first | omega | (simp only; omega)) hs.2.2.2 ⟨gx.1, gx.2.1, gx.2.2.1, by rw [gx.2.2.2]; exact ⟨by simp, fun _ h => by simp at h⟩⟩ (by omega)) fun y hy => .go ⟨⟨by first | omega | (simp only; omega), by first | omega | (simp only; omega), ?_, hy.2⟩, by first | omega | (simp only; omega)⟩
          have := hy.1
          simp only at this ⊢
          omega
        · obtain ⟨q, i⟩ := s
          refine .some ?_
          refine ⟨gI_wr _, by simp; omega, fun x hx => ?_, hs.1, fun x hx => (hs.2 x hx).mono (by omega), H2.en, H2.e, H2.vn, H2.v⟩
          rcases List.mem_append.1 hx with h | h
          · exact H2.s x h
          · rw [List.mem_singleton] at h
            subst h
            exact ⟨hd.seq, hd.man, by rw [hd.locs]; exact ⟨by simp, fun _ h => by simp at h⟩⟩
    exact .after (.ite (fun _ => .brk (k1 _)) fun _ => .brk (k1 _))
  · refine .after (T.mono (P := L3 (fun _ => False) (fun j => Md 264 264 j.1 j.2.1 j.2.2.1 j.2.2.2.1 j.2.2.2.2) (L3 (fun _ => False) (fun j => Md 264 264 j.1 j.2.1 j.2.2.1 j.2.2.2.1 j.2.2.2.2) Po)) (.ite (fun _ => ?_) fun _ => ?_) fun j hj => ?_)
    · refine .bind _ (t136 hF H (by omega) (by omega)) fun y hy => .ite (fun _ => .ret (show Po _ from notZ (by decide))) fun _ => .brk (hy.mono (by omega) (by omega))
    · refine .after (T.mono (P := L3 (fun _ => False) (fun j => Md 264 264 j.1 j.2.1 j.2.2.1 j.2.2.2.1 j.2.2.2.2) (L3 (fun _ => False) (fun j => Md 264 264 j.1 j.2.1 j.2.2.1 j.2.2.2.1 j.2.2.2.2) (L3 (fun _ => False) (fun j => Md 264 264 j.1 j.2.1 j.2.2.1 j.2.2.2.1 j.2.2.2.2) Po))) (.ite (fun _ => ?_) fun _ => ?_) fun j hj => ?_)
      · have H137 := t137 (F := F) (c := { Seq := c.Seq, Snaps := c.Snaps, Chunks := c.Chunks, Exps := c.Exps, Vols := c.Vols }) (i := d.Vol) (a := 1) (b := 2)
        refine .after (T.mono (P := L3 (fun _ => False) (fun b => b = true → 0 ≤ d.Vol ∧ d.Vol < c.Vols.length) (fun _ => False)) (.bind _ H137 fun y hy => .ite (fun hc => .ite (fun _ => .brk fun _ => hy hc) fun _ => .brk fun h => by cases h) fun _ => .brk fun h => by cases h) fun j hj => ?_)
        cases j with
        | go _ => exact hj
        | ret _ => exact hj.elim
        | brk b =>
        replace hj : b = true → 0 ≤ d.Vol ∧ d.Vol < c.Vols.length := hj
        refine T.loop (fun s => 0 ≤ s.2 ∧ s.2 ≤ d.Items.length ∧ (s.1 = true → 0 ≤ d.Vol ∧ d.Vol < c.Vols.length)) (fun s => (d.Items.length - s.2).toNat) (fun s => s.1 = true → 0 ≤ d.Vol ∧ d.Vol < c.Vols.length) (by simp; omega) ⟨by simp, by simp, hj⟩ (fun s hs => ?_) (fun s hs => ?_)
        · obtain ⟨b, i⟩ := s
          simp only at hs
          unfold M91_L5
          refine .ite (fun hc => ?_) fun _ => .brk hs.2.2
          have hc := of_decide_eq_true hc
          simp only at hc
          rw [wr (n := i + 1) (by omega) (by omega)]
          have fin : ∀ b' : Bool, (b' = true → 0 ≤ d.Vol ∧ d.Vol < c.Vols.length) → T (some (.go (b', i + 1)) : Option (Lp (Bool × Int) (Lp (Int × List TSnap × List TChunk × List TExp × List TVol) (Lp (Int × List TSnap × List TChunk × List TExp × List TVol) (Lp (Int × List TSnap × List TChunk × List TExp × List TVol) R109)))))
            (L3 (fun s' => (0 ≤ s'.2 ∧ s'.2 ≤ d.Items.length ∧ (s'.1 = true → 0 ≤ d.Vol ∧ d.Vol < c.Vols.length)) ∧ (d.Items.length - s'.2).toNat < (d.Items.length - i).toNat) (fun s => s.1 = true → 0 ≤ d.Vol ∧ d.Vol < c.Vols.length) (L3 (fun _ => False) (fun j => Md 264 264 j.1 j.2.1 j.2.2.1 j.2.2.2.1 j.2.2.2.2) (L3 (fun _ => False) (fun j => Md 264 264 j.1 j.2.1 j.2.2.1 j.2.2.2.1 j.2.2.2.2) (L3 (fun _ => False) (fun j => Md 264 264 j.1 j.2.1 j.2.2.1 j.2.2.2.1 j.2.2.2.2) Po)))) := fun b' hb' => .go ⟨⟨by first | omega | (simp only; omega), by first | omega | (simp only; omega), hb'⟩, by first | omega | (simp only; omega)⟩
          refine .after (.ite (fun hb => ?_) fun _ => .brk (fin _ fun h => by cases h))
          exact .ix (by omega) (by omega) fun x _ _ => .ite (fun _ => .ix (by omega) (by omega) fun y _ _ => .brk (fin _ fun _ => hs.2.2 hb)) fun _ => .brk (fin _ fun h => by cases h)
        · obtain ⟨b, i0⟩ := s
          refine .ite (fun _ => .ret (show Po _ from notZ (by decide))) fun hb => ?_
          have hv := hs (by simpa using hb)
          refine .ix hv.1 hv.2 fun x _ hx => ?_
          have gx := ok.sm.g.2.2.2.2 x hx
          have gx1 : g_Vol { x with State := 2 } := ⟨gx.1, gx.2.1, (by show gI _; simp [gI]), gx.2.2.2⟩
          have gx2 : g_Vol { ({ x with State := 2 } : TVol) with Files := IntKind.wrap .i64 (x.Files + 1) } := ⟨gx.1, gx.2.1, (by show gI _; simp [gI]), gI_wr _⟩
          have HV : Md 200 200 c.Seq c.Snaps c.Chunks c.Exps ((c.Vols.set d.Vol.toNat { x with State := 2 }).set d.Vol.toNat { ({ x with State := 2 } : TVol) with Files := IntKind.wrap .i64 (x.Files + 1) }) := (H.setV gx1).setV gx2
          generalize hV : (c.Vols.set d.Vol.toNat { x with State := 2 }).set d.Vol.toNat { ({ x with State := 2 } : TVol) with Files := IntKind.wrap .i64 (x.Files + 1) } = V at HV
          refine T.loop (fun s => 0 ≤ s.2.2.2.2 ∧ s.2.2.2.2 ≤ d.Items.length ∧ Md (200 + s.2.2.2.2.toNat) (200 + s.2.2.2.2.toNat) s.1 s.2.1 s.2.2.1 s.2.2.2.1 V) (fun s => (d.Items.length - s.2.2.2.2).toNat) (fun s => Md 264 264 s.1 s.2.1 s.2.2.1 s.2.2.2.1 V) (by simp; omega) ⟨by simp, by simp, HV⟩ (fun s hs => ?_) (fun s hs => ?_)
          · obtain ⟨q, s, k, e, i⟩ := s
            simp only at hs
            unfold M91_L7
            refine .ite (fun hc => ?_) fun _ => .brk (hs.2.2.mono (by first | omega | (simp only; omega)) (by first | omega | (simp only; omega)))
            have hc := of_decide_eq_true hc
            simp only at hc
            simp only [hV]
            rw [wr (n := i + 1) (by omega) (by omega)]
            refine .ix (by omega) (by omega) fun x1 _ hx1 => .ix (by omega) (by omega) fun x2 _ hx2 => .ix (by omega) (by omega) fun x3 _ hx3 => ?_
            have d1 := hd.iti x1 hx1
            have d2 := hd.iti x2 hx2
            have d3 := hd.iti x3 hx3
            refine .bind _ (t138 hF hs.2.2 (by omega) (by omega) ⟨gvol, gI_wr _, d2.2.2.1, d3.2.2.2⟩ d1.1 d1.2.1) fun y hy => .ite (fun _ => .ret (show Po _ from notZ (by decide))) fun _ => .go ⟨⟨by first | omega | (simp only; omega), by first | omega | (simp only; omega), ?_⟩, by first | omega | (simp only; omega)⟩
            exact hy.mono (by first | omega | (simp only; omega)) (by first | omega | (simp only; omega))
          · obtain ⟨q, s, k, e, i0⟩ := s
            simp only at hs
            refine T.loop (fun s' => 0 ≤ s'.2.2 ∧ s'.2.2 ≤ d.Items.length ∧ Md 264 264 q s'.1 s'.2.1 e V) (fun s' => (d.Items.length - s'.2.2).toNat) (fun s' => Md 264 264 q s'.1 s'.2.1 e V) (by simp; omega) ⟨by simp, by simp, hs⟩ (fun s' hs2 => ?_) (fun s' hs2 => ?_)
            · obtain ⟨s, k, i⟩ := s'
              simp only at hs2
              unfold M91_L9
              refine .ite (fun hc => ?_) fun _ => .brk hs2.2.2
              have hc := of_decide_eq_true hc
              simp only at hc
              simp only [hV]
              rw [wr (n := i + 1) (by omega) (by omega)]
              refine .ix (by omega) (by omega) fun x1 _ _ => .after (.ite (fun _ => .ix (by omega) (by omega) fun x2 _ _ => .bind _ (t136 hF hs2.2.2 (by omega) (by omega)) fun y hy => .brk (.go ⟨⟨by first | omega | (simp only; omega), by first | omega | (simp only; omega), hy⟩, by first | omega | (simp only; omega)⟩)) fun _ => .brk (.go ⟨⟨by first | omega | (simp only; omega), by first | omega | (simp only; omega), hs2.2.2⟩, by first | omega | (simp only; omega)⟩))
            · obtain ⟨s, k, i1⟩ := s'
              simp only at hs2
              simp only [hV]
              refine .after (T.mono (P := L3 (fun _ => False) (fun k' => Md 264 264 q s k' e V) (fun _ => False)) (.ite (fun _ => ?_) fun _ => .brk hs2) fun j hj2 => ?_)
              · refine T.loop (fun s' => 0 ≤ s'.2 ∧ s'.2 ≤ d.Items.length ∧ Md 264 264 q s s'.1 e V) (fun s' => (d.Items.length - s'.2).toNat) (fun s' => Md 264 264 q s s'.1 e V) (by simp; omega) ⟨by simp, by simp, hs2⟩ (fun s' hs3 => ?_) (fun s' hs3 => .brk hs3)
                obtain ⟨k, i⟩ := s'
                simp only at hs3
                unfold M91_L11
                refine .ite (fun hc => ?_) fun _ => .brk hs3.2.2
                have hc := of_decide_eq_true hc
                simp only at hc
                simp only [hV]
                rw [wr (n := i + 1) (by omega) (by omega)]
                have hk := hs3.2.2.kn
                refine .ix (by omega) (by omega) fun x1 _ _ => .after (.ite (fun _ => .ix (by omega) (by omega) fun x2 _ _ => .bind _ (t64 hF (by first | omega | (simp only; omega))) fun y hy => .after (.ite (fun h0 => ?_) fun _ => .brk (.brk (.go ⟨⟨by first | omega | (simp only; omega), by first | omega | (simp only; omega), hs3.2.2⟩, by first | omega | (simp only; omega)⟩)))) fun _ => .brk (.go ⟨⟨by first | omega | (simp only; omega), by first | omega | (simp only; omega), hs3.2.2⟩, by first | omega | (simp only; omega)⟩))
                have h0 := of_decide_eq_true h0
                simp only at hy
                refine .ix (by omega) (by omega) fun z _ hz => .ix (by omega) (by simp; omega) fun z2 _ hz2 => .brk (.brk (.go ⟨⟨by first | omega | (simp only; omega), by first | omega | (simp only; omega), ?_⟩, by first | omega | (simp only; omega)⟩))
                have gz := hs3.2.2.k z hz
                have gz1 : chOk 264 { z with Staged := false } := gz
                have gz2 : chOk 264 z2 := (mem_set hz2).elim (hs3.2.2.k z2) fun e => e ▸ gz1
                exact (hs3.2.2.setK gz1).setK (x := { z2 with Data := [] }) ⟨gz2.1, by simp, fun _ h => by simp at h, gz2.2.2.2⟩
              · cases j with
                | go _ => exact hj2
                | ret _ => exact hj2.elim
                | brk k' => exact .brk hj2
      · refine .after (T.mono (P := L3 (fun _ => False) (fun j => Md 264 264 c.Seq j.1 j.2.1 j.2.2.1 j.2.2.2) (L3 (fun _ => False) (fun j => Md 264 264 j.1 j.2.1 j.2.2.1 j.2.2.2.1 j.2.2.2.2) (L3 (fun _ => False) (fun j => Md 264 264 j.1 j.2.1 j.2.2.1 j.2.2.2.1 j.2.2.2.2) (L3 (fun _ => False) (fun j => Md 264 264 j.1 j.2.1 j.2.2.1 j.2.2.2.1 j.2.2.2.2) Po)))) (.ite (fun _ => ?_) fun _ => ?_) fun j hj => ?_)
        · refine .bind _ t137 fun y hy => .ite (fun _ => .ret (show Po _ from notZ (by decide))) fun hb => ?_
          have hv := hy (by simpa using hb)
          refine .ix hv.1 hv.2 fun x _ hx => ?_
          have gx := ok.sm.g.2.2.2.2 x hx
          have gx1 : g_Vol { x with State := 3 } := ⟨gx.1, gx.2.1, (by show gI _; simp [gI]), gx.2.2.2⟩
          refine .ix hv.1 (by simp; exact hv.2) fun x2 _ hx2 => ?_
          have gx2 : g_Vol x2 := (mem_set hx2).elim (ok.sm.g.2.2.2.2 x2) fun e => e ▸ gx1
          have gx3 : g_Vol { x2 with Files := 0 } := ⟨gx2.1, gx2.2.1, gx2.2.2.1, (by show gI _; simp [gI])⟩
          have HV : Md 200 200 c.Seq c.Snaps c.Chunks c.Exps ((c.Vols.set d.Vol.toNat { x with State := 3 }).set d.Vol.toNat { x2 with Files := 0 }) := (H.setV gx1).setV gx3
          refine T.loop (fun s => 0 ≤ s.2 ∧ s.2 ≤ c.Chunks.length ∧ (s.1.length : Int) ≤ s.2 ∧ ∀ x ∈ s.1, chOk 200 x) (fun s => (c.Chunks.length - s.2).toNat) (fun s => s.1.length ≤ 360 ∧ ∀ x ∈ s.1, chOk 200 x) (by simp; omega) (by simp) (fun s hs => ?_) (fun s hs => ?_)
          · obtain ⟨q, i⟩ := s
            simp only at hs
            unfold M91_L13
            refine .ite (fun hc => ?_) fun _ => .brk ⟨by first | omega | (simp only; omega), hs.2.2.2⟩
            have hc := of_decide_eq_true hc
            simp only at hc
            rw [wr (n := i + 1) (by omega) (by omega)]
            refine .ix (by omega) (by omega) fun x1 _ hx1 => .bind _ (t139 hF (H.k x1 hx1).2.2.2 (by omega)) fun y hy => ?_
            have put : ∀ b : Bool, T (after (if b = true then ((app q ([{ x1 with Locs := y }] : List TChunk)).bind fun z16059 => some (.brk z16059)) else some (.brk q) : Option (Lp (List TChunk) (Lp (List TChunk × Int) (Lp (List TSnap × List TChunk × List TExp × List TVol) (Lp (Int × List TSnap × List TChunk × List TExp × List TVol) (Lp (Int × List TSnap × List TChunk × List TExp × List TVol) (Lp (Int × List TSnap × List TChunk × List TExp × List TVol) R109))))))) fun j16055 => some (.go (j16055, i + 1)))
                (L3 (fun s' => (0 ≤ s'.2 ∧ s'.2 ≤ c.Chunks.length ∧ (s'.1.length : Int) ≤ s'.2 ∧ ∀ x ∈ s'.1, chOk 200 x) ∧ (c.Chunks.length - s'.2).toNat < (c.Chunks.length - i).toNat) (fun s => s.1.length ≤ 360 ∧ ∀ x ∈ s.1, chOk 200 x) (L3 (fun _ => False) (fun j => Md 264 264 c.Seq j.1 j.2.1 j.2.2.1 j.2.2.2) (L3 (fun _ => False) (fun j => Md 264 264 j.1 j.2.1 j.2.2.1 j.2.2.2.1 j.2.2.2.2) (L3 (fun _ => False) (fun j => Md 264 264 j.1 j.2.1 j.2.2.1 j.2.2.2.1 j.2.2.2.2) (L3 (fun _ => False) (fun j => Md 264 264 j.1 j.2.1 j.2.2.1 j.2.2.2.1 j.2.2.2.2) Po))))) := fun b => by
              refine .after (.ite (fun _ => .app (by simp; omega) (.brk (.go ⟨⟨by first | omega | (simp only; omega), by first | omega | (simp only; omega), by simp; omega, fun w hw => ?_⟩, by first | omega | (simp only; omega)⟩))) fun _ => .brk (.go ⟨⟨by first | omega | (simp only; omega), by first | omega | (simp only; omega), by first | omega | (simp only; omega), hs.2.2.2⟩, by first | omega | (simp only; omega)⟩))
              rcases List.mem_append.1 hw with h | h
              · exact hs.2.2.2 w h
              · rw [List.mem_singleton] at h
                subst h
                exact ⟨(H.k x1 hx1).1, (H.k x1 hx1).2.1, (H.k x1 hx1).2.2.1, hy⟩
            exact .after (.ite (fun _ => .brk (put _)) fun _ => .brk (put _))
          · obtain ⟨k, i0⟩ := s
            simp only at hs
            refine T.loop (fun s => 0 ≤ s.2 ∧ s.2 ≤ c.Snaps.length ∧ s.1.length = c.Snaps.length ∧ ∀ x ∈ s.1, snOk 200 x) (fun s => (c.Snaps.length - s.2).toNat) (fun s => s.1.length ≤ 9 ∧ ∀ x ∈ s.1, snOk 200 x) (by simp; omega) ⟨by simp, by simp, rfl, H.s⟩ (fun s hs2 => ?_) (fun s hs2 => ?_)
            · obtain ⟨q, i⟩ := s
              simp only at hs2
              unfold M91_L15
              refine .ite (fun hc => ?_) fun _ => .brk ⟨by first | omega | (simp only; omega), hs2.2.2.2⟩
              have hc := of_decide_eq_true hc
              simp only at hc
              rw [wr (n := i + 1) (by omega) (by omega)]
              refine .ix (by omega) (by omega) fun x1 _ hx1 => .bind _ (t139 hF (hs2.2.2.2 x1 hx1).2.2 (by omega)) fun y hy => .ix (by omega) (by omega) fun x2 _ hx2 => .go ⟨⟨by first | omega | (simp only; omega), by first | omega | (simp only; omega), by simp; exact hs2.2.2.1, fun w hw => ?_⟩, by first | omega | (simp only; omega)⟩
              rcases mem_set hw with h | rfl
              · exact hs2.2.2.2 w h
              · exact ⟨(hs2.2.2.2 x2 hx2).1, (hs2.2.2.2 x2 hx2).2.1, hy⟩
            · obtain ⟨s, i1⟩ := s
              simp only at hs2
              refine T.loop (fun s => 0 ≤ s.2 ∧ s.2 ≤ c.Exps.length ∧ (s.1.length : Int) ≤ s.2 ∧ ∀ x ∈ s.1, exOk 200 x) (fun s => (c.Exps.length - s.2).toNat) (fun s => s.1.length ≤ 200 ∧ ∀ x ∈ s.1, exOk 200 x) (by simp; omega) (by simp) (fun s hs3 => ?_) (fun s hs3 => ?_)
              · obtain ⟨q, i⟩ := s
                simp only at hs3
                unfold M91_L17
                refine .ite (fun hc => ?_) fun _ => .brk ⟨by first | omega | (simp only; omega), hs3.2.2.2⟩
                have hc := of_decide_eq_true hc
                simp only at hc
                rw [wr (n := i + 1) (by omega) (by omega)]
                refine .ix (by omega) (by omega) fun x1 _ hx1 => .bind _ (t139 hF (H.e x1 hx1).2.2 (by omega)) fun y hy => ?_
                refine .after (.ite (fun _ => .app (by simp; omega) (.brk (.go ⟨⟨by first | omega | (simp only; omega), by first | omega | (simp only; omega), by simp; omega, fun w hw => ?_⟩, by first | omega | (simp only; omega)⟩))) fun _ => .brk (.go ⟨⟨by first | omega | (simp only; omega), by first | omega | (simp only; omega), by first | omega | (simp only; omega), hs3.2.2.2⟩, by first | omega | (simp only; omega)⟩))
                rcases List.mem_append.1 hw with h | h
                · exact hs3.2.2.2 w h
                · rw [List.mem_singleton] at h
                  subst h
                  exact ⟨(H.e x1 hx1).1, (H.e x1 hx1).2.1, hy⟩
              · obtain ⟨e, i2⟩ := s
                simp only at hs3
                exact .brk (Md.mono (n := 200) (m := 200) ⟨H.q, hs2.1, hs2.2, hs.1, hs.2, hs3.1, hs3.2, HV.vn, HV.v⟩ (by omega) (by omega))
        · refine .after (T.mono (P := L3 (fun _ => False) (fun v' => Md 264 264 c.Seq c.Snaps c.Chunks c.Exps v') (L3 (fun _ => False) (fun j => Md 264 264 c.Seq j.1 j.2.1 j.2.2.1 j.2.2.2) (L3 (fun _ => False) (fun j => Md 264 264 j.1 j.2.1 j.2.2.1 j.2.2.2.1 j.2.2.2.2) (L3 (fun _ => False) (fun j => Md 264 264 j.1 j.2.1 j.2.2.1 j.2.2.2.1 j.2.2.2.2) (L3 (fun _ => False) (fun j => Md 264 264 j.1 j.2.1 j.2.2.1 j.2.2.2.1 j.2.2.2.2) Po))))) (.ite (fun _ => ?_) fun _ => .brk H2) fun j hj => ?_)
          · refine .bind _ t137 fun y hy => .ite (fun _ => .ret (show Po _ from notZ (by decide))) fun hb => ?_
            have hv := hy (by simpa using hb)
            refine .ix hv.1 hv.2 fun x _ hx => .ix hv.1 hv.2 fun x1 _ hx1 => ?_
            have gx := ok.sm.g.2.2.2.2 x1 hx1
            have gx1 : g_Vol { x1 with State := 1 } := ⟨gx.1, gx.2.1, (by show gI _; simp [gI]), gx.2.2.2⟩
            refine .ix hv.1 (by simp; exact hv.2) fun x2 _ hx2 => .brk ?_
            have gx2 : g_Vol x2 := (mem_set hx2).elim (ok.sm.g.2.2.2.2 x2) fun e => e ▸ gx1
            exact (H2.setV gx1).setV (x := { x2 with Epoch := IntKind.wrap .i64 (x.Epoch + 1) }) ⟨gx2.1, gI_wr _, gx2.2.2.1, gx2.2.2.2⟩
          · cases j with
            | go _ => exact hj
            | brk j => exact .brk hj
            | ret r => exact hj
        · cases j with
          | go _ => exact hj
          | brk j => exact .brk hj
          | ret r => exact hj
      · cases j with
        | go _ => exact hj
        | brk j => exact .brk hj
        | ret r => exact hj
    · cases j with
      | go _ => exact hj
      | brk j => exact .brk hj
      | ret r => exact hj
  · cases j with
    | go _ => exact hj
    | brk j => exact .some fun _ => hj
    | ret r => exact hj
open Go.Vm
theorem take_step {α : Type} {l : List α} {P : α → Prop} {i : Int} {x : α} (h0 : 0 ≤ i) (hx : l[i.toNat]? = some x) (h : ∀ y ∈ l.take i.toNat, P y) (hP : P x) : ∀ y ∈ l.take (i + 1).toNat, P y := by
 intro y hy
 obtain ⟨hlt, he⟩ := List.getElem?_eq_some_iff.1 hx
 rw [show (i + 1).toNat = i.toNat + 1 from by omega, List.take_succ_eq_append_getElem hlt] at hy
 rcases List.mem_append.1 hy with h1 | h1
 ·exact h y h1
 ·rw [List.mem_singleton, he] at h1
  exact h1 ▸ hP
theorem take_mem {α : Type} {l : List α} {i n : Nat} {x : α} (hx : l[i]? = some x) (hi : i < n) : x ∈ l.take n := by
 refine List.mem_of_getElem? (i := i) ?_
 rw [List.getElem?_take_of_lt hi, hx]
theorem t67 {F : Nat} {c : TCatalog} {d : TChange} (hF : 1000 ≤ F) (h : Sm c) (hg : good c = true) (hd : Chg d) : T (M36 F c d) fun r => r.2 = 0 → Sm r.1 ∧ good r.1 = true := by
  unfold M36
  refine .after (.bindEq (m19 hF h) (.ite (fun hc => ?_) fun _ => ?_))
  · rw [hg] at hc; cases hc
  · have rest : T (if (false : Bool) = true then (some (({ Seq := 0, Snaps := [], Chunks := [], Exps := [], Vols := [] } : TCatalog), 1)) else (M90d F c).bind fun y27 => (M92 F d).bind fun y47 => (M91 F ({ Seq := y27.Seq, Snaps := y27.Snaps, Chunks := y27.Chunks, Exps := y27.Exps, Vols := y27.Vols } : TCatalog) y47).bind fun y49 => if (y49.1 != 0) = true then (some (({ Seq := 0, Snaps := [], Chunks := [], Exps := [], Vols := [] } : TCatalog), y49.1)) else (M89 F ({ Seq := y49.2.1, Snaps := y49.2.2.1, Chunks := y49.2.2.2.1, Exps := y49.2.2.2.2.1, Vols := y49.2.2.2.2.2 } : TCatalog)).bind fun y69 => if (!y69) = true then (some (({ Seq := 0, Snaps := [], Chunks := [], Exps := [], Vols := [] } : TCatalog), 1)) else some (({ Seq := y49.2.1, Snaps := y49.2.2.1, Chunks := y49.2.2.2.1, Exps := y49.2.2.2.2.1, Vols := y49.2.2.2.2.2 } : TCatalog), 0))
        fun r => r.2 = 0 → Sm r.1 ∧ good r.1 = true := by
      refine .ite (fun h => by cases h) fun _ => .bindEq (m14d hF h) (.bind _ (t110 hF hd) fun d' hd' => .bind _ (t109 hF ⟨h, rng hg⟩ hd') fun y hy => .ite (fun h0 => .some fun h1 => ?_) fun h0 => ?_)
      · simp only at h1
        rw [h1] at h0
        cases h0
      · have M := hy (by simpa using h0)
        have S := M.sm (by omega) (by omega)
        refine .bindEq (m19 hF S) (.ite (fun _ => .some fun h => by simp at h) fun hq => .some fun _ => ⟨S, ?_⟩)
        simpa using hq
    refine .ite (fun _ => .brk (T.ite (fun _ => .some fun h => by simp at h) fun h => absurd rfl h)) fun _ => .brk ?_
    cases decide (5 < d.Kind)
    · exact rest
    · exact T.ite (fun _ => .some fun h => by simp at h) fun h => absurd rfl h
def actOk (a : TAct) : Prop := ∀ f ∈ a.Tree, f.Path.size ≤ 100
theorem t27 {F : Nat} {l : List TAct} (hF : 1000 ≤ F) : T (M14 F l) fun b => b = false → ∀ a ∈ l.take 30, actOk a := by
 unfold M14
 refine .ite (fun _ => .some fun h => by cases h) fun hl => ?_
 have hl : l.length ≤ 120 := by simp at hl; omega
 refine .loop (fun i => 0 ≤ i ∧ i ≤ l.length ∧ i ≤ 30 ∧ ∀ a ∈ l.take i.toNat, actOk a) (fun i => (l.length - i).toNat) (fun _ => ∀ a ∈ l.take 30, actOk a) (by omega) (by simp) (fun i hi => ?_) (fun i hi => .some fun _ => hi)
 obtain ⟨i0, i1, i2, i3⟩ := hi
 unfold M14_L0
 refine .after (.ite (fun hc => .brk (T.ite (fun hc2 => ?_) fun hc2 => .brk fun a ha => ?_)) fun hc => .brk (T.ite (fun h => by cases h) fun _ => .brk fun a ha => ?_))
 ·have hc := of_decide_eq_true hc
  have hc2 := of_decide_eq_true hc2
  rw [wr (n := i + 1) (by omega) (by omega)]
  refine .after (.ix (by omega) (by omega) fun x e hx => .ite (fun _ => .brk (T.ite (fun _ => .ret fun h => by cases h) fun h => absurd rfl h)) fun _ => .ix (by omega) (by omega) fun y e2 hy => .brk (T.ite (fun _ => .ret fun h => by cases h) fun ht => ?_))
  have ht : y.Tree.length ≤ 10 := by simp at ht; omega
  refine .loop (fun j => 0 ≤ j ∧ j ≤ y.Tree.length ∧ ∀ f ∈ y.Tree.take j.toNat, f.Path.size ≤ 100) (fun j => (y.Tree.length - j).toNat) (fun _ => actOk y) (by omega) (by simp) (fun j hj => ?_) (fun j hj => .go ⟨⟨by omega, by omega, by omega, take_step i0 e2 i3 hj⟩, by omega⟩)
  obtain ⟨j0, j1, j2⟩ := hj
  have same : ∀ z, l[i.toNat]? = some z → z = y := fun z hz => by rw [e2] at hz; exact (Option.some.inj hz).symm
  unfold M14_L2
  refine .ix (by omega) (by omega) fun z ez _ => ?_
  obtain rfl := same z ez
  refine .ite (fun hc => ?_) fun hc => .brk fun f hf => j2 f ?_
  ·have hc := of_decide_eq_true hc
   rw [wr (n := j + 1) (by omega) (by omega)]
   refine .after (.ix (by omega) (by omega) fun z2 ez2 _ => ?_)
   obtain rfl := same z2 ez2
   refine .ix (by omega) (by omega) fun f ef hf => .ite (fun _ => .brk (T.ite (fun _ => .ret (show (_ : Bool) = false → _ from fun h => by cases h)) fun h => absurd rfl h)) fun _ => .ix (by omega) (by omega) fun z3 ez3 _ => ?_
   obtain rfl := same z3 ez3
   refine .ix (by omega) (by omega) fun f ef hf => .brk (T.ite (fun _ => .ret (show (_ : Bool) = false → _ from fun h => by cases h)) fun hp => .go ⟨⟨by omega, by omega, take_step j0 ef j2 ?_⟩, by omega⟩)
   simp at hp
   omega
  ·have hc : ¬ (j < z.Tree.length) := by simpa using hc
   rw [List.take_of_length_le (by omega)]
   exact hf
 ·have hc2 : ¬ (i < 30) := by simpa using hc2
  have : i.toNat = 30 := by omega
  rw [this] at i3
  exact i3 a ha
 ·have hc : ¬ (i < l.length) := by simpa using hc
  refine i3 a ?_
  rw [List.take_of_length_le (by omega)]
  exact List.mem_of_mem_take ha
theorem and1 (x : Int) (hx : gI x) : bitsV .and .i64 x 1 = 0 ∨ bitsV .and .i64 x 1 = 1 := by
 have e : bitsV .and .i64 x 1 = IntKind.wrap .i64 ((BitVec.ofInt 64 x &&& BitVec.ofInt 64 1).toNat : Int) := rfl
 have e1 : (BitVec.ofInt 64 1).toNat = 1 := by decide
 rw [e, BitVec.toNat_and, e1, Nat.and_one_is_mod]
 rcases Nat.mod_two_eq_zero_or_one (BitVec.ofInt 64 x).toNat with h | h <;> rw [h]
 ·exact .inl rfl
 ·exact .inr rfl
theorem t29 {F : Nat} {l : List Int} (hF : 1000 ≤ F) (gl : gL gI l) : T (M16 F l) fun r => inR r.length 1 8 = true ∧ r.all poolB = true ∧ gL gI r := by
 unfold M16
 refine .loop (fun s => 0 ≤ s.2 ∧ s.2 ≤ l.length ∧ s.2 ≤ 8 ∧ (s.1.length : Int) = s.2 ∧ ∀ x ∈ s.1, x = 0 ∨ x = 1) (fun s => (8 - s.2).toNat) (fun s => s.1.length ≤ 8 ∧ ∀ x ∈ s.1, x = 0 ∨ x = 1) (by simp; omega) (by simp) (fun s hs => ?_) (fun s hs => ?_)
 ·obtain ⟨q, i⟩ := s
  simp only at hs
  unfold M16_L0
  refine .after (.ite (fun hc => .brk (T.ite (fun hc2 => ?_) fun hc2 => .brk ⟨by first | omega | (simp only; omega), hs.2.2.2.2⟩)) fun hc => .brk (T.ite (fun h => by cases h) fun _ => .brk ⟨by first | omega | (simp only; omega), hs.2.2.2.2⟩))
  have hc := of_decide_eq_true hc
  have hc2 := of_decide_eq_true hc2
  simp only at hc hc2
  rw [wr (n := i + 1) (by omega) (by omega)]
  refine .ix (by omega) (by omega) fun x _ hx => .app (by simp; omega) (.go ⟨⟨by first | omega | (simp only; omega), by first | omega | (simp only; omega), by first | omega | (simp only; omega), by simp; omega, fun y hy => ?_⟩, by first | omega | (simp only; omega)⟩)
  rcases List.mem_append.1 hy with h | h
  ·exact hs.2.2.2.2 y h
  ·rw [List.mem_singleton] at h
   exact h ▸ and1 x (gl x hx)
 ·obtain ⟨q, i⟩ := s
  simp only at hs
  have fin : ∀ r : List Int, 0 < r.length → r.length ≤ 8 → (∀ x ∈ r, x = 0 ∨ x = 1) → inR r.length 1 8 = true ∧ r.all poolB = true ∧ gL gI r := fun r h1 h2 h3 => by
   refine ⟨by unfold inR; simp; omega, ?_, fun x hx => ?_⟩
   ·rw [List.all_eq_true]
    intro x hx
    rcases h3 x hx with rfl | rfl <;> rfl
   ·rcases h3 x hx with rfl | rfl <;> simp [gI]
  refine .after (.ite (fun _ => .brk (.some (fin _ (by simp) (by simp) (by simp)))) fun hc => .brk (.some (fin _ ?_ hs.1 hs.2)))
  have : ¬ ((q.length : Int) = 0) := by simpa using hc
  omega
theorem t28 {F : Nat} {q : List Int} {l : List TAct} (hF : 1000 ≤ F) (h1 : inR q.length 1 8 = true) (h2 : q.all poolB = true) (h3 : gL gI q) (gl : gL g_Act l) (ho : ∀ a ∈ l.take 30, actOk a) : T (M15 F q l) fun c => Sm c ∧ good c = true := by
 have h8 : q.length ≤ 8 := by unfold inR at h1; simp at h1; omega
 unfold M15
 refine .bindEq (m32 hF (by omega)) ?_
 refine .loop (fun s => 0 ≤ s.2 ∧ s.2 ≤ 30 ∧ Sm s.1 ∧ good s.1 = true) (fun s => (30 - s.2).toNat) (fun s => Sm s.1 ∧ good s.1 = true) (by simp; omega) ⟨by simp, by simp, newC_sm h8 h3, newC_good h1 h2⟩ (fun s hs => ?_) (fun s hs => .some hs)
 obtain ⟨c, i⟩ := s
 simp only at hs
 obtain ⟨s1, s2, s3, s4⟩ := hs
 unfold M15_L0
 refine .after (.ite (fun hc => .brk (T.ite (fun hc2 => ?_) fun hc2 => .brk ⟨s3, s4⟩)) fun hc => .brk (T.ite (fun h => by cases h) fun _ => .brk ⟨s3, s4⟩))
 have hc := of_decide_eq_true hc
 have hc2 := of_decide_eq_true hc2
 simp only at hc hc2
 rw [wr (n := i + 1) (by omega) (by omega)]
 have go : ∀ c' : TCatalog, Sm c' → good c' = true → T (some (.go (c', i + 1)) : Option (Lp (TCatalog × Int) TCatalog)) (L3 (fun s' => (0 ≤ s'.2 ∧ s'.2 ≤ 30 ∧ Sm s'.1 ∧ good s'.1 = true) ∧ (30 - s'.2).toNat < (30 - i).toNat) (fun s => Sm s.1 ∧ good s.1 = true) (fun c => Sm c ∧ good c = true)) := fun c' h5 h6 => .go ⟨⟨by first | omega | (simp only; omega), by first | omega | (simp only; omega), h5, h6⟩, by first | omega | (simp only; omega)⟩
 refine .ix (by omega) (by omega) fun a ea ha => .bind _ (t66 hF ⟨s3, rng s4⟩ fun f hf => ⟨ho a (take_mem ea (by omega)) f hf, ((gl a ha).2.2.2.1 f hf).2⟩) fun y hy => .after (.ite (fun _ => .bind _ (t67 hF s3 s4 hy) fun z hz => .after (.ite (fun h0 => ?_) fun _ => .brk (.brk (go _ s3 s4)))) fun _ => .brk (go _ s3 s4))
 have := hz (by simpa using h0)
 exact .brk (.brk (go _ this.1 this.2))
open Go.Vm
def lackL (c : TCatalog) (p : Int) : List TItem := if 0 ≤ p ∧ p ≤ 1 then lacks c p else []
theorem lackL_len {c : TCatalog} {p : Int} (h : Sm c) : (lackL c p).length ≤ 900 := by
 unfold lackL
 split
 ·exact Nat.le_trans (allL_len h) (by omega)
 ·simp
theorem lackL_mem {c : TCatalog} {p : Int} {z : TItem} (hz : z ∈ lackL c p) (hk : z.Kind = 1) : ∃ x ∈ c.Chunks, z = it1 x ∧ usedB c x.Id = true ∧ x.Locs.any (inP c p) = false := by
 unfold lackL at hz
 split at hz
 ·unfold lacks allL at hz
  rcases List.mem_append.1 hz with hz | hz
  ·rcases List.mem_append.1 hz with hz | hz
   ·obtain ⟨x, hx, rfl⟩ := List.mem_map.1 hz
    obtain ⟨h1, h2⟩ := List.mem_filter.1 hx
    unfold laB at h2
    simp only [Bool.and_eq_true, Bool.not_eq_true'] at h2
    exact ⟨x, h1, rfl, h2.1, h2.2.1⟩
   ·obtain ⟨x, -, rfl⟩ := List.mem_map.1 hz
    simp [it2] at hk
  ·obtain ⟨x, -, rfl⟩ := List.mem_map.1 hz
   simp [it3] at hk
 ·simp at hz
theorem lived_L2 {F : Nat} {c : TCatalog} {p : Int} (hF : 1000 ≤ F) (h : Sm c) (hg : good c = true) : loopM (fun s : Int => M3_L2 F c p (lackL c p) s) F 0 = some (.brk ((lackL c p).length : Int)) := by
 have hch := h.ch
 have hvo := h.vo
 have hl := lackL_len (p := p) h
 refine go_loop (s0 := (0 : Int)) (n := (lackL c p).length) (F := F) (fun k : Nat => (k : Int)) (by omega) rfl (fun k hk => ?_) ?_
 ·have hz : (lackL c p)[k]? = some (lackL c p)[k] := List.getElem?_eq_getElem hk
  have hm := List.getElem_mem hk
  generalize (lackL c p)[k] = z at hz hm
  unfold M3_L2
  rw [if_pos (by simpa using hk), wr1 (by omega)]
  simp only [ix_nat, hz, Option.bind_some]
  by_cases hk1 : z.Kind = 1
  ·obtain ⟨x, hx, rfl, hu, hi⟩ := lackL_mem hm hk1
   obtain ⟨i, hil, hix⟩ := List.getElem_of_mem hx
   have hxi : c.Chunks[i]? = some x := by rw [List.getElem?_eq_getElem hil, hix]
   have e1 : (it1 x).Id = x.Id := rfl
   have e2 : ((it1 x).Kind != 1) = false := rfl
   rw [e1, e2, m48 hF (by omega), chunk_at h hg hxi]
   have n1 : decide ((i : Int) < 0) = false := by simp
   have n2 : decide ((c.Chunks.length : Int) ≤ (i : Int)) = false := by simp; omega
   simp only [Bool.false_eq_true, if_false, Option.bind_some, n1, n2, ix_nat, hxi]
   rw [m46 hF (by omega : c.Vols.length < 1000) (h.cl x hx).1, m44 hF h, hi, hu]
   rfl
  ·have e2 : (z.Kind != 1) = true := by simp [hk1]
   rw [e2]
   rfl
 ·unfold M3_L2
  simp
theorem lived_L0 {F : Nat} {c : TCatalog} (hF : 1000 ≤ F) (h : Sm c) (hg : good c = true) : loopM (fun s : Int => M3_L0 F c s) F (-1) = some (.brk 3) := by
 refine go_loop (s0 := (-1 : Int)) (n := 4) (F := F) (fun k : Nat => (k : Int) - 1) (by omega) rfl (fun k hk => ?_) ?_
 ·unfold M3_L0
  rw [if_pos (by simp; omega)]
  have e1 : IntKind.wrap .i64 ((k : Int) - 1 + 1) = ((k + 1 : Nat) : Int) - 1 := by rw [wr (by omega) (by omega)]; omega
  rw [m36 hF h, m41 hF h, hg, e1]
  have e2 : (if true = true ∧ 0 ≤ ((k : Int) - 1) ∧ ((k : Int) - 1) ≤ 1 then lacks c ((k : Int) - 1) else []) = lackL c ((k : Int) - 1) := by unfold lackL; simp
  have e3 : (if 0 ≤ ((k : Int) - 1) ∧ ((k : Int) - 1) ≤ 1 then lacks c ((k : Int) - 1) else []) = lackL c ((k : Int) - 1) := rfl
  rw [e2, e3]
  simp only [Option.bind_some]
  rw [m40 hF (lackL_len h)]
  simp only [Option.bind_some, Bool.not_true, Bool.false_eq_true, if_false]
  rw [lived_L2 hF h hg]
  rfl
 ·unfold M3_L0
  rfl
def movL (c : TCatalog) (v : Int) : List TItem := if 0 ≤ v ∧ v < c.Vols.length then allL c (movB c v ((c.Vols[v.toNat]?).elim 0 (·.Pool))) else []
theorem lived_L4 {F : Nat} {c : TCatalog} (hF : 1000 ≤ F) (h : Sm c) (hg : good c = true) : loopM (fun s : Int => M3_L4 F c s) F (-1) = some (.brk ((c.Vols.length : Int) + 1)) := by
 have hvo := h.vo
 have := go_loop (body := fun s : Int => M3_L4 F c s) (s0 := (-1 : Int)) (n := c.Vols.length + 2) (F := F) (fun k : Nat => (k : Int) - 1) (by omega) rfl (fun k hk => by
  unfold M3_L4
  rw [if_pos (by simp; omega)]
  have e1 : IntKind.wrap .i64 ((k : Int) - 1 + 1) = ((k + 1 : Nat) : Int) - 1 := by rw [wr (by omega) (by omega)]; omega
  generalize hv : (k : Int) - 1 = v at e1
  have e2 : (if true = true ∧ 0 ≤ v ∧ v < (c.Vols.length : Int) then allL c (movB c v ((c.Vols[v.toNat]?).elim 0 (·.Pool))) else []) = movL c v := by unfold movL; simp
  have e3 : (if 0 ≤ v ∧ v < (c.Vols.length : Int) then allL c (movB c v ((c.Vols[v.toNat]?).elim 0 (·.Pool))) else []) = movL c v := rfl
  have lm : (movL c v).length ≤ (onL c v).length := by
   unfold movL
   split
   ·exact Nat.le_trans mov_live live_on
   ·simp
  have lo := onL_len (v := v) h
  rw [m37 hF h, m38 hF h, m42 hF h hg, m43 hF h hg, hg, e1, e2, e3]
  simp only [Option.bind_some, if_true]
  rw [m40 hF (by omega), m40 hF (by omega)]
  have n1 : decide (((onL c v).length : Int) < ((movL c v).length : Int)) = false := by simp; omega
  simp only [Option.bind_some, Bool.not_true, Bool.false_eq_true, if_false, n1, after_brk]) (by
  unfold M3_L4
  rw [if_neg (by simp; omega)])
 rw [this]
 have e : (((c.Vols.length + 2 : Nat) : Int) - 1) = (c.Vols.length : Int) + 1 := by omega
 rw [e]
theorem stage_lived {q : List Int} {l : List TAct} (gq : gL gI q) (gl : gL g_Act l) : M3 1000 q l = some true := by
 have hF : 1000 ≤ 1000 := Nat.le_refl _
 have key : T (M3 1000 q l) fun b => b = true := by
  unfold M3
  refine .after (.ite (fun _ => .brk (T.ite (fun _ => .some rfl) fun h => absurd rfl h)) fun _ => .bind _ (t27 hF) fun b hb => .brk (T.ite (fun _ => .some rfl) fun hb0 => ?_))
  have ho := hb (by simpa using hb0)
  refine .bind _ (t29 hF gq) fun q hq => .bind _ (t28 hF hq.1 hq.2.1 hq.2.2 gl ho) fun c hc => ?_
  obtain ⟨h, hg⟩ := hc
  refine .of (a := true) ?_ rfl
  rw [lived_L0 hF h hg]
  simp only [after_brk]
  rw [lived_L4 hF h hg]
  simp only [after_brk, m39, Option.bind_some]
 obtain ⟨b, hb, rfl⟩ := key
 exact hb
theorem stage_lived2 {q : List Int} {l : List TAct} (gq : gL gI q) (gl : gL g_Act l) : M3 1000 q l = some true := stage_lived gq gl
end Go.Proofs.YtoomgangpjcaoaaGreat
