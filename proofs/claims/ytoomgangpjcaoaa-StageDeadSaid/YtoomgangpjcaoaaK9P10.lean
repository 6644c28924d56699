import Derived.Test.YtoomgangpjcaoaaK9P9
import Derived.Test.YtoomgangpjcaoaaK9P4
import Derived.Test.YtoomgangpjcaoaaK9P5
import Derived.Test.YtoomgangpjcaoaaK9P7
import Derived.Test.YtoomgangpjcaoaaK9P6
set_option linter.unusedSimpArgs false
set_option linter.unusedVariables false
namespace Go.Vm
section
variable {α β ρ : Type} {Q : β → Prop}
theorem T.ins {l : List α} {r : Int} {y : α} {k : List α → Option β} (h : 0 ≤ r ∧ r ≤ l.length) (hl : l.length ≤ 1000000) (hk : ∀ z : List α, z.length = l.length + 1 → (∀ x ∈ z, x ∈ l ∨ x = y) → T (k z) Q) :
    T ((Go.Vm.slc l 0 r).bind fun x => (Go.Vm.app ([] : List α) x).bind fun z => (Go.Vm.app z ([y] : List α)).bind fun z2 => (Go.Vm.slc l r l.length).bind fun x2 => (Go.Vm.app z2 x2).bind k) Q := by
  refine .slc (by omega) (.app (by simp; omega) (.app (by simp; omega) (.slc (by omega) (.app (by simp; omega) (hk _ (by simp; omega) fun x hx => ?_)))))
  simp only [List.mem_append, List.mem_singleton] at hx
  rcases hx with ((h | h) | h) | h
  · simp at h
  · exact .inl (List.mem_of_mem_take (List.mem_of_mem_drop h))
  · exact .inr h
  · exact .inl (List.mem_of_mem_take (List.mem_of_mem_drop h))
theorem T.scan {Q : ρ → Prop} {l : List α} {F : Nat} {body : Int → Option (Lp Int ρ)} {g : α → Option (Lp Bool (Lp Int ρ))} {k : Int → Option ρ} (hF : l.length < F) (hl : l.length < 1000000)
    (hb : ∀ i, body i = Go.Vm.after (if decide (i < (l.length : Int)) = true then (Go.Vm.ix l i).bind g else Option.some (.brk false)) fun j => if j = true then Option.some (.go (IntKind.wrap .i64 (i + 1))) else Option.some (.brk i))
    (hg : ∀ x ∈ l, T (g x) (L3 (fun _ => False) (fun _ => True) (fun _ => False))) (hk : ∀ r : Int, 0 ≤ r ∧ r ≤ l.length → T (k r) Q) : T (Go.Vm.after (loopM body F 0) k) Q := by
  refine .loop (fun i => 0 ≤ i ∧ i ≤ l.length) (fun i => (l.length - i).toNat) (fun i => 0 ≤ i ∧ i ≤ l.length) (by omega) (by omega) (fun i hi => ?_) (fun i hi => hk i hi)
  rw [hb]
  refine .after (.ite (fun hc => ?_) fun hc => .brk ?_)
  · have hc := of_decide_eq_true hc
    refine .ix (by omega) (by omega) fun x _ hx => (hg x hx).mono fun a ha => ?_
    cases a with
    | go s => exact ha
    | ret s => exact ha.elim
    | brk s =>
      refine T.ite (fun _ => .go ?_) fun _ => .brk hi
      rw [wr (by omega) (by omega)]
      omega
  · exact T.ite (fun h => by cases h) fun _ => .brk hi
end
end Go.Vm
namespace Go.Proofs.Ytoomgangpjcaoaa
open Go.Vm
def fOk (f : TFile) : Prop := f.Path.size ≤ 100 ∧ gL gB f.Data
def fSm (f : TFile) : Prop := fOk f ∧ f.Data.length ≤ 200
theorem t129 {F : Nat} {l : List TFile} (hF : 1000 ≤ F) : T (M129 F l) fun b => b = false → l.length ≤ 6 ∧ ∀ x ∈ l, x.Data.length ≤ 200 := by
 unfold M129
 refine .ite (fun hc => .some fun h => by cases h) fun hc => ?_
 have hc : l.length ≤ 6 := by simp at hc; omega
 rw [any_loop (l := l) (fun x => decide (200 < (x.Data.length : Int))) true (by omega) (fun i x hx _ hi => by
  unfold M129_L0
  rw [wr1 (by omega)]
  simp only [ix_nat, hx, Option.bind_some, Int.ofNat_lt, hi, decide_true, if_true]
  split <;> rfl) (by unfold M129_L0; simp)]
 cases h : l.any fun x => decide (200 < (x.Data.length : Int))
 ·refine .some fun _ => ⟨hc, fun x hx => ?_⟩
  have := List.any_eq_false.1 h x hx
  simp at this
  omega
 ·exact .some fun h => by cases h
theorem t106 {F : Nat} {l : List TFile} (hF : 1000 ≤ F) (ho : ∀ f ∈ l, fOk f) : T (M106 F l) fun r => r.2 = 0 → r.1.length ≤ 6 ∧ ∀ f ∈ r.1, fSm f := by
  unfold M106
  refine .bind _ (t129 hF) fun b hb => .ite (fun _ => .some fun h => by simp at h) fun hc => ?_
  obtain ⟨hn, hd⟩ := hb (by simpa using hc)
  refine .loop (fun i => 0 ≤ i ∧ i ≤ l.length) (fun i => (l.length - i).toNat) (fun _ => True) (by omega) (by omega) (fun i hi => ?_) (fun i _ => ?_)
  · unfold M106_L0
    refine .ite (fun hc => ?_) fun hc => .brk trivial
    have hc := of_decide_eq_true hc
    refine .ix (by omega) (by omega) fun x _ hx => .bindEq (m104 hF (ho x hx).1) (.ite (fun _ => .ret fun h => by simp at h) fun _ => .go ?_)
    rw [wr (by omega) (by omega)]
    omega
  · refine .loop (fun s => 0 ≤ s.2 ∧ s.2 ≤ l.length ∧ (s.1.length : Int) = s.2 ∧ ∀ f ∈ s.1, fSm f) (fun s => (l.length - s.2).toNat) (fun s => s.1.length ≤ 6 ∧ ∀ f ∈ s.1, fSm f) (by simp; omega) (by simp) (fun s hs => ?_) (fun s hs => .some fun _ => hs)
    obtain ⟨q, i⟩ := s
    simp only at hs
    unfold M106_L2
    refine .ite (fun hc => ?_) fun hc => .brk ⟨by simp only; omega, hs.2.2.2⟩
    have hc := of_decide_eq_true hc
    simp only at hc
    refine .loop (fun j => 0 ≤ j ∧ j ≤ q.length) (fun j => (q.length - j).toNat) (fun j => 0 ≤ j ∧ j ≤ q.length) (by omega) (by omega) (fun j hj => ?_) (fun j hj => ?_)
    · unfold M106_L4
      have fin : j < q.length → 0 ≤ IntKind.wrap .i64 (j + 1) ∧ IntKind.wrap .i64 (j + 1) ≤ q.length ∧ (q.length - IntKind.wrap .i64 (j + 1)).toNat < (q.length - j).toNat := fun h => by
        rw [wr (by omega) (by omega)]; omega
      refine .after (.ite (fun hc2 => ?_) fun hc2 => .brk (T.ite (fun h => by cases h) fun _ => .brk hj))
      have hc2 := of_decide_eq_true hc2
      have := fin hc2
      refine .ix (by omega) (by omega) fun x _ hx => .ix (by omega) (by omega) fun y _ hy => .brk (T.ite (fun _ => .go (by omega)) fun _ => .brk hj)
    · have rest : T (if (false : Bool) = true then some (.ret ([], 9)) else (slc q 0 j).bind fun x494 => (ix l i).bind fun x496 => (ix l i).bind fun x498 => (app ([] : List TFile) x494).bind fun z500 => (M100 F x498.Data).bind fun y506 => (app z500 ([({ Path := x496.Path, Data := y506 } : TFile)] : List TFile)).bind fun z508 => (slc q j (q.length : Int)).bind fun x513 => (app z508 x513).bind fun z515 => some (.go (z515, IntKind.wrap .i64 (i + 1))))
          (L3 (fun s' : List TFile × Int => (0 ≤ s'.2 ∧ s'.2 ≤ l.length ∧ (s'.1.length : Int) = s'.2 ∧ ∀ f ∈ s'.1, fSm f) ∧ (l.length - s'.2).toNat < (l.length - i).toNat) (fun s => s.1.length ≤ 6 ∧ ∀ f ∈ s.1, fSm f) (fun r : List TFile × Int => r.2 = 0 → r.1.length ≤ 6 ∧ ∀ f ∈ r.1, fSm f)) := by
        refine T.ite (fun h => by cases h) fun _ => ?_
        rw [wr (n := i + 1) (by omega) (by omega)]
        refine .slc (by omega) (.ix (by omega) (by omega) fun x _ hx => .ix (by omega) (by omega) fun y _ hy => .app (by simp; omega) (.bindEq (m100 (by have := hd y hy; omega)) (.app (by simp; omega) (.slc (by omega) (.app (by simp; omega) (.go ?_))))))
        refine ⟨⟨by simp only; omega, by simp only; omega, by simp; omega, fun f hf => ?_⟩, by simp only; omega⟩
        simp only [List.mem_append, List.mem_singleton] at hf
        rcases hf with ((h | h) | h) | h
        · simp at h
        · exact hs.2.2.2 f (List.mem_of_mem_take (List.mem_of_mem_drop h))
        · subst h
          exact ⟨⟨(ho x hx).1, (ho y hy).2⟩, hd y hy⟩
        · exact hs.2.2.2 f (List.mem_of_mem_take (List.mem_of_mem_drop h))
      refine .after (.ite (fun hc2 => ?_) fun hc2 => .brk rest)
      have hc2 := of_decide_eq_true hc2
      refine .ix (by omega) (by omega) fun x _ hx => .ix (by omega) (by omega) fun y _ hy => .brk ?_
      cases x.Path.toList == y.Path.toList
      · exact rest
      · exact .ret fun h => by simp at h
theorem t145 {F : Nat} {l : List Int} (hF : 1000 ≤ F) (h0 : 0 < l.length) (hl : l.length ≤ 300) : T (M145 F l) fun k => 0 < k ∧ k ≤ l.length ∧ (8 ≤ k ∨ k = l.length) := by
 unfold M145
 refine .loop (fun s => 0 ≤ s.2 ∧ s.2 ≤ l.length) (fun s => (l.length - s.2).toNat) (fun _ => True) (by simp; omega) (by simp) (fun s hs => ?_) (fun s _ => .some (by omega))
 obtain ⟨h, i⟩ := s
 simp only at hs
 unfold M145_L0
 refine .ite (fun hc => ?_) fun hc => .brk trivial
 have hc := of_decide_eq_true hc
 simp only at hc
 rw [wr (n := i + 1) (by omega) (by omega)]
 have k2 : (8 ≤ i + 1) ∨ ¬ (8 ≤ i + 1) := by omega
 have e64 : (i + 1 == 64) = decide (i + 1 = 64) := rfl
 refine .ix (by omega) (by omega) fun x _ hx => .after (.ite (fun hc2 => ?_) fun hc2 => ?_)
 ·have hc2 := of_decide_eq_true hc2
  refine .ite (fun _ => .brk (T.ite (fun _ => .ret (by omega)) fun h => absurd rfl h)) fun _ => .brk (T.ite (fun _ => .ret (by omega)) fun _ => .go (by simp only; omega))
 ·refine .brk (T.ite (fun h => .ret ?_) fun _ => .go (by simp only; omega))
  have : i + 1 = 64 := by simpa using h
  omega
theorem t131 {F : Nat} {l : List Int} (hF : 1000 ≤ F) (hl : l.length ≤ 200) (gl : gL gB l) : T (M131 F l) fun r => r.length ≤ 25 ∧ ∀ x ∈ r, x.length ≤ 300 ∧ gL gB x := by
 unfold M131
 refine .loop (fun s => s.2.length ≤ l.length ∧ gL gB s.2 ∧ (8 * s.1.length + s.2.length ≤ l.length ∨ (s.2.length = 0 ∧ 8 * s.1.length ≤ l.length + 7)) ∧ ∀ x ∈ s.1, x.length ≤ 300 ∧ gL gB x) (fun s => s.2.length) (fun s => s.1.length ≤ 25 ∧ ∀ x ∈ s.1, x.length ≤ 300 ∧ gL gB x) (by simp; omega) (by simp [gl]) (fun s hs => ?_) (fun s hs => .some hs)
 obtain ⟨q, d⟩ := s
 simp only at hs
 obtain ⟨s1, s2, s3, s4⟩ := hs
 unfold M131_L0
 refine .ite (fun hc => ?_) fun hc => .brk ⟨by simp only; omega, s4⟩
 have hc := of_decide_eq_true hc
 simp only at hc
 refine .bind _ (t145 hF (by simp only; omega) (by simp only; omega)) fun k hk => .slc (by omega) (.bindEq (m100 (by simp; omega)) (.app (by simp; omega) (.slc (by simp only at hk ⊢; omega) (.go ?_))))
 simp only at hk ⊢
 refine ⟨⟨by simp; omega, fun x hx => s2 x (List.mem_of_mem_take (List.mem_of_mem_drop hx)), by simp; omega, fun x hx => ?_⟩, by simp; omega⟩
 rcases List.mem_append.1 hx with h | h
 ·exact s4 x h
 ·rw [List.mem_singleton] at h
  subst h
  exact ⟨by simp; omega, fun y hy => s2 y (List.mem_of_mem_take (List.mem_of_mem_drop hy))⟩
theorem t130 {F : Nat} {l : List TFile} (hF : 1000 ≤ F) (ho : ∀ f ∈ l, fOk f) : T (M130 F l) fun _ => True := by
 unfold M130
 refine .bind _ (t129 hF) fun b hb => .ite (fun _ => .some trivial) fun hc => ?_
 obtain ⟨hn, hd⟩ := hb (by simpa using hc)
 refine .loop (fun i => 0 ≤ i ∧ i ≤ l.length) (fun i => (l.length - i).toNat) (fun _ => True) (by omega) (by omega) (fun i hi => ?_) (fun i _ => .some trivial)
 unfold M130_L0
 refine .ite (fun hc => ?_) fun hc => .brk trivial
 have hc := of_decide_eq_true hc
 rw [wr (n := i + 1) (by omega) (by omega)]
 have fin : ∀ b : Bool, T (if b = true then (some (.ret 1) : Option (Lp Int Int)) else some (.go (i + 1))) (L3 (fun s' => (0 ≤ s' ∧ s' ≤ l.length) ∧ (l.length - s').toNat < (l.length - i).toNat) (fun _ => True) (fun _ => True)) := fun b => T.ite (fun _ => .ret trivial) fun _ => .go (by omega)
 refine .after (.ix (by omega) (by omega) fun x _ hx => .bindEq (m104 hF (ho x hx).1) (.ite (fun _ => .brk (fin _)) fun _ => .ite (fun h => ?_) fun _ => .brk (fin _)))
 have h := of_decide_eq_true h
 rw [wr (by omega) (by omega)]
 exact .ix (by omega) (by omega) fun _ _ _ => .ix (by omega) (by omega) fun _ _ _ => .brk (fin _)
theorem t105 {F : Nat} {l : List Id32} {d : Id32} (hF : 1000 ≤ F) (hl : l.length < 900) (gl : ∀ x ∈ l, gId x) (hd : gId d) :
    T (M105 F l d) fun r => 0 ≤ r.2.1 ∧ r.2.1 ≤ l.length ∧ r.1.length = l.length + (if r.2.2 = true then 1 else 0) ∧ ∀ x ∈ r.1, gId x := by
  unfold M105
  refine T.scan (by omega) (by omega) (fun _ => rfl) (fun x hx => .bindEq (m128 hF (gl x hx) hd) (.brk trivial)) fun r hr => ?_
  have rest : T ((slc l 0 r).bind fun x84 => (app ([] : List Id32) x84).bind fun z86 => (app z86 ([d] : List Id32)).bind fun z92 => (slc l r (l).length).bind fun x98 => (app z92 x98).bind fun z100 => some (z100, r, true))
      fun r => 0 ≤ r.2.1 ∧ r.2.1 ≤ l.length ∧ r.1.length = l.length + (if r.2.2 = true then 1 else 0) ∧ ∀ x ∈ r.1, gId x := by
    refine .ins hr (by omega) fun z h1 h2 => .some ⟨hr.1, hr.2, h1, fun x hx => ?_⟩
    rcases h2 x hx with h | rfl
    · exact gl x h
    · exact hd
  refine .after (.ite (fun hc => ?_) fun _ => .brk (T.ite (fun h => by cases h) fun _ => rest))
  have hc := of_decide_eq_true hc
  refine .ix (by omega) (by omega) fun x _ hx => .brk ?_
  refine T.ite (fun _ => .some ?_) fun _ => rest
  exact ⟨hr.1, hr.2, rfl, gl⟩
open Go.Vm
def manOk (m : TManifest) : Prop := m.Name.size ≤ 100 ∧ m.Parts.length ≤ 10 ∧ (∀ p ∈ m.Parts, p.Path.size ≤ 100 ∧ p.Ids.length ≤ 40) ∧ g_Manifest m
def pieces (l : List (List Int)) (n : Nat) : Prop := l.length ≤ n ∧ ∀ x ∈ l, x.length ≤ 300 ∧ gL gB x
structure Chg (c : TChange) : Prop where
 seq : gI c.Snap.Seq
 man : manOk c.Snap.Man
 locs : c.Snap.Locs = []
 cn : c.Chunks.length ≤ 160
 ch : ∀ x ∈ c.Chunks, gId x.Id ∧ x.Data.length ≤ 300 ∧ gL gB x.Data ∧ x.Locs = []
 sq : gI c.Seq
 vol : gI c.Vol
 it : c.Items.length ≤ 64
 iti : ∀ x ∈ c.Items, gI x.Seq ∧ gI x.Of ∧ gI x.Off ∧ gI x.Len
theorem man0 : manOk { Name := ByteArray.empty, Parts := [] } := ⟨by decide, by simp, by simp, trivial, fun _ h => by simp at h⟩
theorem t107 {F : Nat} {nm : ByteArray} {fs : List TFile} (hF : 1000 ≤ F) (hn : nm.size ≤ 100) (h6 : fs.length ≤ 6) (ho : ∀ f ∈ fs, fSm f) : T (M107 F nm fs) fun r => manOk r.1 ∧ pieces r.2.1 150 := by
 unfold M107
 refine .bindEq (m104 hF hn) (.ite (fun _ => .some ⟨man0, by simp, by simp⟩) fun _ => .bind _ (t130 hF fun f hf => (ho f hf).1) fun y _ => .ite (fun _ => .some ⟨man0, by simp, by simp⟩) fun _ => ?_)
 refine .loop (fun s => 0 ≤ s.2.2.2 ∧ s.2.2.2 ≤ fs.length ∧ (s.1.length : Int) = s.2.2.2 ∧ (∀ p ∈ s.1, (p.Path.size ≤ 100 ∧ p.Ids.length ≤ 40) ∧ g_Part p) ∧ (s.2.1.length : Int) ≤ 25 * s.2.2.2 ∧ (∀ x ∈ s.2.1, x.length ≤ 300 ∧ gL gB x) ∧ s.2.2.1.length = s.2.1.length ∧ ∀ x ∈ s.2.2.1, gId x)
  (fun s => (fs.length - s.2.2.2).toNat) (fun s => (s.1.length ≤ 6 ∧ ∀ p ∈ s.1, (p.Path.size ≤ 100 ∧ p.Ids.length ≤ 40) ∧ g_Part p) ∧ pieces s.2.1 150) (by simp; omega) (by simp) (fun s hs => ?_) (fun s hs => ?_)
 ·obtain ⟨ps, ds, ids, i⟩ := s
  simp only at hs
  obtain ⟨s1, s2, s3, s4, s5, s6, s7, s8⟩ := hs
  unfold M107_L0
  refine .ite (fun hc => ?_) fun hc => .brk ⟨⟨by simp only; omega, s4⟩, by simp only; omega, s6⟩
  have hc := of_decide_eq_true hc
  simp only at hc
  rw [wr (n := i + 1) (by omega) (by omega)]
  refine .ix (by omega) (by omega) fun x e hx => .ix (by omega) (by omega) fun x2 e2 hx2 => .ix (by omega) (by omega) fun x3 e3 hx3 => .bind _ (t131 hF (ho x3 hx3).2 (ho x3 hx3).1.2) fun y hy => ?_
  obtain ⟨y1, y2⟩ := hy
  refine .loop (fun s => 0 ≤ s.2.2.2 ∧ s.2.2.2 ≤ y.length ∧ (s.1.length : Int) = s.2.2.2 ∧ (∀ d ∈ s.1, gId d) ∧ (s.2.1.length : Int) ≤ 25 * i + s.2.2.2 ∧ (∀ x ∈ s.2.1, x.length ≤ 300 ∧ gL gB x) ∧ s.2.2.1.length = s.2.1.length ∧ ∀ x ∈ s.2.2.1, gId x)
   (fun s => (y.length - s.2.2.2).toNat) (fun s => (s.1.length ≤ 25 ∧ (∀ d ∈ s.1, gId d)) ∧ (s.2.1.length : Int) ≤ 25 * i + 25 ∧ (∀ x ∈ s.2.1, x.length ≤ 300 ∧ gL gB x) ∧ s.2.2.1.length = s.2.1.length ∧ ∀ x ∈ s.2.2.1, gId x) (by simp; omega) ⟨by simp, by simp, by simp, by simp, by simp only; omega, s6, s7, s8⟩ (fun s hs => ?_) (fun s hs => ?_)
  ·obtain ⟨q, ds, ids, j⟩ := s
   simp only at hs
   obtain ⟨r1, r2, r3, r4, r5, r6, r7, r8⟩ := hs
   unfold M107_L2
   refine .ite (fun hc2 => ?_) fun hc2 => .brk ⟨⟨by simp only; omega, r4⟩, by simp only; omega, r6, r7, r8⟩
   have hc2 := of_decide_eq_true hc2
   simp only at hc2
   rw [wr (n := j + 1) (by omega) (by omega)]
   refine .ix (by omega) (by omega) fun z _ hz => .bind _ (t108 hF (y2 z hz).1) fun d hd => .app (by simp; omega) (.bind _ (t105 hF (by simp only; omega) r8 hd) fun r hr => ?_)
   obtain ⟨q1, q2, q3, q4⟩ := hr
   simp only at q2 q3
   have hq : ∀ a ∈ q ++ [d], gId a := fun a ha => by
    rcases List.mem_append.1 ha with h | h
    ·exact r4 a h
    ·rw [List.mem_singleton] at h; exact h ▸ hd
   refine .after (.ite (fun hi => ?_) fun hi => .brk (.go ?_))
   ·rw [if_pos hi] at q3
    refine .slc (by simp only; omega) (.ix (by omega) (by omega) fun z2 _ hz2 => .app (by simp; omega) (.app (by simp; omega) (.slc (by simp only; omega) (.app (by simp; omega) (.brk (.go ?_))))))
    refine ⟨⟨by simp only; omega, by simp only; omega, by simp; omega, hq, by simp; omega, fun a ha => ?_, by simp; omega, q4⟩, by simp only; omega⟩
    simp only [List.mem_append, List.mem_singleton] at ha
    rcases ha with ((h | h) | h) | h
    ·simp at h
    ·exact r6 a (List.mem_of_mem_take (List.mem_of_mem_drop h))
    ·exact h ▸ y2 z2 hz2
    ·exact r6 a (List.mem_of_mem_take (List.mem_of_mem_drop h))
   ·rw [if_neg hi] at q3
    exact ⟨⟨by simp only; omega, by simp only; omega, by simp; omega, hq, by simp only; omega, r6, by simp only; omega, q4⟩, by simp only; omega⟩
  ·obtain ⟨q, ds2, ids2, j⟩ := s
   simp only at hs
   obtain ⟨⟨a1, a2⟩, a3, a4, a5, a6⟩ := hs
   refine .app (by simp; omega) (.go ?_)
   refine ⟨⟨by simp only; omega, by simp only; omega, by simp; omega, fun p hp => ?_, by simp only; omega, a4, a5, a6⟩, by simp only; omega⟩
   rcases List.mem_append.1 hp with h | h
   ·exact s4 p h
   ·rw [List.mem_singleton] at h
    subst h
    have := (ho x2 hx2).2
    exact ⟨⟨(ho x hx).1.1, by simp only; omega⟩, trivial, by simp only [gI]; omega, a2⟩
 ·obtain ⟨ps, ds, ids, i⟩ := s
  exact .some ⟨⟨hn, by have := hs.1.1; simp only at this ⊢; omega, fun p hp => (hs.1.2 p hp).1, trivial, fun p hp => (hs.1.2 p hp).2⟩, hs.2⟩
theorem bstr1 (n : Int) : ∃ b, bstr [IntKind.wrap .u8 n] = some b ∧ b.size = 1 := by
 have h := wrU8 n
 refine ⟨_, by unfold bstr; rw [if_pos (by simp; omega)], ?_⟩
 rfl
structure Ok (c : TCatalog) : Prop where
 sm : Sm c
 rg : Rng c
theorem gI_wr (n : Int) : gI (IntKind.wrap .i64 n) := wrI n
theorem chg0 {k s : Int} {v : Int} (hs : gI s) (hv : gI v) {l : List TItem} (h6 : l.length ≤ 64) (hl : ∀ x ∈ l, gI x.Seq ∧ gI x.Of ∧ gI x.Off ∧ gI x.Len) :
    Chg { Kind := k, Snap := { Seq := 0, Man := { Name := ByteArray.empty, Parts := [] }, Locs := [] }, Chunks := [], Seq := s, Vol := v, Items := l } :=
  ⟨by simp [gI], man0, rfl, by simp, by simp, hs, hv, h6, hl⟩
theorem t66 {F : Nat} {c : TCatalog} {a : TAct} (hF : 1000 ≤ F) (hc : Ok c) (ho : ∀ f ∈ a.Tree, fOk f) : T (M66 F c a) fun r => Chg r.1 := by
  have g0 : gI 0 := by simp [gI]
  have c1 := hc.rg.ch
  have c2 := hc.rg.sn
  have c3 := hc.rg.ex
  have c4 := hc.rg.vo
  have gq := hc.sm.g.1
  unfold M66
  obtain ⟨b, hb, hb1⟩ := bstr1 (IntKind.wrap .u64 (97 + ((IntKind.wrap .u64 a.N).tmod 5)))
  rw [hb]
  have e1 : (ByteArray.mk #[110]).size = 1 := rfl
  have e2 : ((ByteArray.mk #[110]) ++ b).size = 2 := by rw [ByteArray.size_append, e1, hb1]
  have gv : ∀ j : Int, gI j → ∀ (k : Int → Option (TChange × Bool)), (∀ j, gI j → T (k j) fun r => Chg r.1) → T (k j) fun r => Chg r.1 := fun j h k hk => hk j h
  refine .bindEq rfl (.grd (by rw [e1, hb1]; rfl) ?_)
  refine .after (T.mono (P := L3 (fun _ => False) gI (fun _ => False)) (.ite (fun h => ?_) fun _ => .brk g0) fun j hj => ?_)
  · have h := of_decide_eq_true h
    refine .grd ?_ (.brk (gI_wr _))
    rw [wru (by omega)]
    simp
    intro h2
    rw [h2] at h
    simp at h
  cases j with
  | go s => exact hj
  | ret s => exact hj.elim
  | brk v =>
  replace hj : gI v := hj
  refine T.after (T.mono (P := L3 (fun _ => False) (fun _ => True) (fun _ => False)) (.ite (fun _ => .brk trivial) fun _ => .brk trivial) fun j hj2 => ?_)
  cases j with
  | go s => exact hj2
  | ret s => exact hj2.elim
  | brk v2 =>
  refine T.ite (fun _ => ?_) fun _ => ?_
  · refine .bind _ (t106 hF ho) fun y hy => .ite (fun _ => .some (chg0 g0 g0 (by simp) (by simp))) fun h0 => ?_
    obtain ⟨y1, y2⟩ := hy (by simpa using h0)
    refine .bind _ (t107 hF (by omega) y1 y2) fun m hm => ?_
    obtain ⟨m1, m2, m3⟩ := hm
    refine .loop (fun s => 0 ≤ s.2 ∧ s.2 ≤ m.2.1.length ∧ (s.1.length : Int) ≤ s.2 ∧ ∀ x ∈ s.1, gId x.Id ∧ x.Data.length ≤ 300 ∧ gL gB x.Data ∧ x.Locs = []) (fun s => (m.2.1.length - s.2).toNat) (fun s => s.1.length ≤ 160 ∧ ∀ x ∈ s.1, gId x.Id ∧ x.Data.length ≤ 300 ∧ gL gB x.Data ∧ x.Locs = []) (by simp; omega) (by simp) (fun s hs => ?_) (fun s hs => ?_)
    · obtain ⟨q, i⟩ := s
      simp only at hs
      unfold M66_L1
      refine .ite (fun h => ?_) fun _ => .brk ⟨by simp only; omega, hs.2.2.2⟩
      have h := of_decide_eq_true h
      simp only at h
      rw [wr (n := i + 1) (by omega) (by omega)]
      obtain ⟨n, hn, _⟩ := m64 (F := F) (c := c) (d := idZ) hF (by omega)
      refine .ix (by omega) (by omega) fun x _ hx => .bind _ (t108 hF (m3 x hx).1) fun d hd => ?_
      obtain ⟨n, hn, _⟩ := m64 (F := F) (c := c) (d := d) hF (by omega)
      refine .bindEq hn (.after (.ite (fun _ => .ix (by omega) (by omega) fun x2 _ hx2 => .app (by simp; omega) (.brk (.go ?_))) fun _ => .brk (.go ⟨⟨by simp only; omega, by simp only; omega, by simp only; omega, hs.2.2.2⟩, by simp only; omega⟩)))
      refine ⟨⟨by simp only; omega, by simp only; omega, by simp; omega, fun y hy => ?_⟩, by simp only; omega⟩
      rcases List.mem_append.1 hy with h | h
      · exact hs.2.2.2 y h
      · rw [List.mem_singleton] at h
        subst h
        exact ⟨hd, (m3 x2 hx2).1, (m3 x2 hx2).2, rfl⟩
    · obtain ⟨q, i⟩ := s
      exact .some ⟨gq, m1, rfl, hs.1, hs.2, g0, g0, by simp, by simp⟩
  · refine T.after (T.mono (P := L3 (fun _ => False) (fun _ => True) (fun _ => False)) (.ite (fun _ => .brk trivial) fun _ => .brk trivial) fun j hj2 => ?_)
    cases j with
    | go s => exact hj2
    | ret s => exact hj2.elim
    | brk v3 =>
    refine T.ite (fun _ => ?_) fun _ => ?_
    · refine .ite (fun _ => .some (chg0 g0 g0 (by simp) (by simp))) fun h0 => ?_
      have h0 : 0 < c.Snaps.length := by
        have : ¬ ((c.Snaps.length : Int) = 0) := by simpa using h0
        omega
      obtain ⟨k, hk, ek⟩ := idxW a.N h0 (by omega)
      rw [wru (by omega), ek]
      refine .grd (by simp; intro h; rw [h] at h0; simp at h0) (.ix (by omega) (by omega) fun x _ hx => ?_)
      have gx := hc.sm.g.2.1 x hx
      refine .ite (fun _ => .some (chg0 gx.1 g0 (by simp) (by simp))) fun _ => .some (chg0 g0 hj (by simp) fun y hy => ?_)
      rw [List.mem_singleton] at hy
      subst hy
      exact ⟨gq, gx.1, by simp [gI], by simp [gI]⟩
    · refine T.after (T.mono (P := L3 (fun _ => False) (fun _ => True) (fun _ => False)) (.ite (fun _ => .brk trivial) fun _ => .brk trivial) fun j hj2 => ?_)
      cases j with
      | go s => exact hj2
      | ret s => exact hj2.elim
      | brk v4 =>
      refine T.ite (fun _ => ?_) fun _ => .ite (fun _ => .some (chg0 g0 hj (by simp) (by simp))) fun _ => .some (chg0 g0 hj (by simp) (by simp))
      have w1 : IntKind.wrap .i64 ((c.Chunks.length : Int) + (c.Snaps.length : Int)) = (c.Chunks.length : Int) + (c.Snaps.length : Int) := wr (by omega) (by omega)
      have w2 : IntKind.wrap .i64 ((c.Chunks.length : Int) + (c.Snaps.length : Int) + (c.Exps.length : Int)) = (c.Chunks.length : Int) + (c.Snaps.length : Int) + (c.Exps.length : Int) := wr (by omega) (by omega)
      refine .loop (fun s => 0 ≤ s.2.2 ∧ s.2.2 ≤ 420 ∧ s.1.length ≤ 64 ∧ (∀ x ∈ s.1, gI x.Seq ∧ gI x.Of ∧ gI x.Off ∧ gI x.Len) ∧ gI s.2.1) (fun s => (420 - s.2.2).toNat) (fun s => s.1.length ≤ 64 ∧ ∀ x ∈ s.1, gI x.Seq ∧ gI x.Of ∧ gI x.Off ∧ gI x.Len) (by simp; omega) (by simp [gI]) (fun s hs => ?_) (fun s hs => ?_)
      · obtain ⟨q, o, i⟩ := s
        simp only at hs
        obtain ⟨s1, s2, s3, s4, s5⟩ := hs
        unfold M66_L3
        simp only [w1, w2]
        refine .after (.ite (fun h => .brk (T.ite (fun h2 => ?_) fun _ => .brk ⟨s3, s4⟩)) fun _ => .brk (T.ite (fun h => by cases h) fun _ => .brk ⟨s3, s4⟩))
        have h := of_decide_eq_true h
        have h2 := of_decide_eq_true h2
        rw [wr (n := i + 1) (by omega) (by omega)]
        have put : ∀ y : TItem, (gI y.Seq ∧ gI y.Of ∧ gI y.Off ∧ gI y.Len) → T ((app q ([y] : List TItem)).bind fun z1648 => some (.brk (z1648, IntKind.wrap .i64 (o + 20))) : Option (Lp (List TItem × Int) (Lp (List TItem × Int × Int) (TChange × Bool))))
            (L3 (fun _ => False) (fun s => s.1.length ≤ 64 ∧ (∀ x ∈ s.1, gI x.Seq ∧ gI x.Of ∧ gI x.Off ∧ gI x.Len) ∧ gI s.2) (fun _ => False)) := fun y hy => by
          refine .app (by simp; omega) (.brk ⟨by simp; omega, fun x hx => ?_, gI_wr _⟩)
          rcases List.mem_append.1 hx with h | h
          · exact s4 x h
          · rw [List.mem_singleton] at h
            exact h ▸ hy
        have g20 : gI 20 := by simp [gI]
        refine .after (T.mono (P := L3 (fun _ => False) (fun s => s.1.length ≤ 64 ∧ (∀ x ∈ s.1, gI x.Seq ∧ gI x.Of ∧ gI x.Off ∧ gI x.Len) ∧ gI s.2) (fun _ => False)) (.after ?_) fun j hj3 => ?_)
        · have mid : T (after (if (decide (i < (c.Chunks.length : Int))) = true then ((ix c.Chunks i).bind fun x1596 => some (.brk { { ({ Kind := 0, Id := idZ, Seq := 0, Of := 0, Off := o, Len := 20 } : TItem) with Kind := 1 } with Id := x1596.Id })) else after (if (decide (i < (c.Chunks.length : Int) + (c.Snaps.length : Int))) = true then ((ix c.Snaps (IntKind.wrap .i64 (i - (c.Chunks.length : Int)))).bind fun x1629 => some (.brk { { ({ Kind := 0, Id := idZ, Seq := 0, Of := 0, Off := o, Len := 20 } : TItem) with Kind := 2 } with Seq := x1629.Seq })) else (ix c.Exps (IntKind.wrap .i64 ((IntKind.wrap .i64 (i - (c.Chunks.length : Int))) - (c.Snaps.length : Int)))).bind fun x1634 => some (.brk { { { ({ Kind := 0, Id := idZ, Seq := 0, Of := 0, Off := o, Len := 20 } : TItem) with Kind := 3 } with Seq := x1634.Seq } with Of := x1634.Of }) : Option (Lp (TItem) (Lp (TItem) (Lp ((List TItem) × Int) (Lp ((List TItem) × Int × Int) (TChange × Bool)))))) fun j1623 => some (.brk j1623) : Option (Lp (TItem) (Lp ((List TItem) × Int) (Lp ((List TItem) × Int × Int) (TChange × Bool))))) fun j1590 => (app q ([j1590] : List TItem)).bind fun z1648 => some (.brk (z1648, IntKind.wrap .i64 (o + 20))) : Option (Lp ((List TItem) × Int) (Lp ((List TItem) × Int × Int) (TChange × Bool))))
              (L3 (fun _ => False) (fun s => s.1.length ≤ 64 ∧ (∀ x ∈ s.1, gI x.Seq ∧ gI x.Of ∧ gI x.Off ∧ gI x.Len) ∧ gI s.2) (fun _ => False)) := by
            refine .after (.ite (fun h3 => ?_) fun h3 => .after (.ite (fun h4 => ?_) fun h4 => ?_))
            · have h3 := of_decide_eq_true h3
              exact .ix (by omega) (by omega) fun x _ _ => .brk (put _ ⟨g0, g0, s5, g20⟩)
            · have h4 := of_decide_eq_true h4
              have h3 : ¬ (i < (c.Chunks.length : Int)) := by simpa using h3
              rw [wr (n := i - (c.Chunks.length : Int)) (by omega) (by omega)]
              exact .ix (by omega) (by omega) fun x _ hx => .brk (.brk (put _ ⟨(hc.sm.g.2.1 x hx).1, g0, s5, g20⟩))
            · have h4 : ¬ (i < (c.Chunks.length : Int) + (c.Snaps.length : Int)) := by simpa using h4
              rw [wr (n := i - (c.Chunks.length : Int)) (by omega) (by omega), wr (n := i - (c.Chunks.length : Int) - (c.Snaps.length : Int)) (by omega) (by omega)]
              exact .ix (by omega) (by omega) fun x _ hx => .brk (.brk (put _ ⟨(hc.sm.g.2.2.2.1 x hx).1, (hc.sm.g.2.2.2.1 x hx).2.1, s5, g20⟩))
          refine .ite (fun h3 => ?_) fun _ => .brk (T.ite (fun h => by cases h) fun _ => mid)
          have h3 := of_decide_eq_true h3
          exact .ix (by omega) (by omega) fun x _ _ => .brk (T.ite (fun _ => .brk ⟨s3, s4, s5⟩) fun _ => mid)
        · cases j with
          | go s => exact hj3
          | ret s => exact hj3.elim
          | brk s =>
            obtain ⟨q2, o2⟩ := s
            exact .go ⟨⟨by simp only; omega, by simp only; omega, hj3.1, hj3.2.1, hj3.2.2⟩, by simp only; omega⟩
      · obtain ⟨q, o, i⟩ := s
        exact .some (chg0 g0 hj hs.1 hs.2)
open Go.Vm
def lcOk (n : Nat) (l : List TLoc) : Prop := l.length ≤ n ∧ gL g_Loc l
def snOk (n : Nat) (s : TSnap) : Prop := gI s.Seq ∧ manOk s.Man ∧ lcOk n s.Locs
def chOk (n : Nat) (x : TChunk) : Prop := gId x.Id ∧ x.Data.length ≤ 300 ∧ gL gB x.Data ∧ lcOk n x.Locs
def exOk (n : Nat) (x : TExp) : Prop := gI x.Seq ∧ gI x.Of ∧ lcOk n x.Locs
structure Md (n m : Nat) (q : Int) (s : List TSnap) (k : List TChunk) (e : List TExp) (v : List TVol) : Prop where
 q : gI q
 sn : s.length ≤ 9
 s : ∀ x ∈ s, snOk n x
 kn : k.length ≤ 360
 k : ∀ x ∈ k, chOk n x
 en : e.length ≤ m
 e : ∀ x ∈ e, exOk n x
 vn : v.length ≤ 8
 v : ∀ x ∈ v, g_Vol x
theorem lcOk.mono {n n' : Nat} {l : List TLoc} (h : lcOk n l) (hn : n ≤ n') : lcOk n' l := ⟨Nat.le_trans h.1 hn, h.2⟩
theorem snOk.mono {n n' : Nat} {x : TSnap} (h : snOk n x) (hn : n ≤ n') : snOk n' x := ⟨h.1, h.2.1, h.2.2.mono hn⟩
theorem chOk.mono {n n' : Nat} {x : TChunk} (h : chOk n x) (hn : n ≤ n') : chOk n' x := ⟨h.1, h.2.1, h.2.2.1, h.2.2.2.mono hn⟩
theorem exOk.mono {n n' : Nat} {x : TExp} (h : exOk n x) (hn : n ≤ n') : exOk n' x := ⟨h.1, h.2.1, h.2.2.mono hn⟩
theorem Md.mono {n m n' m' : Nat} {q : Int} {s : List TSnap} {k : List TChunk} {e : List TExp} {v : List TVol} (h : Md n m q s k e v) (hn : n ≤ n') (hm : m ≤ m') : Md n' m' q s k e v :=
 ⟨h.q, h.sn, fun x hx => (h.s x hx).mono hn, h.kn, fun x hx => (h.k x hx).mono hn, Nat.le_trans h.en hm, fun x hx => (h.e x hx).mono hn, h.vn, h.v⟩
theorem Md.sm {n m : Nat} {q : Int} {s : List TSnap} {k : List TChunk} {e : List TExp} {v : List TVol} (h : Md n m q s k e v) (hn : n ≤ 300) (hm : m ≤ 300) : Sm { Seq := q, Snaps := s, Chunks := k, Exps := e, Vols := v } where
 g := ⟨h.q, fun x hx => ⟨(h.s x hx).1, (h.s x hx).2.1.2.2.2, (h.s x hx).2.2.2⟩, fun x hx => ⟨(h.k x hx).1, trivial, (h.k x hx).2.2.1, (h.k x hx).2.2.2.2⟩, fun x hx => ⟨(h.e x hx).1, (h.e x hx).2.1, (h.e x hx).2.2.2⟩, h.v⟩
 sn := Nat.le_trans h.sn (by omega)
 ch := Nat.le_trans h.kn (by omega)
 ex := Nat.le_trans h.en hm
 vo := Nat.le_trans h.vn (by omega)
 sl := fun x hx => Nat.le_trans (h.s x hx).2.2.1 hn
 cl := fun x hx => ⟨Nat.le_trans (h.k x hx).2.2.2.1 hn, (h.k x hx).2.1⟩
 el := fun x hx => Nat.le_trans (h.e x hx).2.2.1 hn
 man := fun x hx => ⟨(h.s x hx).2.1.1, (h.s x hx).2.1.2.1, (h.s x hx).2.1.2.2.1⟩
theorem locsB_len {c : TCatalog} {l : List TLoc} (h : locsB c l = true) : l.length ≤ 200 := by
 unfold locsB at h
 simp only [Bool.and_eq_true, decide_eq_true_eq] at h
 exact h.1
theorem Ok.md {c : TCatalog} (h : Ok c) : Md 200 200 c.Seq c.Snaps c.Chunks c.Exps c.Vols where
 q := h.sm.g.1
 sn := Nat.le_trans h.rg.sn (by omega)
 s := fun x hx => ⟨(h.sm.g.2.1 x hx).1, ⟨(h.sm.man x hx).1, (h.sm.man x hx).2.1, (h.sm.man x hx).2.2, (h.sm.g.2.1 x hx).2.1⟩, locsB_len (h.rg.s x hx).2.2.2, (h.sm.g.2.1 x hx).2.2⟩
 kn := Nat.le_trans h.rg.ch (by omega)
 k := fun x hx => ⟨(h.sm.g.2.2.1 x hx).1, (h.sm.cl x hx).2, (h.sm.g.2.2.1 x hx).2.2.1, locsB_len (h.rg.k x hx).2, (h.sm.g.2.2.1 x hx).2.2.2⟩
 en := h.rg.ex
 e := fun x hx => ⟨(h.sm.g.2.2.2.1 x hx).1, (h.sm.g.2.2.2.1 x hx).2.1, locsB_len (h.rg.e x hx).2.2.2.2, (h.sm.g.2.2.2.1 x hx).2.2⟩
 vn := h.rg.vo
 v := h.sm.g.2.2.2.2
theorem t64 {F : Nat} {c : TCatalog} {d : Id32} (hF : 1000 ≤ F) (hl : c.Chunks.length < 1000) : T (M64 F c d) fun n => n < c.Chunks.length := by
 unfold M64
 refine .loop (fun i => 0 ≤ i ∧ i ≤ c.Chunks.length) (fun i => (c.Chunks.length - i).toNat) (fun _ => True) (by omega) (by omega) (fun i hi => ?_) (fun i _ => .some (by omega))
 unfold M64_L0
 refine .ite (fun hc => ?_) fun _ => .brk trivial
 have hc := of_decide_eq_true hc
 rw [wr (by omega) (by omega)]
 exact .ix (by omega) (by omega) fun x _ _ => .ite (fun _ => .ret hc) fun _ => .go (by omega)
theorem t148 {F : Nat} {a b : TLoc} : T (M148 F a b) fun _ => True := by
 unfold M148
 exact .ite (fun _ => .some trivial) fun _ => .ite (fun _ => .some trivial) fun _ => .ite (fun _ => .some trivial) fun _ => .some trivial
theorem t146 {F n : Nat} {l : List TLoc} {x : TLoc} (hF : 1000 ≤ F) (h : lcOk n l) (hn : n ≤ 300) (hx : g_Loc x) : T (M146 F l x) fun r => lcOk (n + 1) r := by
 have h1 := h.1
 unfold M146
 refine T.scan (by omega) (by omega) (fun _ => rfl) (fun y _ => .bind _ t148 fun _ _ => .brk trivial) fun r hr => ?_
 refine .ins hr (by omega) fun z z1 z2 => .some ⟨by omega, fun y hy => ?_⟩
 rcases z2 y hy with h2 | rfl
 ·exact h.2 y h2
 ·exact hx
theorem t139 {F n : Nat} {l : List TLoc} {v : Int} (hF : 1000 ≤ F) (h : lcOk n l) (hn : n ≤ 300) : T (M139 F l v) fun r => lcOk n r := by
 have h1 := h.1
 unfold M139
 refine .loop (fun s => 0 ≤ s.2 ∧ s.2 ≤ l.length ∧ (s.1.length : Int) ≤ s.2 ∧ gL g_Loc s.1) (fun s => (l.length - s.2).toNat) (fun s => lcOk n s.1) (by simp; omega) ⟨by simp, by simp, by simp, fun _ h => by simp at h⟩ (fun s hs => ?_) (fun s hs => .some hs)
 obtain ⟨q, i⟩ := s
 simp only at hs
 unfold M139_L0
 refine .ite (fun hc => ?_) fun _ => .brk ⟨by simp only; omega, hs.2.2.2⟩
 have hc := of_decide_eq_true hc
 simp only at hc
 rw [wr (n := i + 1) (by omega) (by omega)]
 refine .ix (by omega) (by omega) fun x _ hx => .after (.ite (fun _ => .ix (by omega) (by omega) fun y _ hy => .app (by simp; omega) (.brk (.go ?_))) fun _ => .brk (.go ⟨⟨by simp only; omega, by simp only; omega, by simp only; omega, hs.2.2.2⟩, by simp only; omega⟩))
 refine ⟨⟨by simp only; omega, by simp only; omega, by simp; omega, fun z hz => ?_⟩, by simp only; omega⟩
 rcases List.mem_append.1 hz with h2 | h2
 ·exact hs.2.2.2 z h2
 ·rw [List.mem_singleton] at h2
  exact h2 ▸ h.2 y hy
theorem t137 {F : Nat} {c : TCatalog} {i a b : Int} : T (M137 F c i a b) fun r => r = true → 0 ≤ i ∧ i < c.Vols.length := by
 unfold M137
 refine .after (.ite (fun h0 => .ite (fun h1 => ?_) fun _ => .brk (.some fun h => by cases h)) fun _ => .brk (.some fun h => by cases h))
 have h0 := of_decide_eq_true h0
 have h1 := of_decide_eq_true h1
 exact .ix (by omega) (by omega) fun x _ hx => .ite (fun _ => .brk (.some fun _ => ⟨h0, h1⟩)) fun _ => .ix (by omega) (by omega) fun y _ _ => .brk (.some fun _ => ⟨h0, h1⟩)
theorem t136 {F n m : Nat} {q : Int} {s : List TSnap} {k : List TChunk} {e : List TExp} {v : List TVol} {z : Int} (hF : 1000 ≤ F) (h : Md n m q s k e v) (hn : n ≤ 300) (hm : m ≤ 300) :
    T (M136 F { Seq := q, Snaps := s, Chunks := k, Exps := e, Vols := v } z) fun r => Md n m q r.2.1 r.2.2 e v := by
  have h1 := h.sn
  have h2 := h.kn
  unfold M136
  refine .loop (fun s' => 0 ≤ s'.2 ∧ s'.2 ≤ s.length ∧ (s'.1.length : Int) ≤ s'.2 ∧ ∀ x ∈ s'.1, snOk n x) (fun s' => (s.length - s'.2).toNat) (fun s' => s'.1.length ≤ 9 ∧ ∀ x ∈ s'.1, snOk n x) (by simp; omega) (by simp) (fun s' hs => ?_) (fun s' hs => ?_)
  · obtain ⟨a, i⟩ := s'
    simp only at hs
    unfold M136_L0
    refine .ite (fun hc => ?_) fun _ => .brk ⟨by simp only; omega, hs.2.2.2⟩
    have hc := of_decide_eq_true hc
    simp only at hc
    rw [wr (n := i + 1) (by omega) (by omega)]
    refine .ix (by omega) (by simp only; omega) fun x _ hx => .after (.ite (fun _ => .ix (by omega) (by simp only; omega) fun y _ hy => .app (by simp; omega) (.brk (.go ?_))) fun _ => .brk (.go ⟨⟨by simp only; omega, by simp only; omega, by simp only; omega, hs.2.2.2⟩, by simp only; omega⟩))
    refine ⟨⟨by simp only; omega, by simp only; omega, by simp; omega, fun w hw => ?_⟩, by simp only; omega⟩
    rcases List.mem_append.1 hw with h3 | h3
    · exact hs.2.2.2 w h3
    · rw [List.mem_singleton] at h3
      exact h3 ▸ h.s y hy
  · obtain ⟨a, i0⟩ := s'
    have M1 : Md n m q a k e v := ⟨h.q, hs.1, hs.2, h.kn, h.k, h.en, h.e, h.vn, h.v⟩
    refine .ite (fun _ => .some h) fun _ => ?_
    refine .loop (fun s' => 0 ≤ s'.2 ∧ s'.2 ≤ k.length ∧ (s'.1.length : Int) ≤ s'.2 ∧ ∀ x ∈ s'.1, chOk n x) (fun s' => (k.length - s'.2).toNat) (fun s' => s'.1.length ≤ 360 ∧ ∀ x ∈ s'.1, chOk n x) (by simp; omega) (by simp) (fun s' hs2 => ?_) (fun s' hs2 => .some ⟨h.q, hs.1, hs.2, hs2.1, hs2.2, h.en, h.e, h.vn, h.v⟩)
    obtain ⟨b, i⟩ := s'
    simp only at hs2
    unfold M136_L2
    refine .ite (fun hc => ?_) fun _ => .brk ⟨by simp only; omega, hs2.2.2.2⟩
    have hc := of_decide_eq_true hc
    simp only at hc
    rw [wr (n := i + 1) (by omega) (by omega)]
    have put : ∀ y : TChunk, chOk n y → T ((app b ([y] : List TChunk)).bind fun z490 => some (.brk z490) : Option (Lp (List TChunk) (Lp (List TChunk × Int) (Bool × List TSnap × List TChunk))))
        (L3 (fun _ => False) (fun b' : List TChunk => b'.length ≤ b.length + 1 ∧ ∀ x ∈ b', chOk n x) (fun b' : Lp (List TChunk × Int) (Bool × List TSnap × List TChunk) => ∃ s, b' = .brk s ∧ s.1.length ≤ 360 ∧ ∀ x ∈ s.1, chOk n x)) := fun y hy => by
      refine .app (by simp; omega) (.brk ⟨by simp, fun x hx => ?_⟩)
      rcases List.mem_append.1 hx with h3 | h3
      · exact hs2.2.2.2 x h3
      · rw [List.mem_singleton] at h3
        exact h3 ▸ hy
    refine .after (T.mono (P := L3 (fun _ => False) (fun b' : List TChunk => b'.length ≤ b.length + 1 ∧ ∀ x ∈ b', chOk n x) (fun b' : Lp (List TChunk × Int) (Bool × List TSnap × List TChunk) => ∃ s, b' = .brk s ∧ s.1.length ≤ 360 ∧ ∀ x ∈ s.1, chOk n x)) (.ix (by omega) (by simp only; omega) fun x _ hx => .bindEq (m65 hF (M1.sm hn hm)) (.after ?_)) fun j hj => ?_)
    · have gx := h.k x hx
      refine .ite (fun _ => .ite (fun _ => .ret (show b.length ≤ b.length + 1 ∧ _ from ⟨by omega, hs2.2.2.2⟩)) fun _ => .brk (put _ ⟨gx.1, by simp, fun _ h => by simp at h, gx.2.2.2⟩)) fun _ => .brk (put _ gx)
    · cases j with
      | go s => exact hj
      | ret s =>
        obtain ⟨s', rfl, h3⟩ := hj
        exact h3
      | brk b' =>
        have := hj.1
        exact .go ⟨⟨by simp only; omega, by simp only; omega, by simp only; omega, hj.2⟩, by simp only; omega⟩
open Go.Vm
section
variable {n m : Nat} {q : Int} {s : List TSnap} {k : List TChunk} {e : List TExp} {v : List TVol}
theorem Md.setK (h : Md n m q s k e v) {i : Nat} {x : TChunk} (hx : chOk n x) : Md n m q s (k.set i x) e v :=
 ⟨h.q, h.sn, h.s, by simp [h.kn], fun y hy => (mem_set hy).elim (h.k y) fun e => e ▸ hx, h.en, h.e, h.vn, h.v⟩
theorem Md.setS (h : Md n m q s k e v) {i : Nat} {x : TSnap} (hx : snOk n x) : Md n m q (s.set i x) k e v :=
 ⟨h.q, by simp [h.sn], fun y hy => (mem_set hy).elim (h.s y) fun e => e ▸ hx, h.kn, h.k, h.en, h.e, h.vn, h.v⟩
theorem Md.setE (h : Md n m q s k e v) {i : Nat} {x : TExp} (hx : exOk n x) : Md n m q s k (e.set i x) v :=
 ⟨h.q, h.sn, h.s, h.kn, h.k, by simp [h.en], fun y hy => (mem_set hy).elim (h.e y) fun e => e ▸ hx, h.vn, h.v⟩
theorem Md.setV (h : Md n m q s k e v) {i : Nat} {x : TVol} (hx : g_Vol x) : Md n m q s k e (v.set i x) :=
 ⟨h.q, h.sn, h.s, h.kn, h.k, h.en, h.e, by simp [h.vn], fun y hy => (mem_set hy).elim (h.v y) fun e => e ▸ hx⟩
end
theorem t138 {F n m : Nat} {q : Int} {s : List TSnap} {k : List TChunk} {e : List TExp} {v : List TVol} {it : TItem} {lc : TLoc} (hF : 1000 ≤ F) (h : Md n m q s k e v) (hn : n < 300) (hm : m < 300) (hl : g_Loc lc) (h1 : gI it.Seq) (h2 : gI it.Of) :
    T (M138 F { Seq := q, Snaps := s, Chunks := k, Exps := e, Vols := v } it lc) fun r => Md (n + 1) (m + 1) r.2.1 r.2.2.1 r.2.2.2.1 r.2.2.2.2 v := by
  have hsn := h.sn
  have hkn := h.kn
  have hen := h.en
  have H : Md (n + 1) (m + 1) q s k e v := h.mono (by omega) (by omega)
  have H1 : Md (n + 1) m q s k e v := h.mono (by omega) (by omega)
  unfold M138
  refine .after (T.mono (P := L3 (fun _ => False) (fun j => Md (n + 1) (m + 1) j.1 s j.2.1 j.2.2 v) fun r => Md (n + 1) (m + 1) r.2.1 r.2.2.1 r.2.2.2.1 r.2.2.2.2 v) (.ite (fun _ => ?_) fun _ => .ite (fun _ => ?_) fun _ => ?_) fun j hj => ?_)
  · refine .bind _ (t64 hF (by simp only; omega)) fun y hy => .ite (fun _ => .ret H) fun hc => ?_
    have hc : ¬ (y < 0) := by simpa using hc
    simp only at hy
    refine .ix (by omega) (by simp only; omega) fun x _ hx => .bind _ (t146 hF (h.k x hx).2.2.2 (by omega) hl) fun z hz => .ix (by omega) (by simp only; omega) fun x2 _ hx2 => .brk ?_
    exact H.setK ⟨(h.k x2 hx2).1, (h.k x2 hx2).2.1, (h.k x2 hx2).2.2.1, hz⟩
  · refine .loop (fun i => 0 ≤ i ∧ i ≤ s.length) (fun i => (s.length - i).toNat) (fun _ => True) (by omega) (by omega) (fun i hi => ?_) (fun _ _ => .ret H)
    unfold M138_L3
    refine .ite (fun hc => ?_) fun _ => .brk trivial
    have hc := of_decide_eq_true hc
    simp only at hc
    rw [wr (n := i + 1) (by omega) (by omega)]
    refine .ix (by omega) (by simp only; omega) fun x _ hx => .ite (fun _ => ?_) fun _ => .go (by omega)
    refine .ix (by omega) (by simp only; omega) fun x _ hx => .bind _ (t146 hF (h.s x hx).2.2 (by omega) hl) fun z hz => .ix (by omega) (by simp only; omega) fun x2 _ hx2 => .ret ?_
    exact H.setS (x := { x2 with Locs := z }) ⟨(h.s x2 hx2).1, (h.s x2 hx2).2.1, hz⟩
  · refine T.scan (by simp only; omega) (by simp only; omega) (fun _ => rfl) (fun y _ => .brk trivial) fun r hr => ?_
    simp only at hr
    have rest : T ((slc e 0 r).bind fun x441 => (app ([] : List TExp) x441).bind fun z443 => (app z443 ([({ Seq := it.Seq, Of := it.Of, Locs := ([lc] : List TLoc) } : TExp)] : List TExp)).bind fun z451 => (slc e r (e).length).bind fun x459 => (app z451 x459).bind fun z461 => after (if (decide (q ≤ it.Seq)) = true then (some (.brk (decide (it.Seq < 4611686018427387904)))) else some (.brk false) : Option (Lp (Bool) (Lp (Int × (List TChunk) × (List TExp)) (Bool × Int × (List TSnap) × (List TChunk) × (List TExp))))) fun j471 => after (if j471 = true then (some (.brk (IntKind.wrap .i64 (it.Seq + 1)))) else some (.brk q) : Option (Lp (Int) (Lp (Int × (List TChunk) × (List TExp)) (Bool × Int × (List TSnap) × (List TChunk) × (List TExp))))) fun j476 => some (.brk (j476, k, z461)))
        (L3 (fun _ => False) (fun j => Md (n + 1) (m + 1) j.1 s j.2.1 j.2.2 v) fun r => Md (n + 1) (m + 1) r.2.1 r.2.2.1 r.2.2.2.1 r.2.2.2.2 v) := by
      refine .ins (by omega) (by omega) fun z z1 z2 => ?_
      have fin : ∀ q' : Int, gI q' → Md (n + 1) (m + 1) q' s k z v := fun q' hq => ⟨hq, H.sn, H.s, H.kn, H.k, by omega, fun x hx => by
        rcases z2 x hx with h3 | rfl
        · exact H.e x h3
        · exact ⟨h1, h2, by simp, fun y hy => by rw [List.mem_singleton] at hy; exact hy ▸ hl⟩, H.vn, H.v⟩
      have fin2 : ∀ b : Bool, T (after (if b = true then (some (.brk (IntKind.wrap .i64 (it.Seq + 1)))) else some (.brk q) : Option (Lp (Int) (Lp (Int × (List TChunk) × (List TExp)) (Bool × Int × (List TSnap) × (List TChunk) × (List TExp))))) fun j476 => some (.brk (j476, k, z)))
          (L3 (fun _ => False) (fun j => Md (n + 1) (m + 1) j.1 s j.2.1 j.2.2 v) fun r => Md (n + 1) (m + 1) r.2.1 r.2.2.1 r.2.2.2.1 r.2.2.2.2 v) := fun b => .after (.ite (fun _ => .brk (.brk (fin _ (gI_wr _)))) fun _ => .brk (.brk (fin _ h.q)))
      exact .after (.ite (fun _ => .brk (fin2 _)) fun _ => .brk (fin2 _))
    refine .after (.ite (fun hc => ?_) fun _ => .brk (T.ite (fun h => by cases h) fun _ => rest))
    have hc := of_decide_eq_true hc
    simp only at hc
    refine .ix (by omega) (by simp only; omega) fun x _ hx => .brk (T.ite (fun _ => ?_) fun _ => rest)
    refine .ix (by omega) (by simp only; omega) fun x _ hx => .bind _ (t146 hF (h.e x hx).2.2 (by omega) hl) fun z hz => .ix (by omega) (by simp only; omega) fun x2 _ hx2 => .ret ?_
    exact H.setE (x := { x2 with Locs := z }) ⟨(h.e x2 hx2).1, (h.e x2 hx2).2.1, hz⟩
  · cases j with
    | go _ => exact hj
    | brk j => exact .some hj
    | ret r => exact hj
theorem t135 {F n : Nat} {k : List TChunk} {x : TChunk} (hF : 1000 ≤ F) (hk : k.length ≤ 390) (h : ∀ y ∈ k, chOk n y) (hx : chOk n x) (hn : n ≤ 300) : T (M135a F k x) fun r => r.length ≤ k.length + 1 ∧ ∀ y ∈ r, chOk n y := by
 unfold M135a
 refine T.scan (by omega) (by omega) (fun _ => rfl) (fun y hy => .bindEq (m60 hF (h y hy).1 hx.1) (.brk trivial)) fun r hr => ?_
 have rest : T ((slc k 0 r).bind fun x104 => (app ([] : List TChunk) x104).bind fun z106 => (app z106 ([x] : List TChunk)).bind fun z114 => (slc k r (k).length).bind fun x122 => (app z114 x122).bind fun z124 => some z124) fun r => r.length ≤ k.length + 1 ∧ ∀ y ∈ r, chOk n y :=
  .ins hr (by omega) fun z z1 z2 => .some ⟨by omega, fun y hy => by
   rcases z2 y hy with h3 | rfl
   ·exact h y h3
   ·exact hx⟩
 refine .after (.ite (fun hc => ?_) fun _ => .brk (T.ite (fun h => by cases h) fun _ => rest))
 have hc := of_decide_eq_true hc
 refine .ix (by omega) (by omega) fun y _ hy => .brk (T.ite (fun _ => ?_) fun _ => rest)
 rw [m54a]
 refine .bindEq (m54 hF (by omega) fun y hy => ⟨Nat.le_trans (h y hy).2.2.2.1 hn, (h y hy).2.1⟩) (.bindEq (m100 (by have := hx.2.1; omega)) (.ix (by omega) (by omega) fun y2 _ hy2 => .ix (by omega) (by simp; omega) fun y3 _ hy3 => .some ⟨by simp, fun w hw => ?_⟩))
 have g2 := h y2 hy2
 have g2' : chOk n { y2 with Staged := true } := g2
 have g3 : chOk n y3 := by
  rcases mem_set hy3 with h4 | rfl
  ·exact h y3 h4
  ·exact g2'
 rcases mem_set hw with h3 | rfl
 ·rcases mem_set h3 with h4 | rfl
  ·exact h w h4
  ·exact g2'
 ·exact ⟨g3.1, hx.2.1, hx.2.2.1, g3.2.2.2⟩
theorem t110 {F : Nat} {c : TChange} (hF : 1000 ≤ F) (h : Chg c) : T (M110 F c) Chg := by
 unfold M110
 have h1 := h.cn
 have h2 := h.it
 refine .bindEq (m52 hF h.man.2.1 fun p hp => (h.man.2.2.1 p hp).2) (.bindEq (m53 (by rw [h.locs]; simp)) (.bindEq (m54 hF (by simp only; omega) fun y hy => ⟨by rw [(h.ch y hy).2.2.2]; simp, (h.ch y hy).2.1⟩) (.app (by simp; omega) (.some ?_))))
 exact ⟨h.seq, h.man, h.locs, h.cn, h.ch, h.sq, h.vol, by simpa using h.it, by simpa using h.iti⟩
open Go.Vm
abbrev R109 := Int × Int × (List TSnap) × (List TChunk) × (List TExp) × (List TVol)
def Po (r : R109) : Prop := r.1 = 0 → Md 264 264 r.2.1 r.2.2.1 r.2.2.2.1 r.2.2.2.2.1 r.2.2.2.2.2
theorem notZ {n : Int} {x : Int × (List TSnap) × (List TChunk) × (List TExp) × (List TVol)} (h : n ≠ 0) : Po (n, x) := fun h0 => absurd h0 h
theorem t109 {F : Nat} {c : TCatalog} {d : TChange} (hF : 1000 ≤ F) (ok : Ok c) (hd : Chg d) : T (M109 F c d) Po := by
  have H := ok.md
  have H2 : Md 264 264 c.Seq c.Snaps c.Chunks c.Exps c.Vols := H.mono (by omega) (by omega)
  have c1 := ok.rg.ch
  have c2 := ok.rg.sn
  have c3 := ok.rg.ex
  have c4 := ok.rg.vo
  have dn := hd.cn
  have di := hd.it
  have gvol : gI d.Vol := hd.vol
  unfold M109
  refine .after (T.mono (P := L3 (fun _ => False) (fun j => Md 264 264 j.1 j.2.1 j.2.2.1 j.2.2.2.1 j.2.2.2.2) Po) (.ite (fun _ => ?_) fun _ => ?_) fun j hj => ?_)
  · have k1 : ∀ b : Bool, T (after (loopM (fun s => M109_L1 F d s.1 s.2) F (b, 0)) fun ⟨r8267, r8268⟩ => if (!r8267) = true then (some (.ret (1, c.Seq, c.Snaps, c.Chunks, c.Exps, c.Vols))) else (M50 F ({ Seq := c.Seq, Snaps := c.Snaps, Chunks := c.Chunks, Exps := c.Exps, Vols := c.Vols } : TCatalog) d.Snap.Man.Name).bind fun y8276 => if (decide (0 ≤ y8276)) = true then (some (.ret (9, c.Seq, c.Snaps, c.Chunks, c.Exps, c.Vols))) else (app c.Snaps ([d.Snap] : List TSnap)).bind fun z8291 => after (loopM (fun s => M109_L3 F d s.1 s.2) F (c.Chunks, 0)) fun ⟨r8375, r8376⟩ => some (.brk (IntKind.wrap .i64 (c.Seq + 1), z8291, r8375, c.Exps, c.Vols)))
        (L3 (fun _ => False) (fun j => Md 264 264 j.1 j.2.1 j.2.2.1 j.2.2.2.1 j.2.2.2.2) Po) := fun b => by
      refine .loop (fun s => 0 ≤ s.2 ∧ s.2 ≤ d.Chunks.length) (fun s => (d.Chunks.length - s.2).toNat) (fun _ => True) (by simp; omega) (by simp) (fun s hs => ?_) (fun s _ => ?_)
      · obtain ⟨b, i⟩ := s
        simp only at hs
        unfold M109_L1
        refine .ite (fun hc => ?_) fun _ => .brk trivial
        have hc := of_decide_eq_true hc
        simp only at hc
        rw [wr (n := i + 1) (by omega) (by omega)]
        refine .after (.ite (fun _ => .ix (by omega) (by omega) fun x _ _ => .ite (fun _ => .ix (by omega) (by omega) fun y _ _ => .brk (.go (by first | omega | (simp only; omega)))) fun _ => .brk (.go (by first | omega | (simp only; omega)))) fun _ => .brk (.go (by first | omega | (simp only; omega))))
      · obtain ⟨b, i⟩ := s
        refine .ite (fun _ => .ret (notZ (by decide))) fun _ => .bindEq (m50f hF (by first | omega | (simp only; omega))) (.ite (fun _ => .ret (notZ (by decide))) fun _ => .app (by simp; omega) ?_)
        refine .loop (fun s => 0 ≤ s.2 ∧ s.2 ≤ d.Chunks.length ∧ (s.1.length : Int) ≤ c.Chunks.length + s.2 ∧ ∀ x ∈ s.1, chOk 200 x) (fun s => (d.Chunks.length - s.2).toNat) (fun s => s.1.length ≤ 360 ∧ ∀ x ∈ s.1, chOk 200 x) (by simp; omega) ⟨by simp, by simp, by simp, H.k⟩ (fun s hs => ?_) (fun s hs => ?_)
        · obtain ⟨q, i⟩ := s
          simp only at hs
          unfold M109_L3
          refine .ite (fun hc => ?_) fun _ => .brk ⟨by first | omega | (simp only; omega), hs.2.2.2⟩
          have hc := of_decide_eq_true hc
          simp only at hc
          rw [wr (n := i + 1) (by omega) (by omega)]
          refine .ix (by omega) (by omega) fun x _ hx => ?_
          have gx := hd.ch x hx
          refine .bind _ (t135 hF (by first | omega | (simp only; omega)) hs.2.2.2 ⟨gx.1, gx.2.1, gx.2.2.1, by rw [gx.2.2.2]; exact ⟨by simp, fun _ h => by simp at h⟩⟩ (by omega)) fun y hy => .go ⟨⟨by first | omega | (simp only; omega), by first | omega | (simp only; omega), ?_, hy.2⟩, by first | omega | (simp only; omega)⟩
          have := hy.1
          simp only at this ⊢
          omega
        · obtain ⟨q, i⟩ := s
          refine .some ?_
          refine ⟨gI_wr _, by simp; omega, fun x hx => ?_, hs.1, fun x hx => (hs.2 x hx).mono (by omega), H2.en, H2.e, H2.vn, H2.v⟩
          rcases List.mem_append.1 hx with h | h
          · exact H2.s x h
          · rw [List.mem_singleton] at h
            subst h
            exact ⟨hd.seq, hd.man, by rw [hd.locs]; exact ⟨by simp, fun _ h => by simp at h⟩⟩
    exact .after (.ite (fun _ => .brk (k1 _)) fun _ => .brk (k1 _))
  · refine .after (T.mono (P := L3 (fun _ => False) (fun j => Md 264 264 j.1 j.2.1 j.2.2.1 j.2.2.2.1 j.2.2.2.2) (L3 (fun _ => False) (fun j => Md 264 264 j.1 j.2.1 j.2.2.1 j.2.2.2.1 j.2.2.2.2) Po)) (.ite (fun _ => ?_) fun _ => ?_) fun j hj => ?_)
    · refine .bind _ (t136 hF H (by omega) (by omega)) fun y hy => .ite (fun _ => .ret (show Po _ from notZ (by decide))) fun _ => .brk (hy.mono (by omega) (by omega))
    · refine .after (T.mono (P := L3 (fun _ => False) (fun j => Md 264 264 j.1 j.2.1 j.2.2.1 j.2.2.2.1 j.2.2.2.2) (L3 (fun _ => False) (fun j => Md 264 264 j.1 j.2.1 j.2.2.1 j.2.2.2.1 j.2.2.2.2) (L3 (fun _ => False) (fun j => Md 264 264 j.1 j.2.1 j.2.2.1 j.2.2.2.1 j.2.2.2.2) Po))) (.ite (fun _ => ?_) fun _ => ?_) fun j hj => ?_)
      · have H137 := t137 (F := F) (c := { Seq := c.Seq, Snaps := c.Snaps, Chunks := c.Chunks, Exps := c.Exps, Vols := c.Vols }) (i := d.Vol) (a := 1) (b := 2)
        refine .after (T.mono (P := L3 (fun _ => False) (fun b => b = true → 0 ≤ d.Vol ∧ d.Vol < c.Vols.length) (fun _ => False)) (.bind _ H137 fun y hy => .ite (fun hc => .ite (fun _ => .brk fun _ => hy hc) fun _ => .brk fun h => by cases h) fun _ => .brk fun h => by cases h) fun j hj => ?_)
        cases j with
        | go _ => exact hj
        | ret _ => exact hj.elim
        | brk b =>
        replace hj : b = true → 0 ≤ d.Vol ∧ d.Vol < c.Vols.length := hj
        refine T.loop (fun s => 0 ≤ s.2 ∧ s.2 ≤ d.Items.length ∧ (s.1 = true → 0 ≤ d.Vol ∧ d.Vol < c.Vols.length)) (fun s => (d.Items.length - s.2).toNat) (fun s => s.1 = true → 0 ≤ d.Vol ∧ d.Vol < c.Vols.length) (by simp; omega) ⟨by simp, by simp, hj⟩ (fun s hs => ?_) (fun s hs => ?_)
        · obtain ⟨b, i⟩ := s
          simp only at hs
          unfold M109_L5
          refine .ite (fun hc => ?_) fun _ => .brk hs.2.2
          have hc := of_decide_eq_true hc
          simp only at hc
          rw [wr (n := i + 1) (by omega) (by omega)]
          have fin : ∀ b' : Bool, (b' = true → 0 ≤ d.Vol ∧ d.Vol < c.Vols.length) → T (some (.go (b', i + 1)) : Option (Lp (Bool × Int) (Lp (Int × List TSnap × List TChunk × List TExp × List TVol) (Lp (Int × List TSnap × List TChunk × List TExp × List TVol) (Lp (Int × List TSnap × List TChunk × List TExp × List TVol) R109)))))
            (L3 (fun s' => (0 ≤ s'.2 ∧ s'.2 ≤ d.Items.length ∧ (s'.1 = true → 0 ≤ d.Vol ∧ d.Vol < c.Vols.length)) ∧ (d.Items.length - s'.2).toNat < (d.Items.length - i).toNat) (fun s => s.1 = true → 0 ≤ d.Vol ∧ d.Vol < c.Vols.length) (L3 (fun _ => False) (fun j => Md 264 264 j.1 j.2.1 j.2.2.1 j.2.2.2.1 j.2.2.2.2) (L3 (fun _ => False) (fun j => Md 264 264 j.1 j.2.1 j.2.2.1 j.2.2.2.1 j.2.2.2.2) (L3 (fun _ => False) (fun j => Md 264 264 j.1 j.2.1 j.2.2.1 j.2.2.2.1 j.2.2.2.2) Po)))) := fun b' hb' => .go ⟨⟨by first | omega | (simp only; omega), by first | omega | (simp only; omega), hb'⟩, by first | omega | (simp only; omega)⟩
          refine .after (.ite (fun hb => ?_) fun _ => .brk (fin _ fun h => by cases h))
          exact .ix (by omega) (by omega) fun x _ _ => .ite (fun _ => .ix (by omega) (by omega) fun y _ _ => .brk (fin _ fun _ => hs.2.2 hb)) fun _ => .brk (fin _ fun h => by cases h)
        · obtain ⟨b, i0⟩ := s
          refine .ite (fun _ => .ret (show Po _ from notZ (by decide))) fun hb => ?_
          have hv := hs (by simpa using hb)
          refine .ix hv.1 hv.2 fun x _ hx => ?_
          have gx := ok.sm.g.2.2.2.2 x hx
          have gx1 : g_Vol { x with State := 2 } := ⟨gx.1, gx.2.1, (by show gI _; simp [gI]), gx.2.2.2⟩
          have gx2 : g_Vol { ({ x with State := 2 } : TVol) with Files := IntKind.wrap .i64 (x.Files + 1) } := ⟨gx.1, gx.2.1, (by show gI _; simp [gI]), gI_wr _⟩
          have HV : Md 200 200 c.Seq c.Snaps c.Chunks c.Exps ((c.Vols.set d.Vol.toNat { x with State := 2 }).set d.Vol.toNat { ({ x with State := 2 } : TVol) with Files := IntKind.wrap .i64 (x.Files + 1) }) := (H.setV gx1).setV gx2
          generalize hV : (c.Vols.set d.Vol.toNat { x with State := 2 }).set d.Vol.toNat { ({ x with State := 2 } : TVol) with Files := IntKind.wrap .i64 (x.Files + 1) } = V at HV
          refine T.loop (fun s => 0 ≤ s.2.2.2.2 ∧ s.2.2.2.2 ≤ d.Items.length ∧ Md (200 + s.2.2.2.2.toNat) (200 + s.2.2.2.2.toNat) s.1 s.2.1 s.2.2.1 s.2.2.2.1 V) (fun s => (d.Items.length - s.2.2.2.2).toNat) (fun s => Md 264 264 s.1 s.2.1 s.2.2.1 s.2.2.2.1 V) (by simp; omega) ⟨by simp, by simp, HV⟩ (fun s hs => ?_) (fun s hs => ?_)
          · obtain ⟨q, s, k, e, i⟩ := s
            simp only at hs
            unfold M109_L7
            refine .ite (fun hc => ?_) fun _ => .brk (hs.2.2.mono (by first | omega | (simp only; omega)) (by first | omega | (simp only; omega)))
            have hc := of_decide_eq_true hc
            simp only at hc
            simp only [hV]
            rw [wr (n := i + 1) (by omega) (by omega)]
            refine .ix (by omega) (by omega) fun x1 _ hx1 => .ix (by omega) (by omega) fun x2 _ hx2 => .ix (by omega) (by omega) fun x3 _ hx3 => ?_
            have d1 := hd.iti x1 hx1
            have d2 := hd.iti x2 hx2
            have d3 := hd.iti x3 hx3
            refine .bind _ (t138 hF hs.2.2 (by omega) (by omega) ⟨gvol, gI_wr _, d2.2.2.1, d3.2.2.2⟩ d1.1 d1.2.1) fun y hy => .ite (fun _ => .ret (show Po _ from notZ (by decide))) fun _ => .go ⟨⟨by first | omega | (simp only; omega), by first | omega | (simp only; omega), ?_⟩, by first | omega | (simp only; omega)⟩
            exact hy.mono (by first | omega | (simp only; omega)) (by first | omega | (simp only; omega))
          · obtain ⟨q, s, k, e, i0⟩ := s
            simp only at hs
            refine T.loop (fun s' => 0 ≤ s'.2.2 ∧ s'.2.2 ≤ d.Items.length ∧ Md 264 264 q s'.1 s'.2.1 e V) (fun s' => (d.Items.length - s'.2.2).toNat) (fun s' => Md 264 264 q s'.1 s'.2.1 e V) (by simp; omega) ⟨by simp, by simp, hs⟩ (fun s' hs2 => ?_) (fun s' hs2 => ?_)
            · obtain ⟨s, k, i⟩ := s'
              simp only at hs2
              unfold M109_L9
              refine .ite (fun hc => ?_) fun _ => .brk hs2.2.2
              have hc := of_decide_eq_true hc
              simp only at hc
              simp only [hV]
              rw [wr (n := i + 1) (by omega) (by omega)]
              refine .ix (by omega) (by omega) fun x1 _ _ => .after (.ite (fun _ => .ix (by omega) (by omega) fun x2 _ _ => .bind _ (t136 hF hs2.2.2 (by omega) (by omega)) fun y hy => .brk (.go ⟨⟨by first | omega | (simp only; omega), by first | omega | (simp only; omega), hy⟩, by first | omega | (simp only; omega)⟩)) fun _ => .brk (.go ⟨⟨by first | omega | (simp only; omega), by first | omega | (simp only; omega), hs2.2.2⟩, by first | omega | (simp only; omega)⟩))
            · obtain ⟨s, k, i1⟩ := s'
              simp only at hs2
              simp only [hV]
              refine .after (T.mono (P := L3 (fun _ => False) (fun k' => Md 264 264 q s k' e V) (fun _ => False)) (.ite (fun _ => ?_) fun _ => .brk hs2) fun j hj2 => ?_)
              · refine T.loop (fun s' => 0 ≤ s'.2 ∧ s'.2 ≤ d.Items.length ∧ Md 264 264 q s s'.1 e V) (fun s' => (d.Items.length - s'.2).toNat) (fun s' => Md 264 264 q s s'.1 e V) (by simp; omega) ⟨by simp, by simp, hs2⟩ (fun s' hs3 => ?_) (fun s' hs3 => .brk hs3)
                obtain ⟨k, i⟩ := s'
                simp only at hs3
                unfold M109_L11
                refine .ite (fun hc => ?_) fun _ => .brk hs3.2.2
                have hc := of_decide_eq_true hc
                simp only at hc
                simp only [hV]
                rw [wr (n := i + 1) (by omega) (by omega)]
                have hk := hs3.2.2.kn
                refine .ix (by omega) (by omega) fun x1 _ _ => .after (.ite (fun _ => .ix (by omega) (by omega) fun x2 _ _ => .bind _ (t64 hF (by first | omega | (simp only; omega))) fun y hy => .after (.ite (fun h0 => ?_) fun _ => .brk (.brk (.go ⟨⟨by first | omega | (simp only; omega), by first | omega | (simp only; omega), hs3.2.2⟩, by first | omega | (simp only; omega)⟩)))) fun _ => .brk (.go ⟨⟨by first | omega | (simp only; omega), by first | omega | (simp only; omega), hs3.2.2⟩, by first | omega | (simp only; omega)⟩))
                have h0 := of_decide_eq_true h0
                simp only at hy
                refine .ix (by omega) (by omega) fun z _ hz => .ix (by omega) (by simp; omega) fun z2 _ hz2 => .brk (.brk (.go ⟨⟨by first | omega | (simp only; omega), by first | omega | (simp only; omega), ?_⟩, by first | omega | (simp only; omega)⟩))
                have gz := hs3.2.2.k z hz
                have gz1 : chOk 264 { z with Staged := false } := gz
                have gz2 : chOk 264 z2 := (mem_set hz2).elim (hs3.2.2.k z2) fun e => e ▸ gz1
                exact (hs3.2.2.setK gz1).setK (x := { z2 with Data := [] }) ⟨gz2.1, by simp, fun _ h => by simp at h, gz2.2.2.2⟩
              · cases j with
                | go _ => exact hj2
                | ret _ => exact hj2.elim
                | brk k' => exact .brk hj2
      · refine .after (T.mono (P := L3 (fun _ => False) (fun j => Md 264 264 c.Seq j.1 j.2.1 j.2.2.1 j.2.2.2) (L3 (fun _ => False) (fun j => Md 264 264 j.1 j.2.1 j.2.2.1 j.2.2.2.1 j.2.2.2.2) (L3 (fun _ => False) (fun j => Md 264 264 j.1 j.2.1 j.2.2.1 j.2.2.2.1 j.2.2.2.2) (L3 (fun _ => False) (fun j => Md 264 264 j.1 j.2.1 j.2.2.1 j.2.2.2.1 j.2.2.2.2) Po)))) (.ite (fun _ => ?_) fun _ => ?_) fun j hj => ?_)
        · refine .bind _ t137 fun y hy => .ite (fun _ => .ret (show Po _ from notZ (by decide))) fun hb => ?_
          have hv := hy (by simpa using hb)
          refine .ix hv.1 hv.2 fun x _ hx => ?_
          have gx := ok.sm.g.2.2.2.2 x hx
          have gx1 : g_Vol { x with State := 3 } := ⟨gx.1, gx.2.1, (by show gI _; simp [gI]), gx.2.2.2⟩
          refine .ix hv.1 (by simp; exact hv.2) fun x2 _ hx2 => ?_
          have gx2 : g_Vol x2 := (mem_set hx2).elim (ok.sm.g.2.2.2.2 x2) fun e => e ▸ gx1
          have gx3 : g_Vol { x2 with Files := 0 } := ⟨gx2.1, gx2.2.1, gx2.2.2.1, (by show gI _; simp [gI])⟩
          have HV : Md 200 200 c.Seq c.Snaps c.Chunks c.Exps ((c.Vols.set d.Vol.toNat { x with State := 3 }).set d.Vol.toNat { x2 with Files := 0 }) := (H.setV gx1).setV gx3
          refine T.loop (fun s => 0 ≤ s.2 ∧ s.2 ≤ c.Chunks.length ∧ (s.1.length : Int) ≤ s.2 ∧ ∀ x ∈ s.1, chOk 200 x) (fun s => (c.Chunks.length - s.2).toNat) (fun s => s.1.length ≤ 360 ∧ ∀ x ∈ s.1, chOk 200 x) (by simp; omega) (by simp) (fun s hs => ?_) (fun s hs => ?_)
          · obtain ⟨q, i⟩ := s
            simp only at hs
            unfold M109_L13
            refine .ite (fun hc => ?_) fun _ => .brk ⟨by first | omega | (simp only; omega), hs.2.2.2⟩
            have hc := of_decide_eq_true hc
            simp only at hc
            rw [wr (n := i + 1) (by omega) (by omega)]
            refine .ix (by omega) (by omega) fun x1 _ hx1 => .bind _ (t139 hF (H.k x1 hx1).2.2.2 (by omega)) fun y hy => ?_
            have put : ∀ b : Bool, T (after (if b = true then ((app q ([{ x1 with Locs := y }] : List TChunk)).bind fun z16059 => some (.brk z16059)) else some (.brk q) : Option (Lp (List TChunk) (Lp (List TChunk × Int) (Lp (List TSnap × List TChunk × List TExp × List TVol) (Lp (Int × List TSnap × List TChunk × List TExp × List TVol) (Lp (Int × List TSnap × List TChunk × List TExp × List TVol) (Lp (Int × List TSnap × List TChunk × List TExp × List TVol) R109))))))) fun j16055 => some (.go (j16055, i + 1)))
                (L3 (fun s' => (0 ≤ s'.2 ∧ s'.2 ≤ c.Chunks.length ∧ (s'.1.length : Int) ≤ s'.2 ∧ ∀ x ∈ s'.1, chOk 200 x) ∧ (c.Chunks.length - s'.2).toNat < (c.Chunks.length - i).toNat) (fun s => s.1.length ≤ 360 ∧ ∀ x ∈ s.1, chOk 200 x) (L3 (fun _ => False) (fun j => Md 264 264 c.Seq j.1 j.2.1 j.2.2.1 j.2.2.2) (L3 (fun _ => False) (fun j => Md 264 264 j.1 j.2.1 j.2.2.1 j.2.2.2.1 j.2.2.2.2) (L3 (fun _ => False) (fun j => Md 264 264 j.1 j.2.1 j.2.2.1 j.2.2.2.1 j.2.2.2.2) (L3 (fun _ => False) (fun j => Md 264 264 j.1 j.2.1 j.2.2.1 j.2.2.2.1 j.2.2.2.2) Po))))) := fun b => by
              refine .after (.ite (fun _ => .app (by simp; omega) (.brk (.go ⟨⟨by first | omega | (simp only; omega), by first | omega | (simp only; omega), by simp; omega, fun w hw => ?_⟩, by first | omega | (simp only; omega)⟩))) fun _ => .brk (.go ⟨⟨by first | omega | (simp only; omega), by first | omega | (simp only; omega), by first | omega | (simp only; omega), hs.2.2.2⟩, by first | omega | (simp only; omega)⟩))
              rcases List.mem_append.1 hw with h | h
              · exact hs.2.2.2 w h
              · rw [List.mem_singleton] at h
                subst h
                exact ⟨(H.k x1 hx1).1, (H.k x1 hx1).2.1, (H.k x1 hx1).2.2.1, hy⟩
            exact .after (.ite (fun _ => .brk (put _)) fun _ => .brk (put _))
          · obtain ⟨k, i0⟩ := s
            simp only at hs
            refine T.loop (fun s => 0 ≤ s.2 ∧ s.2 ≤ c.Snaps.length ∧ s.1.length = c.Snaps.length ∧ ∀ x ∈ s.1, snOk 200 x) (fun s => (c.Snaps.length - s.2).toNat) (fun s => s.1.length ≤ 9 ∧ ∀ x ∈ s.1, snOk 200 x) (by simp; omega) ⟨by simp, by simp, rfl, H.s⟩ (fun s hs2 => ?_) (fun s hs2 => ?_)
            · obtain ⟨q, i⟩ := s
              simp only at hs2
              unfold M109_L15
              refine .ite (fun hc => ?_) fun _ => .brk ⟨by first | omega | (simp only; omega), hs2.2.2.2⟩
              have hc := of_decide_eq_true hc
              simp only at hc
              rw [wr (n := i + 1) (by omega) (by omega)]
              refine .ix (by omega) (by omega) fun x1 _ hx1 => .bind _ (t139 hF (hs2.2.2.2 x1 hx1).2.2 (by omega)) fun y hy => .ix (by omega) (by omega) fun x2 _ hx2 => .go ⟨⟨by first | omega | (simp only; omega), by first | omega | (simp only; omega), by simp; exact hs2.2.2.1, fun w hw => ?_⟩, by first | omega | (simp only; omega)⟩
              rcases mem_set hw with h | rfl
              · exact hs2.2.2.2 w h
              · exact ⟨(hs2.2.2.2 x2 hx2).1, (hs2.2.2.2 x2 hx2).2.1, hy⟩
            · obtain ⟨s, i1⟩ := s
              simp only at hs2
              refine T.loop (fun s => 0 ≤ s.2 ∧ s.2 ≤ c.Exps.length ∧ (s.1.length : Int) ≤ s.2 ∧ ∀ x ∈ s.1, exOk 200 x) (fun s => (c.Exps.length - s.2).toNat) (fun s => s.1.length ≤ 200 ∧ ∀ x ∈ s.1, exOk 200 x) (by simp; omega) (by simp) (fun s hs3 => ?_) (fun s hs3 => ?_)
              · obtain ⟨q, i⟩ := s
                simp only at hs3
                unfold M109_L17
                refine .ite (fun hc => ?_) fun _ => .brk ⟨by first | omega | (simp only; omega), hs3.2.2.2⟩
                have hc := of_decide_eq_true hc
                simp only at hc
                rw [wr (n := i + 1) (by omega) (by omega)]
                refine .ix (by omega) (by omega) fun x1 _ hx1 => .bind _ (t139 hF (H.e x1 hx1).2.2 (by omega)) fun y hy => ?_
                refine .after (.ite (fun _ => .app (by simp; omega) (.brk (.go ⟨⟨by first | omega | (simp only; omega), by first | omega | (simp only; omega), by simp; omega, fun w hw => ?_⟩, by first | omega | (simp only; omega)⟩))) fun _ => .brk (.go ⟨⟨by first | omega | (simp only; omega), by first | omega | (simp only; omega), by first | omega | (simp only; omega), hs3.2.2.2⟩, by first | omega | (simp only; omega)⟩))
                rcases List.mem_append.1 hw with h | h
                · exact hs3.2.2.2 w h
                · rw [List.mem_singleton] at h
                  subst h
                  exact ⟨(H.e x1 hx1).1, (H.e x1 hx1).2.1, hy⟩
              · obtain ⟨e, i2⟩ := s
                simp only at hs3
                exact .brk (Md.mono (n := 200) (m := 200) ⟨H.q, hs2.1, hs2.2, hs.1, hs.2, hs3.1, hs3.2, HV.vn, HV.v⟩ (by omega) (by omega))
        · refine .after (T.mono (P := L3 (fun _ => False) (fun v' => Md 264 264 c.Seq c.Snaps c.Chunks c.Exps v') (L3 (fun _ => False) (fun j => Md 264 264 c.Seq j.1 j.2.1 j.2.2.1 j.2.2.2) (L3 (fun _ => False) (fun j => Md 264 264 j.1 j.2.1 j.2.2.1 j.2.2.2.1 j.2.2.2.2) (L3 (fun _ => False) (fun j => Md 264 264 j.1 j.2.1 j.2.2.1 j.2.2.2.1 j.2.2.2.2) (L3 (fun _ => False) (fun j => Md 264 264 j.1 j.2.1 j.2.2.1 j.2.2.2.1 j.2.2.2.2) Po))))) (.ite (fun _ => ?_) fun _ => .brk H2) fun j hj => ?_)
          · refine .bind _ t137 fun y hy => .ite (fun _ => .ret (show Po _ from notZ (by decide))) fun hb => ?_
            have hv := hy (by simpa using hb)
            refine .ix hv.1 hv.2 fun x _ hx => .ix hv.1 hv.2 fun x1 _ hx1 => ?_
            have gx := ok.sm.g.2.2.2.2 x1 hx1
            have gx1 : g_Vol { x1 with State := 1 } := ⟨gx.1, gx.2.1, (by show gI _; simp [gI]), gx.2.2.2⟩
            refine .ix hv.1 (by simp; exact hv.2) fun x2 _ hx2 => .brk ?_
            have gx2 : g_Vol x2 := (mem_set hx2).elim (ok.sm.g.2.2.2.2 x2) fun e => e ▸ gx1
            exact (H2.setV gx1).setV (x := { x2 with Epoch := IntKind.wrap .i64 (x.Epoch + 1) }) ⟨gx2.1, gI_wr _, gx2.2.2.1, gx2.2.2.2⟩
          · cases j with
            | go _ => exact hj
            | brk j => exact .brk hj
            | ret r => exact hj
        · cases j with
          | go _ => exact hj
          | brk j => exact .brk hj
          | ret r => exact hj
      · cases j with
        | go _ => exact hj
        | brk j => exact .brk hj
        | ret r => exact hj
    · cases j with
      | go _ => exact hj
      | brk j => exact .brk hj
      | ret r => exact hj
  · cases j with
    | go _ => exact hj
    | brk j => exact .some fun _ => hj
    | ret r => exact hj
open Go.Vm
theorem take_step {α : Type} {l : List α} {P : α → Prop} {i : Int} {x : α} (h0 : 0 ≤ i) (hx : l[i.toNat]? = some x) (h : ∀ y ∈ l.take i.toNat, P y) (hP : P x) : ∀ y ∈ l.take (i + 1).toNat, P y := by
 intro y hy
 obtain ⟨hlt, he⟩ := List.getElem?_eq_some_iff.1 hx
 rw [show (i + 1).toNat = i.toNat + 1 from by omega, List.take_succ_eq_append_getElem hlt] at hy
 rcases List.mem_append.1 hy with h1 | h1
 ·exact h y h1
 ·rw [List.mem_singleton, he] at h1
  exact h1 ▸ hP
theorem take_mem {α : Type} {l : List α} {i n : Nat} {x : α} (hx : l[i]? = some x) (hi : i < n) : x ∈ l.take n := by
 refine List.mem_of_getElem? (i := i) ?_
 rw [List.getElem?_take_of_lt hi, hx]
theorem t67 {F : Nat} {c : TCatalog} {d : TChange} (hF : 1000 ≤ F) (h : Sm c) (hg : good c = true) (hd : Chg d) : T (M67 F c d) fun r => r.2 = 0 → Sm r.1 ∧ good r.1 = true := by
  unfold M67
  refine .after (.bindEq (m19 hF h) (.ite (fun hc => ?_) fun _ => ?_))
  · rw [hg] at hc; cases hc
  · have rest : T (if (false : Bool) = true then (some (({ Seq := 0, Snaps := [], Chunks := [], Exps := [], Vols := [] } : TCatalog), 1)) else (M14d F c).bind fun y27 => (M110 F d).bind fun y47 => (M109 F ({ Seq := y27.Seq, Snaps := y27.Snaps, Chunks := y27.Chunks, Exps := y27.Exps, Vols := y27.Vols } : TCatalog) y47).bind fun y49 => if (y49.1 != 0) = true then (some (({ Seq := 0, Snaps := [], Chunks := [], Exps := [], Vols := [] } : TCatalog), y49.1)) else (M19 F ({ Seq := y49.2.1, Snaps := y49.2.2.1, Chunks := y49.2.2.2.1, Exps := y49.2.2.2.2.1, Vols := y49.2.2.2.2.2 } : TCatalog)).bind fun y69 => if (!y69) = true then (some (({ Seq := 0, Snaps := [], Chunks := [], Exps := [], Vols := [] } : TCatalog), 1)) else some (({ Seq := y49.2.1, Snaps := y49.2.2.1, Chunks := y49.2.2.2.1, Exps := y49.2.2.2.2.1, Vols := y49.2.2.2.2.2 } : TCatalog), 0))
        fun r => r.2 = 0 → Sm r.1 ∧ good r.1 = true := by
      refine .ite (fun h => by cases h) fun _ => .bindEq (m14d hF h) (.bind _ (t110 hF hd) fun d' hd' => .bind _ (t109 hF ⟨h, rng hg⟩ hd') fun y hy => .ite (fun h0 => .some fun h1 => ?_) fun h0 => ?_)
      · simp only at h1
        rw [h1] at h0
        cases h0
      · have M := hy (by simpa using h0)
        have S := M.sm (by omega) (by omega)
        refine .bindEq (m19 hF S) (.ite (fun _ => .some fun h => by simp at h) fun hq => .some fun _ => ⟨S, ?_⟩)
        simpa using hq
    refine .ite (fun _ => .brk (T.ite (fun _ => .some fun h => by simp at h) fun h => absurd rfl h)) fun _ => .brk ?_
    cases decide (5 < d.Kind)
    · exact rest
    · exact T.ite (fun _ => .some fun h => by simp at h) fun h => absurd rfl h
def actOk (a : TAct) : Prop := ∀ f ∈ a.Tree, f.Path.size ≤ 100
theorem t27 {F : Nat} {l : List TAct} (hF : 1000 ≤ F) : T (M27 F l) fun b => b = false → ∀ a ∈ l.take 30, actOk a := by
 unfold M27
 refine .ite (fun _ => .some fun h => by cases h) fun hl => ?_
 have hl : l.length ≤ 120 := by simp at hl; omega
 refine .loop (fun i => 0 ≤ i ∧ i ≤ l.length ∧ i ≤ 30 ∧ ∀ a ∈ l.take i.toNat, actOk a) (fun i => (l.length - i).toNat) (fun _ => ∀ a ∈ l.take 30, actOk a) (by omega) (by simp) (fun i hi => ?_) (fun i hi => .some fun _ => hi)
 obtain ⟨i0, i1, i2, i3⟩ := hi
 unfold M27_L0
 refine .after (.ite (fun hc => .brk (T.ite (fun hc2 => ?_) fun hc2 => .brk fun a ha => ?_)) fun hc => .brk (T.ite (fun h => by cases h) fun _ => .brk fun a ha => ?_))
 ·have hc := of_decide_eq_true hc
  have hc2 := of_decide_eq_true hc2
  rw [wr (n := i + 1) (by omega) (by omega)]
  refine .after (.ix (by omega) (by omega) fun x e hx => .ite (fun _ => .brk (T.ite (fun _ => .ret fun h => by cases h) fun h => absurd rfl h)) fun _ => .ix (by omega) (by omega) fun y e2 hy => .brk (T.ite (fun _ => .ret fun h => by cases h) fun ht => ?_))
  have ht : y.Tree.length ≤ 10 := by simp at ht; omega
  refine .loop (fun j => 0 ≤ j ∧ j ≤ y.Tree.length ∧ ∀ f ∈ y.Tree.take j.toNat, f.Path.size ≤ 100) (fun j => (y.Tree.length - j).toNat) (fun _ => actOk y) (by omega) (by simp) (fun j hj => ?_) (fun j hj => .go ⟨⟨by omega, by omega, by omega, take_step i0 e2 i3 hj⟩, by omega⟩)
  obtain ⟨j0, j1, j2⟩ := hj
  have same : ∀ z, l[i.toNat]? = some z → z = y := fun z hz => by rw [e2] at hz; exact (Option.some.inj hz).symm
  unfold M27_L2
  refine .ix (by omega) (by omega) fun z ez _ => ?_
  obtain rfl := same z ez
  refine .ite (fun hc => ?_) fun hc => .brk fun f hf => j2 f ?_
  ·have hc := of_decide_eq_true hc
   rw [wr (n := j + 1) (by omega) (by omega)]
   refine .after (.ix (by omega) (by omega) fun z2 ez2 _ => ?_)
   obtain rfl := same z2 ez2
   refine .ix (by omega) (by omega) fun f ef hf => .ite (fun _ => .brk (T.ite (fun _ => .ret (show (_ : Bool) = false → _ from fun h => by cases h)) fun h => absurd rfl h)) fun _ => .ix (by omega) (by omega) fun z3 ez3 _ => ?_
   obtain rfl := same z3 ez3
   refine .ix (by omega) (by omega) fun f ef hf => .brk (T.ite (fun _ => .ret (show (_ : Bool) = false → _ from fun h => by cases h)) fun hp => .go ⟨⟨by omega, by omega, take_step j0 ef j2 ?_⟩, by omega⟩)
   simp at hp
   omega
  ·have hc : ¬ (j < z.Tree.length) := by simpa using hc
   rw [List.take_of_length_le (by omega)]
   exact hf
 ·have hc2 : ¬ (i < 30) := by simpa using hc2
  have : i.toNat = 30 := by omega
  rw [this] at i3
  exact i3 a ha
 ·have hc : ¬ (i < l.length) := by simpa using hc
  refine i3 a ?_
  rw [List.take_of_length_le (by omega)]
  exact List.mem_of_mem_take ha
theorem and1 (x : Int) (hx : gI x) : bitsV .and .i64 x 1 = 0 ∨ bitsV .and .i64 x 1 = 1 := by
 have e : bitsV .and .i64 x 1 = IntKind.wrap .i64 ((BitVec.ofInt 64 x &&& BitVec.ofInt 64 1).toNat : Int) := rfl
 have e1 : (BitVec.ofInt 64 1).toNat = 1 := by decide
 rw [e, BitVec.toNat_and, e1, Nat.and_one_is_mod]
 rcases Nat.mod_two_eq_zero_or_one (BitVec.ofInt 64 x).toNat with h | h <;> rw [h]
 ·exact .inl rfl
 ·exact .inr rfl
theorem t29 {F : Nat} {l : List Int} (hF : 1000 ≤ F) (gl : gL gI l) : T (M29 F l) fun r => inR r.length 1 8 = true ∧ r.all poolB = true ∧ gL gI r := by
 unfold M29
 refine .loop (fun s => 0 ≤ s.2 ∧ s.2 ≤ l.length ∧ s.2 ≤ 8 ∧ (s.1.length : Int) = s.2 ∧ ∀ x ∈ s.1, x = 0 ∨ x = 1) (fun s => (8 - s.2).toNat) (fun s => s.1.length ≤ 8 ∧ ∀ x ∈ s.1, x = 0 ∨ x = 1) (by simp; omega) (by simp) (fun s hs => ?_) (fun s hs => ?_)
 ·obtain ⟨q, i⟩ := s
  simp only at hs
  unfold M29_L0
  refine .after (.ite (fun hc => .brk (T.ite (fun hc2 => ?_) fun hc2 => .brk ⟨by first | omega | (simp only; omega), hs.2.2.2.2⟩)) fun hc => .brk (T.ite (fun h => by cases h) fun _ => .brk ⟨by first | omega | (simp only; omega), hs.2.2.2.2⟩))
  have hc := of_decide_eq_true hc
  have hc2 := of_decide_eq_true hc2
  simp only at hc hc2
  rw [wr (n := i + 1) (by omega) (by omega)]
  refine .ix (by omega) (by omega) fun x _ hx => .app (by simp; omega) (.go ⟨⟨by first | omega | (simp only; omega), by first | omega | (simp only; omega), by first | omega | (simp only; omega), by simp; omega, fun y hy => ?_⟩, by first | omega | (simp only; omega)⟩)
  rcases List.mem_append.1 hy with h | h
  ·exact hs.2.2.2.2 y h
  ·rw [List.mem_singleton] at h
   exact h ▸ and1 x (gl x hx)
 ·obtain ⟨q, i⟩ := s
  simp only at hs
  have fin : ∀ r : List Int, 0 < r.length → r.length ≤ 8 → (∀ x ∈ r, x = 0 ∨ x = 1) → inR r.length 1 8 = true ∧ r.all poolB = true ∧ gL gI r := fun r h1 h2 h3 => by
   refine ⟨by unfold inR; simp; omega, ?_, fun x hx => ?_⟩
   ·rw [List.all_eq_true]
    intro x hx
    rcases h3 x hx with rfl | rfl <;> rfl
   ·rcases h3 x hx with rfl | rfl <;> simp [gI]
  refine .after (.ite (fun _ => .brk (.some (fin _ (by simp) (by simp) (by simp)))) fun hc => .brk (.some (fin _ ?_ hs.1 hs.2)))
  have : ¬ ((q.length : Int) = 0) := by simpa using hc
  omega
theorem t28 {F : Nat} {q : List Int} {l : List TAct} (hF : 1000 ≤ F) (h1 : inR q.length 1 8 = true) (h2 : q.all poolB = true) (h3 : gL gI q) (gl : gL g_Act l) (ho : ∀ a ∈ l.take 30, actOk a) : T (M28 F q l) fun c => Sm c ∧ good c = true := by
 have h8 : q.length ≤ 8 := by unfold inR at h1; simp at h1; omega
 unfold M28
 refine .bindEq (m32 hF (by omega)) ?_
 refine .loop (fun s => 0 ≤ s.2 ∧ s.2 ≤ 30 ∧ Sm s.1 ∧ good s.1 = true) (fun s => (30 - s.2).toNat) (fun s => Sm s.1 ∧ good s.1 = true) (by simp; omega) ⟨by simp, by simp, newC_sm h8 h3, newC_good h1 h2⟩ (fun s hs => ?_) (fun s hs => .some hs)
 obtain ⟨c, i⟩ := s
 simp only at hs
 obtain ⟨s1, s2, s3, s4⟩ := hs
 unfold M28_L0
 refine .after (.ite (fun hc => .brk (T.ite (fun hc2 => ?_) fun hc2 => .brk ⟨s3, s4⟩)) fun hc => .brk (T.ite (fun h => by cases h) fun _ => .brk ⟨s3, s4⟩))
 have hc := of_decide_eq_true hc
 have hc2 := of_decide_eq_true hc2
 simp only at hc hc2
 rw [wr (n := i + 1) (by omega) (by omega)]
 have go : ∀ c' : TCatalog, Sm c' → good c' = true → T (some (.go (c', i + 1)) : Option (Lp (TCatalog × Int) TCatalog)) (L3 (fun s' => (0 ≤ s'.2 ∧ s'.2 ≤ 30 ∧ Sm s'.1 ∧ good s'.1 = true) ∧ (30 - s'.2).toNat < (30 - i).toNat) (fun s => Sm s.1 ∧ good s.1 = true) (fun c => Sm c ∧ good c = true)) := fun c' h5 h6 => .go ⟨⟨by first | omega | (simp only; omega), by first | omega | (simp only; omega), h5, h6⟩, by first | omega | (simp only; omega)⟩
 refine .ix (by omega) (by omega) fun a ea ha => .bind _ (t66 hF ⟨s3, rng s4⟩ fun f hf => ⟨ho a (take_mem ea (by omega)) f hf, ((gl a ha).2.2.2.1 f hf).2⟩) fun y hy => .after (.ite (fun _ => .bind _ (t67 hF s3 s4 hy) fun z hz => .after (.ite (fun h0 => ?_) fun _ => .brk (.brk (go _ s3 s4)))) fun _ => .brk (go _ s3 s4))
 have := hz (by simpa using h0)
 exact .brk (.brk (go _ this.1 this.2))
open Go.Vm
def M10_L4 (fuel : Nat) (y0 : TCatalog) (q0 : Int) (q1 : Int) (q2 : Bool) (q3 : Int) : Option (Lp (Bool × Int) (Lp (Int) (Lp (Int) (Bool)))) :=
 (ix y0.Chunks q0).bind fun x0 => if (decide (q3 < (x0.Locs.length : Int))) = true then (after (if q2 = true then (some (.brk true)) else (ix y0.Chunks q0).bind fun x1 => (ix x1.Locs q3).bind fun x2 => some (.brk (x2.Vol == q1)) : Option (Lp (Bool) (Lp (Bool × Int) (Lp (Int) (Lp (Int) (Bool)))))) fun j0 => some (.go (j0, IntKind.wrap .i64 (q3 + 1)))) else some (.brk (q2, q3))
def M10_L2 (fuel : Nat) (y0 : TCatalog) (q0 : Int) (x0 : TChunk) (y1 : Bool) (q1 : Int) : Option (Lp (Int) (Lp (Int) (Bool))) :=
 if (decide (q1 < (y0.Vols.length : Int))) = true then (after (loopM (fun s => M10_L4 fuel y0 q0 q1 s.1 s.2) fuel (false, 0)) fun ⟨r0, r1⟩ => after ((M37 fuel y0 q1).bind fun y2 => (M45 fuel y2 x0.Id).bind fun y3 => if (y3 != r0) = true then (some (.brk true)) else (M38 fuel y0 q1).bind fun y4 => (M45 fuel y4 x0.Id).bind fun y5 => if y5 = true then (if y1 = true then (some (.brk (!r0))) else some (.brk (!false))) else some (.brk false) : Option (Lp (Bool) (Lp (Int) (Lp (Int) (Bool))))) fun j0 => if j0 = true then (some (.ret (.ret false))) else some (.go (IntKind.wrap .i64 (q1 + 1)))) else some (.brk q1)
def M10_L0 (fuel : Nat) (y0 : TCatalog) (q0 : Int) : Option (Lp (Int) (Bool)) :=
 if (decide (q0 < (y0.Chunks.length : Int))) = true then ((ix y0.Chunks q0).bind fun x0 => (M44 fuel y0 x0.Id).bind fun y1 => after ((M36 fuel y0 0).bind fun y2 => (M45 fuel y2 x0.Id).bind fun y3 => if y1 = true then ((ix y0.Chunks q0).bind fun x1 => (M46 fuel y0 x1.Locs 0).bind fun y4 => some (.brk (y3 != (!y4)))) else some (.brk (y3 != false)) : Option (Lp (Bool) (Lp (Int) (Bool)))) fun j0 => if j0 = true then (some (.ret false)) else after (loopM (fun s => M10_L2 fuel y0 q0 x0 y1 s) fuel 0) fun r0 => some (.go (IntKind.wrap .i64 (q0 + 1)))) else some (.brk q0)
def M10 (fuel : Nat) (p0 : List Int) (p1 : List TAct) : Option (Bool) :=
 after (if (decide (30 < (p0.length : Int))) = true then (some (.brk true)) else (M27 fuel p1).bind fun y9 => some (.brk y9) : Option (Lp (Bool) (Bool))) fun j7 => if j7 = true then (some true) else (M29 fuel p0).bind fun y0 => (M28 fuel y0 p1).bind fun y1 => after (loopM (fun s => M10_L0 fuel y1 s) fuel 0) fun r0 => (M39 fuel).bind fun y2 => some y2
set_option maxHeartbeats 4000000 in
set_option maxRecDepth 100000 in
theorem W10 {fuel : Nat} {p0 : List Int} {p1 : List TAct} {o : Bool} (h : Heap) (hm : M10 fuel p0 p1 = some o) :
 ACalls Try.prog 10 [.sl none 1 (List.map c_i64 p0), .sl none 5 (List.map c_Act p1)] h (fun r h' => r = .sc (.bool o) ∧ h' = h) := by
 refine ACv 111 [.tmp 4] Try.func10 rfl rfl rfl rfl ?_
 unfold M10 at hm
 refine v (vs (vs ?_))
 refine vjnH hm (σ := Bool) (τ := Unit) (fun g s => []) (fun g s => .c 0 (.sl none 1 (List.map c_i64 p0)) (.c 1 (.sl none 5 (List.map c_Act p1)) (.c 18 (.sc (.bool s)) .nil))) (fun x hm => ?_) ?_
 refine v (vln ln28 rfl ?_)
 refine vi hm (fun hb8 hm => ?_) fun hb8 hm => ?_
 rw [hb8]
 exact vgo hm () trivial (lx (.k3 .nil))
 rw [hb8]
 refine vk W27 bd27 hm rfl rfl fun _ hm => ?_
 exact vgo hm () trivial (lx (.k3 .nil))
 rintro _ j7 hm
 refine v ?_
 refine vi hm (fun hc0 hm => ?_) fun hc0 hm => ?_
 refine v (v ?_)
 injection hm with hm; subst hm
 exact vr1 rfl
 refine v (v ?_)
 refine vk W29 bd29 hm rfl rfl fun _ hm => ?_
 refine vk W28 bd28 hm rfl rfl fun y0 hm => ?_
 refine ve fun hk => a_alloc ([.sc (.int .i64 0), .sc (.slice none 0 0), .sc (.slice none 0 0), .sc (.slice none 0 0), .sc (.slice none 0 0)]) hk zr27 rfl rfl fun k19 hk0 => qk hk0 rfl ?_
 refine ve fun hk => a_store 0 (c_Catalog y0) hk rfl rfl rfl rfl sz27 rfl rfl fun hk1 => qk hk1 rfl ?_
 refine v ?_
 refine vlpH hm (σ := Int) (τ := Unit) (fun g s => [(some k19, .obj 27 (c_Catalog y0))]) (fun g s => .c 5 (.ptr k19 0) (.c 6 (.sc (.int .i64 s)) .nil)) () (lx (.k2 .nil)) ?_ ?_
 rintro _ q0 x hm
 replace hm : M10_L0 fuel y0 q0 = some x := hm
 unfold M10_L0 at hm
 refine v (vl 0 _ ld23 rfl rfl rfl (vln ln23 rfl (v ?_)))
 refine vi hm (fun hc1 hm => ?_) fun hc1 hm => ?_
 refine v (v (v (vl 0 _ ld23 rfl rfl rfl ?_)))
 refine vx hm el23 rfl rfl fun x0 _ hm => ?_
 refine va (.agg (c_id x0.Id)) ld61 rfl rfl ?_
 refine ve fun hk => a_alloc (c_id idZ) hk zr61 rfl rfl fun k670 hk2 => qk hk2 rfl ?_
 refine ve fun hk => a_store 0 (c_id x0.Id) hk rfl rfl rfl rfl sz61 rfl rfl fun hk3 => qk hk3 rfl ?_
 refine v (vl 1 (.agg (c_Catalog y0)) ld27 rfl rfl rfl (vl 0 (.agg (c_id x0.Id)) ld61 rfl rfl rfl ?_))
 refine vk W44 bd44 hm rfl rfl fun y1 hm => ?_
 refine vs (vs ?_)
 refine vjnH hm (σ := Bool) (τ := Unit) (fun g s => [(some k670, .obj 61 (c_id x0.Id)), (some k19, .obj 27 (c_Catalog y0))]) (fun g s => .c 5 (.ptr k19 0) (.c 6 (.sc (.int .i64 q0)) (.c 7 (.ptr k670 0) (.c 8 (.sc (.bool y1)) (.c 55 (.sc (.bool s)) .nil))))) (fun x hm => ?_) ?_
 refine v (vq (by kernel_rfl) (vl 1 (.agg (c_Catalog y0)) ld27 rfl rfl rfl ?_))
 refine vk W36 bd36 hm rfl rfl fun _ hm => ?_
 refine vl 0 (.agg (c_id x0.Id)) ld61 rfl rfl rfl ?_
 refine vk W45 bd45 hm rfl rfl fun _ hm => ?_
 refine vi hm (fun hb0 hm => ?_) fun hb0 hm => ?_
 rw [hb0]
 refine vl 1 (.agg (c_Catalog y0)) ld27 rfl rfl rfl (vl 1 _ ld23 rfl rfl rfl ?_)
 refine vx hm el23 rfl rfl fun _ _ hm => ?_
 refine vk W46 bd46 hm rfl rfl fun _ hm => ?_
 refine vn (fun _ => o_bb u4 rfl rfl rfl) ?_
 exact vgo hm () trivial (lx (.k3 (.cons ((by first | exact ALe.refl _ _ | exact ALe.of_eq (congrArg (fun z => AV.sc (.bool z)) hb0.symm))) (.cons (ALe.refl _ _) .nil))))
 rw [hb0]
 refine vn (fun _ => o_bb u4 rfl rfl rfl) ?_
 exact vgo hm () trivial (lx (.k3 (.cons ((by first | exact ALe.refl _ _ | exact ALe.of_eq (congrArg (fun z => AV.sc (.bool z)) hb0.symm))) (.cons (ALe.refl _ _) .nil))))
 rintro _ j0 hm
 refine v ?_
 refine vi hm (fun hc2 hm => ?_) fun hc2 hm => ?_
 refine v (v ?_)
 refine vrt hm fun hm => ?_
 injection hm with hm; subst hm
 exact vr1 rfl
 refine v (v ?_)
 refine vlpH hm (σ := Int) (τ := Unit) (fun g s => [(some k670, .obj 61 (c_id x0.Id)), (some k19, .obj 27 (c_Catalog y0))]) (fun g s => .c 5 (.ptr k19 0) (.c 6 (.sc (.int .i64 q0)) (.c 7 (.ptr k670 0) (.c 8 (.sc (.bool y1)) (.c 9 (.sc (.int .i64 s)) .nil))))) () (lx (.k5 .nil)) ?_ ?_
 rintro _ q1 x hm
 replace hm : M10_L2 fuel y0 q0 x0 y1 q1 = some x := hm
 unfold M10_L2 at hm
 refine v (vl 1 _ ld25 rfl rfl rfl (vln ln25 rfl (v ?_)))
 refine vi hm (fun hc3 hm => ?_) fun hc3 hm => ?_
 refine v (v (v (v ?_)))
 refine vlpH hm (σ := Bool × Int) (τ := Unit) (fun g s => [(some k670, .obj 61 (c_id x0.Id)), (some k19, .obj 27 (c_Catalog y0))]) (fun g s => .c 5 (.ptr k19 0) (.c 6 (.sc (.int .i64 q0)) (.c 7 (.ptr k670 0) (.c 8 (.sc (.bool y1)) (.c 9 (.sc (.int .i64 q1)) (.c 10 (.sc (.bool s.1)) (.c 11 (.sc (.int .i64 s.2)) .nil))))))) () (lx (.k7 .nil)) ?_ ?_
 rintro _ ⟨q2, q3⟩ x hm
 replace hm : M10_L4 fuel y0 q0 q1 q2 q3 = some x := hm
 unfold M10_L4 at hm
 refine v (vl 1 _ ld23 rfl rfl rfl ?_)
 refine vx hm el23 rfl rfl fun _ _ hm => ?_
 refine vln ln58 rfl (v ?_)
 refine vi hm (fun hc4 hm => ?_) fun hc4 hm => ?_
 refine v (v ?_)
 refine vjnH hm (σ := Bool) (τ := Unit) (fun g s => [(some k670, .obj 61 (c_id x0.Id)), (some k19, .obj 27 (c_Catalog y0))]) (fun g s => .c 5 (.ptr k19 0) (.c 6 (.sc (.int .i64 q0)) (.c 7 (.ptr k670 0) (.c 8 (.sc (.bool y1)) (.c 9 (.sc (.int .i64 q1)) (.c 10 (.sc (.bool s)) (.c 11 (.sc (.int .i64 q3)) .nil))))))) (fun x hm => ?_) ?_
 refine v ?_
 refine vi hm (fun hb1 hm => ?_) fun hb1 hm => ?_
 rw [hb1]
 exact vgo hm () trivial (lx (.k7 .nil))
 rw [hb1]
 refine vl 1 _ ld23 rfl rfl rfl ?_
 refine vx hm el23 rfl rfl fun _ _ hm => ?_
 refine vx hm el58 rfl rfl fun _ _ hm => ?_
 exact vgo hm () trivial (lx (.k7 .nil))
 rintro _ j1 hm
 refine v ?_
 exact vgo hm () trivial (lx (.k7 .nil))
 refine v ?_
 exact vbk hm () trivial (lx (.k7 .nil))
 rintro _ ⟨r0, r1⟩ hm
 refine vs ?_
 refine vjnH hm (σ := Bool) (τ := Unit) (fun g s => [(some k670, .obj 61 (c_id x0.Id)), (some k19, .obj 27 (c_Catalog y0))]) (fun g s => .c 5 (.ptr k19 0) (.c 6 (.sc (.int .i64 q0)) (.c 7 (.ptr k670 0) (.c 8 (.sc (.bool y1)) (.c 9 (.sc (.int .i64 q1)) (.c 109 (.sc (.bool s)) .nil)))))) (fun x hm => ?_) ?_
 refine v (vq (by kernel_rfl) (vl 1 (.agg (c_Catalog y0)) ld27 rfl rfl rfl ?_))
 refine vk W37 bd37 hm rfl rfl fun _ hm => ?_
 refine vl 0 (.agg (c_id x0.Id)) ld61 rfl rfl rfl ?_
 refine vk W45 bd45 hm rfl rfl fun _ hm => ?_
 refine vn (fun _ => o_bb u4 rfl rfl rfl) ?_
 refine vi hm (fun hb2 hm => ?_) fun hb2 hm => ?_
 rw [hb2]
 exact vgo hm () trivial (lx (.k6 .nil))
 rw [hb2]
 refine vl 1 (.agg (c_Catalog y0)) ld27 rfl rfl rfl ?_
 refine vk W38 bd38 hm rfl rfl fun _ hm => ?_
 refine vl 0 (.agg (c_id x0.Id)) ld61 rfl rfl rfl ?_
 refine vk W45 bd45 hm rfl rfl fun _ hm => ?_
 refine vi hm (fun hb3 hm => ?_) fun hb3 hm => ?_
 rw [hb3]
 refine vi hm (fun hb4 hm => ?_) fun hb4 hm => ?_
 rw [hb4]
 exact vgo hm () trivial (lx (.k3 (.cons ((by first | exact ALe.refl _ _ | exact ALe.of_eq (congrArg (fun z => AV.sc (.bool z)) hb4.symm))) (.k2 .nil))))
 rw [hb4]
 exact vgo hm () trivial (lx (.k3 (.cons ((by first | exact ALe.refl _ _ | exact ALe.of_eq (congrArg (fun z => AV.sc (.bool z)) hb4.symm))) (.k2 .nil))))
 rw [hb3]
 exact vgo hm () trivial (lx (.k6 .nil))
 rintro _ j2 hm
 refine v ?_
 refine vi hm (fun hc5 hm => ?_) fun hc5 hm => ?_
 refine v (v ?_)
 refine vrt hm fun hm => ?_
 refine vrt hm fun hm => ?_
 injection hm with hm; subst hm
 exact vr1 rfl
 refine v (v ?_)
 exact vgo hm () trivial (lx (.k5 .nil))
 refine v ?_
 exact vbk hm () trivial (lx (.k5 .nil))
 rintro _ r2 hm
 refine v ?_
 exact vgo hm () trivial (lxs [1] rfl rfl (.k2 .nil))
 refine v ?_
 exact vbk hm () trivial (lx (.k2 .nil))
 rintro _ r3 hm
 refine v ?_
 refine vk W39 bd39 hm rfl rfl fun _ hm => ?_
 refine v ?_
 injection hm with hm; subst hm
 exact vr1 rfl
open Go.Vm
theorem uniq {c : TCatalog} (h : Sm c) (hg : good c = true) {i j : Nat} {x y : TChunk} (hx : c.Chunks[i]? = some x) (hy : c.Chunks[j]? = some y) (e : y.Id = x.Id) : y = x := by
 have h1 := chunk_at h hg hx
 have h2 := chunk_at h hg hy
 rw [e] at h2
 have : i = j := by omega
 subst this
 rw [hx] at hy
 cases hy
 rfl
def hasC (l : List TItem) (d : Id32) : Bool := l.any fun z => z.Kind == 1 && decide (z.Id = d)
theorem m45 {F : Nat} {l : List TItem} {d : Id32} (hF : 1000 ≤ F) (hl : l.length ≤ 900) : M45 F l d = some (hasC l d) := by
 unfold M45 hasC
 rw [any_loop (l := l) (F := F) (fun z => z.Kind == 1 && decide (z.Id = d)) true (by omega) (fun i x hx hm hi => by
  unfold M45_L0
  rw [wr1 (by omega)]
  simp only [ix_nat, hx, Option.bind_some, Int.ofNat_lt, hi, decide_true, if_true]
  cases x.Kind == 1 <;> cases decide (x.Id = d) <;> rfl) (by unfold M45_L0; simp)]
 cases l.any fun z => z.Kind == 1 && decide (z.Id = d) <;> rfl
theorem hasC_allL {c : TCatalog} {g : List TLoc → Bool → Bool} (h : Sm c) (hg : good c = true) {i : Nat} {x : TChunk} (hx : c.Chunks[i]? = some x) : hasC (allL c g) x.Id = g x.Locs (usedB c x.Id) := by
 unfold hasC allL
 rw [List.any_append, List.any_append]
 have e2 : (((c.Snaps.filter fun x => g x.Locs true).map it2).any fun z => z.Kind == 1 && decide (z.Id = x.Id)) = false := by
  rw [List.any_eq_false]
  intro z hz
  obtain ⟨y, -, rfl⟩ := List.mem_map.1 hz
  simp [it2]
 have e3 : (((c.Exps.filter fun x => g x.Locs true).map it3).any fun z => z.Kind == 1 && decide (z.Id = x.Id)) = false := by
  rw [List.any_eq_false]
  intro z hz
  obtain ⟨y, -, rfl⟩ := List.mem_map.1 hz
  simp [it3]
 rw [e2, e3, Bool.or_false, Bool.or_false, Bool.eq_iff_iff, List.any_eq_true]
 constructor
 ·rintro ⟨z, hz, he⟩
  obtain ⟨y, hy, rfl⟩ := List.mem_map.1 hz
  obtain ⟨hy1, hy2⟩ := List.mem_filter.1 hy
  have h5 : (((1 : Int) == 1) && decide (y.Id = x.Id)) = true := he
  simp only [beq_self_eq_true, Bool.true_and] at h5
  have hid : y.Id = x.Id := of_decide_eq_true h5
  obtain ⟨j, hj, hjy⟩ := List.getElem_of_mem hy1
  have := uniq h hg hx (j := j) (y := y) (by rw [List.getElem?_eq_getElem hj, hjy]) hid
  subst this
  exact hy2
 ·intro hq
  exact ⟨it1 x, List.mem_map.2 ⟨x, List.mem_filter.2 ⟨List.mem_of_getElem? hx, hq⟩, rfl⟩, by simp [it1]⟩
theorem dead_L4 {F : Nat} {c : TCatalog} {i : Nat} {x : TChunk} {v : Int} (hF : 1000 ≤ F) (h : Sm c) (hx : c.Chunks[i]? = some x) :
    loopM (fun s : Bool × Int => M10_L4 F c (i : Int) v s.1 s.2) F (false, 0) = some (.brk (onV v x.Locs, (x.Locs.length : Int))) := by
  have hl := (h.cl x (List.mem_of_getElem? hx)).1
  have := go_loop (body := fun s : Bool × Int => M10_L4 F c (i : Int) v s.1 s.2) (s0 := (false, (0 : Int))) (n := x.Locs.length) (F := F) (fun k : Nat => ((x.Locs.take k).any fun y => y.Vol == v, (k : Int))) (by omega) (by simp) (fun k hk => by
    have hy : x.Locs[k]? = some x.Locs[k] := List.getElem?_eq_getElem hk
    have htk := List.take_succ_eq_append_getElem hk
    generalize x.Locs[k] = y at hy htk
    dsimp only
    unfold M10_L4
    rw [wr1 (by omega)]
    simp only [ix_nat, hx, hy, Option.bind_some, Int.ofNat_lt, hk, decide_true, if_true, htk, List.any_append, List.any_cons, List.any_nil, Bool.or_false]
    cases (x.Locs.take k).any fun y => y.Vol == v
    · simp [after]
    · simp [after]) (by
    dsimp only
    unfold M10_L4
    simp [ix_nat, hx])
  rw [this, List.take_length]
  rfl
theorem dead_L2 {F : Nat} {c : TCatalog} {i : Nat} {x : TChunk} (hF : 1000 ≤ F) (h : Sm c) (hg : good c = true) (hx : c.Chunks[i]? = some x) :
    loopM (fun s : Int => M10_L2 F c (i : Int) x (usedB c x.Id) s) F 0 = some (.brk (c.Vols.length : Int)) := by
  have hvo := h.vo
  refine go_loop (s0 := (0 : Int)) (n := c.Vols.length) (F := F) (fun k : Nat => (k : Int)) (by omega) rfl (fun k hk => ?_) ?_
  · unfold M10_L2
    rw [if_pos (by simpa using hk), dead_L4 hF h hx, wr1 (by omega)]
    simp only [after_brk]
    rw [m37 hF h, m38 hF h, hg]
    have hk' : (True ∧ 0 ≤ (k : Int) ∧ (k : Int) < (c.Vols.length : Int)) := ⟨trivial, by omega, by omega⟩
    simp only [if_true, if_pos hk', Option.bind_some]
    rw [m45 hF (Nat.le_trans (onL_len h) (by omega)), m45 hF (Nat.le_trans (allL_len h) (by omega)), hasC_allL h hg hx]
    have e1 : hasC (onL c (k : Int)) x.Id = onV (k : Int) x.Locs := hasC_allL (g := fun l _ => onV (k : Int) l) h hg hx
    rw [e1]
    simp only [Option.bind_some, bne_self_eq_false, Bool.false_eq_true, if_false]
    unfold movB
    cases usedB c x.Id <;> cases onV (k : Int) x.Locs <;> cases ((x.Locs.filter fun y => !(y.Vol == (k : Int))).any (inP c ((c.Vols[(k : Int).toNat]?).elim 0 (·.Pool)))) <;> rfl
  · unfold M10_L2
    simp
theorem dead_L0 {F : Nat} {c : TCatalog} (hF : 1000 ≤ F) (h : Sm c) (hg : good c = true) : loopM (fun s : Int => M10_L0 F c s) F 0 = some (.brk (c.Chunks.length : Int)) := by
 have hvo := h.vo
 have hch := h.ch
 refine go_loop (s0 := (0 : Int)) (n := c.Chunks.length) (F := F) (fun k : Nat => (k : Int)) (by omega) rfl (fun k hk => ?_) ?_
 ·have hx : c.Chunks[k]? = some c.Chunks[k] := List.getElem?_eq_getElem hk
  have hl := (h.cl c.Chunks[k] (List.getElem_mem hk)).1
  generalize c.Chunks[k] = x at hx hl
  unfold M10_L0
  rw [if_pos (by simpa using hk), wr1 (by omega)]
  simp only [ix_nat, hx, Option.bind_some]
  rw [m44 hF h, m36 hF h, hg]
  have h0 : (True ∧ (0 : Int) ≤ 0 ∧ (0 : Int) ≤ 1) := ⟨trivial, by omega, by omega⟩
  simp only [Option.bind_some, if_pos h0]
  have e1 : hasC (lacks c 0) x.Id = (usedB c x.Id && laB c 0 x.Locs) := hasC_allL (g := fun l b => b && laB c 0 l) h hg hx
  rw [m45 (l := lacks c 0) hF (Nat.le_trans (allL_len h) (by omega)), e1, m46 hF (by omega : c.Vols.length < 1000) hl, dead_L2 hF h hg hx]
  simp only [Option.bind_some]
  unfold laB
  cases usedB c x.Id <;> cases x.Locs.any (inP c 0) <;> rfl
 ·unfold M10_L0
  simp
theorem stage_dead {q : List Int} {l : List TAct} (gq : gL gI q) (gl : gL g_Act l) : M10 1000 q l = some true := by
 have hF : 1000 ≤ 1000 := Nat.le_refl _
 have key : T (M10 1000 q l) fun b => b = true := by
  unfold M10
  refine .after (.ite (fun _ => .brk (T.ite (fun _ => .some rfl) fun h => absurd rfl h)) fun _ => .bind _ (t27 hF) fun b hb => .brk (T.ite (fun _ => .some rfl) fun hb0 => ?_))
  have ho := hb (by simpa using hb0)
  refine .bind _ (t29 hF gq) fun q hq => .bind _ (t28 hF hq.1 hq.2.1 hq.2.2 gl ho) fun c hc => ?_
  obtain ⟨h, hg⟩ := hc
  refine .of (a := true) ?_ rfl
  rw [dead_L0 hF h hg]
  simp only [after_brk, m39, Option.bind_some]
 obtain ⟨b, hb, rfl⟩ := key
 exact hb
theorem stage_dead2 {q : List Int} {l : List TAct} (gq : gL gI q) (gl : gL g_Act l) : M10 1000 q l = some true := stage_dead gq gl
end Go.Proofs.Ytoomgangpjcaoaa
