import Derived.Test.YtoomgangpjcaoaaK6P5
import Derived.Test.YtoomgangpjcaoaaK6P7
import Derived.Test.YtoomgangpjcaoaaK6P4
set_option linter.unusedSimpArgs false
set_option linter.unusedVariables false
namespace Go.Vm
def T {α : Type} (m : Option α) (Q : α → Prop) : Prop := ∃ a, m = some a ∧ Q a
def L3 {σ ρ : Type} (G B : σ → Prop) (R : ρ → Prop) : Lp σ ρ → Prop
 | .go s => G s
 | .brk s => B s
 | .ret r => R r
section
variable {α β σ ρ : Type} {Q : β → Prop}
theorem T.some {a : β} (h : Q a) : T (some a) Q := ⟨a, rfl, h⟩
theorem T.mono {P : β → Prop} {m : Option β} (h : T m P) (k : ∀ a, P a → Q a) : T m Q := by obtain ⟨a, e, p⟩ := h; exact ⟨a, e, k a p⟩
theorem T.of {m : Option β} {a : β} (h : m = .some a) (hq : Q a) : T m Q := ⟨a, h, hq⟩
theorem T.bind {m : Option α} {k : α → Option β} (P : α → Prop) (h : T m P) (hk : ∀ a, P a → T (k a) Q) : T (m.bind k) Q := by
 obtain ⟨a, e, p⟩ := h
 rw [e]; exact hk a p
theorem T.bindEq {m : Option α} {k : α → Option β} {a : α} (h : m = .some a) (hk : T (k a) Q) : T (m.bind k) Q := by rw [h]; exact hk
theorem T.ite {c : Prop} [Decidable c] {a b : Option β} (h1 : c → T a Q) (h2 : ¬c → T b Q) : T (if c then a else b) Q := by
 by_cases h : c
 ·rw [if_pos h]; exact h1 h
 ·rw [if_neg h]; exact h2 h
theorem T.grd {b : Bool} {k : Option β} (hb : b = true) (h : T k Q) : T (grd b k) Q := by unfold Go.Vm.grd; rw [if_pos hb]; exact h
theorem T.ix {l : List α} {i : Int} {k : α → Option β} (h0 : 0 ≤ i) (h1 : i < l.length) (hk : ∀ x, l[i.toNat]? = Option.some x → x ∈ l → T (k x) Q) : T ((ix l i).bind k) Q := by
 have hx : l[i.toNat]? = Option.some l[i.toNat] := List.getElem?_eq_getElem (by omega)
 rw [ix_pos l h0, hx]
 exact hk _ hx (List.getElem_mem _)
theorem T.app {xs ys : List α} {k : List α → Option β} (h : xs.length + ys.length ≤ 1000000000) (hk : T (k (xs ++ ys)) Q) : T ((app xs ys).bind k) Q := by rw [app_some h]; exact hk
theorem T.slc {l : List α} {a b : Int} {k : List α → Option β} (h : 0 ≤ a ∧ a ≤ b ∧ b ≤ l.length) (hk : T (k ((l.take b.toNat).drop a.toNat)) Q) : T ((slc l a b).bind k) Q := by unfold Go.Vm.slc; rw [if_pos h]; exact hk
variable {R : ρ → Prop} {G B : σ → Prop}
theorem T.go {s : σ} (h : G s) : T (.some (Lp.go s)) (L3 G B R) := ⟨_, rfl, h⟩
theorem T.brk {s : σ} (h : B s) : T (.some (Lp.brk s)) (L3 G B R) := ⟨_, rfl, h⟩
theorem T.ret {r : ρ} (h : R r) : T (.some (Lp.ret r)) (L3 G B R) := ⟨_, rfl, h⟩
theorem T.after {m : Option (Lp σ ρ)} {k : σ → Option ρ} (h : T m (L3 (fun _ => False) (fun s => T (k s) R) R)) : T (after m k) R := by
 obtain ⟨a, e, p⟩ := h
 rw [e]
 cases a with
 | go s => exact p.elim
 | brk s => exact p
 | ret r => exact ⟨_, rfl, p⟩
theorem T.loopAt {step : σ → Option (Lp σ ρ)} (I : σ → Prop) (μ : σ → Nat) (hs : ∀ s, I s → T (step s) (L3 (fun s' => I s' ∧ μ s' < μ s) B R)) : ∀ (F : Nat) (s : σ), I s → μ s < F → T (loopM step F s) (L3 (fun _ => False) B R)
 | 0, _, _, h => by omega
 | F + 1, s, hi, hm => by
  obtain ⟨a, e, p⟩ := hs s hi
  unfold loopM
  rw [e]
  cases a with
  | go s' => exact T.loopAt I μ hs F s' p.1 (by have := p.2; omega)
  | brk s' => exact ⟨_, rfl, p⟩
  | ret r => exact ⟨_, rfl, p⟩
theorem T.loop {step : σ → Option (Lp σ ρ)} {F : Nat} {s0 : σ} {k : σ → Option ρ} (I : σ → Prop) (μ : σ → Nat) (B : σ → Prop) (hm : μ s0 < F) (h0 : I s0) (hs : ∀ s, I s → T (step s) (L3 (fun s' => I s' ∧ μ s' < μ s) B R)) (hk : ∀ s, B s → T (k s) R) :
    T (Go.Vm.after (loopM step F s0) k) R := T.after ((T.loopAt I μ hs F s0 h0 hm).mono fun a => by
      cases a with
      | go s => exact fun h => h.elim
      | brk s => exact hk s
      | ret r => exact id)
end
theorem ArL {n : Nat} (x : Ar n) : x.1.length = n := x.2
theorem wrU8 (n : Int) : 0 ≤ IntKind.wrap .u8 n ∧ IntKind.wrap .u8 n < 256 := by rw [wrap_u8_mod]; omega
theorem wrI (n : Int) : -9223372036854775808 ≤ IntKind.wrap .i64 n ∧ IntKind.wrap .i64 n < 9223372036854775808 := by
 have e : IntKind.wrap .i64 n = (if decide (n % 18446744073709551616 ≥ 9223372036854775808) = true then n % 18446744073709551616 - 18446744073709551616 else n % 18446744073709551616) := rfl
 rw [e]
 simp only [decide_eq_true_eq]
 split <;> omega
end Go.Vm
namespace Go.Proofs.Ytoomgangpjcaoaa
open Go.Vm
theorem t134 {F : Nat} {a b : Int} (hb : 0 ≤ b) : T (M134 F a b) fun _ => True := by
 unfold M134
 refine .grd (by simpa using hb) (.grd (by simpa using wru0 _) (.some trivial))
theorem t133 {F : Nat} {l : List Int} (hF : 1000 ≤ F) (hl : l.length ≤ 300) : T (M133 F l) fun r => r.length % 64 = 0 ∧ r.length ≤ l.length + 80 := by
 unfold M133
 refine .app (by simp; omega) (.app (by simp; omega) ?_)
 refine .loop (fun q => l.length + 1 ≤ q.length ∧ q.length ≤ (l.length + 72) / 64 * 64 - 8 + 0 ∧ l.length + 9 ≤ (l.length + 72) / 64 * 64) (fun q => (l.length + 72) / 64 * 64 - 8 - q.length) (fun q => (q.length + 8) % 64 = 0 ∧ q.length ≤ l.length + 64) (by simp; omega) (by simp; omega) (fun q hq => ?_) (fun q hq => ?_)
 ·unfold M133_L0
  rw [wr (by omega) (by omega), Int.tmod_eq_emod_of_nonneg (by omega)]
  refine .ite (fun hc => ?_) fun hc => ?_
  ·have : ((q.length : Int) + 8) % 64 ≠ 0 := by simpa using hc
   refine .app (by simp; omega) (.go ?_)
   simp only [List.length_append, List.length_singleton]
   omega
  ·have : ((q.length : Int) + 8) % 64 = 0 := by simpa using hc
   exact .brk (by omega)
 ·refine .loop (fun s => -1 ≤ s.2 ∧ s.2 ≤ 7 ∧ (s.1.length : Int) + s.2 = q.length + 7) (fun s => (s.2 + 1).toNat) (fun s => s.1.length = q.length + 8) (by simp; omega) (by simp) (fun s hs => ?_) (fun s hs => .some (by omega))
  obtain ⟨a, i⟩ := s
  unfold M133_L2
  simp only at hs ⊢
  refine .ite (fun hc => ?_) fun hc => ?_
  ·have hc := of_decide_eq_true hc
   rw [wr (n := i - 1) (by omega) (by omega)]
   refine .grd (by simpa using wru0 _) (.app (by simp; omega) (.go ?_))
   simp only [List.length_append, List.length_singleton]
   omega
  ·exact .brk (by simp only [decide_eq_true_eq] at hc; show a.length = _; omega)
theorem t108 {F : Nat} {d : List Int} (hF : 1000 ≤ F) (hl : d.length ≤ 300) : T (M108 F d) gId := by
 unfold M108
 refine .bind (fun _ => True) ⟨_, rfl, trivial⟩ fun y6 _ => ?_
 refine .bind _ (t133 hF hl) fun y hy => ?_
 refine .loop (fun s => 0 ≤ s.2 ∧ s.2 % 64 = 0 ∧ s.2 ≤ y.length) (fun s => (y.length - s.2).toNat) (fun _ => True) (by simp; omega) (by simp) (fun s hs => ?_) (fun s _ => ?_)
 ·obtain ⟨h, i⟩ := s
  unfold M108_L0
  simp only at hs ⊢
  refine .ite (fun hc => ?_) fun hc => .brk trivial
  have hc := of_decide_eq_true hc
  refine .loop (fun s => 0 ≤ s.2 ∧ s.2 ≤ 64) (fun s => (64 - s.2).toNat) (fun _ => True) (by simp; omega) (by simp) (fun s hs2 => ?_) (fun s _ => ?_)
  ·obtain ⟨w, j⟩ := s
   unfold M108_L2
   simp only at hs2 ⊢
   refine .ite (fun hc2 => ?_) fun hc2 => .brk trivial
   have hc2 := of_decide_eq_true hc2
   have fin : IntKind.wrap .i64 (j + 1) = j + 1 := wr (by omega) (by omega)
   refine .after (.ite (fun hc3 => ?_) fun hc3 => ?_)
   ·have hc3 := of_decide_eq_true hc3
    refine .loop (fun s => 0 ≤ s.2 ∧ s.2 ≤ 4) (fun s => (4 - s.2).toNat) (fun _ => True) (by simp; omega) (by simp) (fun s hs4 => ?_) (fun s _ => .brk (.go (by rw [fin]; simp only; omega)))
    obtain ⟨w, k⟩ := s
    unfold M108_L4
    simp only at hs4 ⊢
    refine .ite (fun hc4 => ?_) fun hc4 => .brk trivial
    have hc4 := of_decide_eq_true hc4
    rw [wr (n := 4 * j) (by omega) (by omega), wr (n := i + 4 * j) (by omega) (by omega), wr (n := i + 4 * j + k) (by omega) (by omega), wr (n := k + 1) (by omega) (by omega)]
    refine .ix (by omega) (by rw [ArL]; omega) fun _ _ _ => .ix (by omega) (by omega) fun _ _ _ => .ix (by omega) (by rw [ArL]; omega) fun _ _ _ => .go ?_
    simp only
    omega
   ·have hc3 : ¬ j < 16 := by simpa using hc3
    rw [wr (n := j - 15) (by omega) (by omega), wr (n := j - 2) (by omega) (by omega), wr (n := j - 16) (by omega) (by omega), wr (n := j - 7) (by omega) (by omega)]
    refine .ix (by omega) (by rw [ArL]; omega) fun _ _ _ => .ix (by omega) (by rw [ArL]; omega) fun _ _ _ => .ix (by omega) (by rw [ArL]; omega) fun _ _ _ => .ix (by omega) (by rw [ArL]; omega) fun _ _ _ => ?_
    refine .bind _ (t134 (by omega)) fun _ _ => .bind _ (t134 (by omega)) fun _ _ => .bind _ (t134 (by omega)) fun _ _ => .bind _ (t134 (by omega)) fun _ _ => ?_
    refine .ix (by omega) (by rw [ArL]; omega) fun _ _ _ => .brk (.go ?_)
    rw [fin]; simp only; omega
  ·refine .loop (fun s => 0 ≤ s.2 ∧ s.2 ≤ 64) (fun s => (64 - s.2).toNat) (fun _ => True) (by simp; omega) (by simp) (fun s hs2 => ?_) (fun s _ => ?_)
   ·obtain ⟨w, j⟩ := s
    unfold M108_L6
    simp only at hs2 ⊢
    refine .ite (fun hc2 => ?_) fun hc2 => .brk trivial
    have hc2 := of_decide_eq_true hc2
    have fin : IntKind.wrap .i64 (j + 1) = j + 1 := wr (by omega) (by omega)
    rw [fin]
    repeat' (first | exact trivial | refine T.bind _ (t134 (by omega)) fun _ _ => ?_ | refine T.ix (by omega) (by rw [ArL]; omega) fun _ _ _ => ?_)
    refine .go ?_
    simp only; omega
   ·refine .loop (fun s => 0 ≤ s.2 ∧ s.2 ≤ 8) (fun s => (8 - s.2).toNat) (fun _ => True) (by simp; omega) (by simp) (fun s hs2 => ?_) (fun s _ => ?_)
    ·obtain ⟨w, j⟩ := s
     unfold M108_L8
     simp only at hs2 ⊢
     refine .ite (fun hc2 => ?_) fun hc2 => .brk trivial
     have hc2 := of_decide_eq_true hc2
     rw [wr (n := j + 1) (by omega) (by omega)]
     refine .ix (by omega) (by rw [ArL]; omega) fun _ _ _ => .ix (by omega) (by rw [ArL]; omega) fun _ _ _ => .ix (by omega) (by rw [ArL]; omega) fun _ _ _ => .go ?_
     simp only; omega
    ·rw [wr (n := i + 64) (by omega) (by omega)]
     refine .go ?_
     simp only; omega
 ·refine .loop (fun s => 0 ≤ s.2 ∧ s.2 ≤ 32 ∧ gId s.1) (fun s => (32 - s.2).toNat) (fun s => gId s.1) (by simp; omega) ⟨by simp, by simp, ?_⟩ (fun s hs2 => ?_) (fun s hs => .some hs)
  ·intro x hx
   have : x = 0 := List.eq_of_mem_replicate hx
   subst this
   exact ⟨by omega, by omega⟩
  ·obtain ⟨w, j⟩ := s
   unfold M108_L10
   simp only at hs2 ⊢
   refine .ite (fun hc2 => ?_) fun hc2 => .brk hs2.2.2
   have hc2 := of_decide_eq_true hc2
   rw [wr (n := j + 1) (by omega) (by omega), Int.tdiv_eq_ediv_of_nonneg (by omega), wr (n := j / 4) (by omega) (by omega)]
   refine .ix (by omega) (by rw [ArL]; omega) fun _ _ _ => .grd (by simpa using wru0 _) (.ix (by omega) (by rw [ArL]; omega) fun _ _ _ => .go ⟨⟨?_, ?_, ?_⟩, ?_⟩)
   ·simp only; omega
   ·simp only; omega
   ·intro x hx
    rcases List.mem_or_eq_of_mem_set hx with h | rfl
    ·exact hs2.2.2 x h
    ·exact wrU8 _
   ·simp only; omega
end Go.Proofs.Ytoomgangpjcaoaa
namespace Go.Vm
section
variable {α β ρ : Type} {Q : β → Prop}
theorem T.ins {l : List α} {r : Int} {y : α} {k : List α → Option β} (h : 0 ≤ r ∧ r ≤ l.length) (hl : l.length ≤ 1000000) (hk : ∀ z : List α, z.length = l.length + 1 → (∀ x ∈ z, x ∈ l ∨ x = y) → T (k z) Q) :
    T ((Go.Vm.slc l 0 r).bind fun x => (Go.Vm.app ([] : List α) x).bind fun z => (Go.Vm.app z ([y] : List α)).bind fun z2 => (Go.Vm.slc l r l.length).bind fun x2 => (Go.Vm.app z2 x2).bind k) Q := by
  refine .slc (by omega) (.app (by simp; omega) (.app (by simp; omega) (.slc (by omega) (.app (by simp; omega) (hk _ (by simp; omega) fun x hx => ?_)))))
  simp only [List.mem_append, List.mem_singleton] at hx
  rcases hx with ((h | h) | h) | h
  · simp at h
  · exact .inl (List.mem_of_mem_take (List.mem_of_mem_drop h))
  · exact .inr h
  · exact .inl (List.mem_of_mem_take (List.mem_of_mem_drop h))
theorem T.scan {Q : ρ → Prop} {l : List α} {F : Nat} {body : Int → Option (Lp Int ρ)} {g : α → Option (Lp Bool (Lp Int ρ))} {k : Int → Option ρ} (hF : l.length < F) (hl : l.length < 1000000)
    (hb : ∀ i, body i = Go.Vm.after (if decide (i < (l.length : Int)) = true then (Go.Vm.ix l i).bind g else Option.some (.brk false)) fun j => if j = true then Option.some (.go (IntKind.wrap .i64 (i + 1))) else Option.some (.brk i))
    (hg : ∀ x ∈ l, T (g x) (L3 (fun _ => False) (fun _ => True) (fun _ => False))) (hk : ∀ r : Int, 0 ≤ r ∧ r ≤ l.length → T (k r) Q) : T (Go.Vm.after (loopM body F 0) k) Q := by
  refine .loop (fun i => 0 ≤ i ∧ i ≤ l.length) (fun i => (l.length - i).toNat) (fun i => 0 ≤ i ∧ i ≤ l.length) (by omega) (by omega) (fun i hi => ?_) (fun i hi => hk i hi)
  rw [hb]
  refine .after (.ite (fun hc => ?_) fun hc => .brk ?_)
  · have hc := of_decide_eq_true hc
    refine .ix (by omega) (by omega) fun x _ hx => (hg x hx).mono fun a ha => ?_
    cases a with
    | go s => exact ha
    | ret s => exact ha.elim
    | brk s =>
      refine T.ite (fun _ => .go ?_) fun _ => .brk hi
      rw [wr (by omega) (by omega)]
      omega
  · exact T.ite (fun h => by cases h) fun _ => .brk hi
end
end Go.Vm
namespace Go.Proofs.Ytoomgangpjcaoaa
open Go.Vm
def fOk (f : TFile) : Prop := f.Path.size ≤ 100 ∧ gL gB f.Data
def fSm (f : TFile) : Prop := fOk f ∧ f.Data.length ≤ 200
theorem t129 {F : Nat} {l : List TFile} (hF : 1000 ≤ F) : T (M129 F l) fun b => b = false → l.length ≤ 6 ∧ ∀ x ∈ l, x.Data.length ≤ 200 := by
 unfold M129
 refine .ite (fun hc => .some fun h => by cases h) fun hc => ?_
 have hc : l.length ≤ 6 := by simp at hc; omega
 rw [any_loop (l := l) (fun x => decide (200 < (x.Data.length : Int))) true (by omega) (fun i x hx _ hi => by
  unfold M129_L0
  rw [wr1 (by omega)]
  simp only [ix_nat, hx, Option.bind_some, Int.ofNat_lt, hi, decide_true, if_true]
  split <;> rfl) (by unfold M129_L0; simp)]
 cases h : l.any fun x => decide (200 < (x.Data.length : Int))
 ·refine .some fun _ => ⟨hc, fun x hx => ?_⟩
  have := List.any_eq_false.1 h x hx
  simp at this
  omega
 ·exact .some fun h => by cases h
theorem t106 {F : Nat} {l : List TFile} (hF : 1000 ≤ F) (ho : ∀ f ∈ l, fOk f) : T (M106 F l) fun r => r.2 = 0 → r.1.length ≤ 6 ∧ ∀ f ∈ r.1, fSm f := by
  unfold M106
  refine .bind _ (t129 hF) fun b hb => .ite (fun _ => .some fun h => by simp at h) fun hc => ?_
  obtain ⟨hn, hd⟩ := hb (by simpa using hc)
  refine .loop (fun i => 0 ≤ i ∧ i ≤ l.length) (fun i => (l.length - i).toNat) (fun _ => True) (by omega) (by omega) (fun i hi => ?_) (fun i _ => ?_)
  · unfold M106_L0
    refine .ite (fun hc => ?_) fun hc => .brk trivial
    have hc := of_decide_eq_true hc
    refine .ix (by omega) (by omega) fun x _ hx => .bindEq (m104 hF (ho x hx).1) (.ite (fun _ => .ret fun h => by simp at h) fun _ => .go ?_)
    rw [wr (by omega) (by omega)]
    omega
  · refine .loop (fun s => 0 ≤ s.2 ∧ s.2 ≤ l.length ∧ (s.1.length : Int) = s.2 ∧ ∀ f ∈ s.1, fSm f) (fun s => (l.length - s.2).toNat) (fun s => s.1.length ≤ 6 ∧ ∀ f ∈ s.1, fSm f) (by simp; omega) (by simp) (fun s hs => ?_) (fun s hs => .some fun _ => hs)
    obtain ⟨q, i⟩ := s
    simp only at hs
    unfold M106_L2
    refine .ite (fun hc => ?_) fun hc => .brk ⟨by simp only; omega, hs.2.2.2⟩
    have hc := of_decide_eq_true hc
    simp only at hc
    refine .loop (fun j => 0 ≤ j ∧ j ≤ q.length) (fun j => (q.length - j).toNat) (fun j => 0 ≤ j ∧ j ≤ q.length) (by omega) (by omega) (fun j hj => ?_) (fun j hj => ?_)
    · unfold M106_L4
      have fin : j < q.length → 0 ≤ IntKind.wrap .i64 (j + 1) ∧ IntKind.wrap .i64 (j + 1) ≤ q.length ∧ (q.length - IntKind.wrap .i64 (j + 1)).toNat < (q.length - j).toNat := fun h => by
        rw [wr (by omega) (by omega)]; omega
      refine .after (.ite (fun hc2 => ?_) fun hc2 => .brk (T.ite (fun h => by cases h) fun _ => .brk hj))
      have hc2 := of_decide_eq_true hc2
      have := fin hc2
      refine .ix (by omega) (by omega) fun x _ hx => .ix (by omega) (by omega) fun y _ hy => .brk (T.ite (fun _ => .go (by omega)) fun _ => .brk hj)
    · have rest : T (if (false : Bool) = true then some (.ret ([], 9)) else (slc q 0 j).bind fun x494 => (ix l i).bind fun x496 => (ix l i).bind fun x498 => (app ([] : List TFile) x494).bind fun z500 => (M100 F x498.Data).bind fun y506 => (app z500 ([({ Path := x496.Path, Data := y506 } : TFile)] : List TFile)).bind fun z508 => (slc q j (q.length : Int)).bind fun x513 => (app z508 x513).bind fun z515 => some (.go (z515, IntKind.wrap .i64 (i + 1))))
          (L3 (fun s' : List TFile × Int => (0 ≤ s'.2 ∧ s'.2 ≤ l.length ∧ (s'.1.length : Int) = s'.2 ∧ ∀ f ∈ s'.1, fSm f) ∧ (l.length - s'.2).toNat < (l.length - i).toNat) (fun s => s.1.length ≤ 6 ∧ ∀ f ∈ s.1, fSm f) (fun r : List TFile × Int => r.2 = 0 → r.1.length ≤ 6 ∧ ∀ f ∈ r.1, fSm f)) := by
        refine T.ite (fun h => by cases h) fun _ => ?_
        rw [wr (n := i + 1) (by omega) (by omega)]
        refine .slc (by omega) (.ix (by omega) (by omega) fun x _ hx => .ix (by omega) (by omega) fun y _ hy => .app (by simp; omega) (.bindEq (m100 (by have := hd y hy; omega)) (.app (by simp; omega) (.slc (by omega) (.app (by simp; omega) (.go ?_))))))
        refine ⟨⟨by simp only; omega, by simp only; omega, by simp; omega, fun f hf => ?_⟩, by simp only; omega⟩
        simp only [List.mem_append, List.mem_singleton] at hf
        rcases hf with ((h | h) | h) | h
        · simp at h
        · exact hs.2.2.2 f (List.mem_of_mem_take (List.mem_of_mem_drop h))
        · subst h
          exact ⟨⟨(ho x hx).1, (ho y hy).2⟩, hd y hy⟩
        · exact hs.2.2.2 f (List.mem_of_mem_take (List.mem_of_mem_drop h))
      refine .after (.ite (fun hc2 => ?_) fun hc2 => .brk rest)
      have hc2 := of_decide_eq_true hc2
      refine .ix (by omega) (by omega) fun x _ hx => .ix (by omega) (by omega) fun y _ hy => .brk ?_
      cases x.Path.toList == y.Path.toList
      · exact rest
      · exact .ret fun h => by simp at h
theorem t145 {F : Nat} {l : List Int} (hF : 1000 ≤ F) (h0 : 0 < l.length) (hl : l.length ≤ 300) : T (M145 F l) fun k => 0 < k ∧ k ≤ l.length ∧ (8 ≤ k ∨ k = l.length) := by
 unfold M145
 refine .loop (fun s => 0 ≤ s.2 ∧ s.2 ≤ l.length) (fun s => (l.length - s.2).toNat) (fun _ => True) (by simp; omega) (by simp) (fun s hs => ?_) (fun s _ => .some (by omega))
 obtain ⟨h, i⟩ := s
 simp only at hs
 unfold M145_L0
 refine .ite (fun hc => ?_) fun hc => .brk trivial
 have hc := of_decide_eq_true hc
 simp only at hc
 rw [wr (n := i + 1) (by omega) (by omega)]
 have k2 : (8 ≤ i + 1) ∨ ¬ (8 ≤ i + 1) := by omega
 have e64 : (i + 1 == 64) = decide (i + 1 = 64) := rfl
 refine .ix (by omega) (by omega) fun x _ hx => .after (.ite (fun hc2 => ?_) fun hc2 => ?_)
 ·have hc2 := of_decide_eq_true hc2
  refine .ite (fun _ => .brk (T.ite (fun _ => .ret (by omega)) fun h => absurd rfl h)) fun _ => .brk (T.ite (fun _ => .ret (by omega)) fun _ => .go (by simp only; omega))
 ·refine .brk (T.ite (fun h => .ret ?_) fun _ => .go (by simp only; omega))
  have : i + 1 = 64 := by simpa using h
  omega
theorem t131 {F : Nat} {l : List Int} (hF : 1000 ≤ F) (hl : l.length ≤ 200) (gl : gL gB l) : T (M131 F l) fun r => r.length ≤ 25 ∧ ∀ x ∈ r, x.length ≤ 300 ∧ gL gB x := by
 unfold M131
 refine .loop (fun s => s.2.length ≤ l.length ∧ gL gB s.2 ∧ (8 * s.1.length + s.2.length ≤ l.length ∨ (s.2.length = 0 ∧ 8 * s.1.length ≤ l.length + 7)) ∧ ∀ x ∈ s.1, x.length ≤ 300 ∧ gL gB x) (fun s => s.2.length) (fun s => s.1.length ≤ 25 ∧ ∀ x ∈ s.1, x.length ≤ 300 ∧ gL gB x) (by simp; omega) (by simp [gl]) (fun s hs => ?_) (fun s hs => .some hs)
 obtain ⟨q, d⟩ := s
 simp only at hs
 obtain ⟨s1, s2, s3, s4⟩ := hs
 unfold M131_L0
 refine .ite (fun hc => ?_) fun hc => .brk ⟨by simp only; omega, s4⟩
 have hc := of_decide_eq_true hc
 simp only at hc
 refine .bind _ (t145 hF (by simp only; omega) (by simp only; omega)) fun k hk => .slc (by omega) (.bindEq (m100 (by simp; omega)) (.app (by simp; omega) (.slc (by simp only at hk ⊢; omega) (.go ?_))))
 simp only at hk ⊢
 refine ⟨⟨by simp; omega, fun x hx => s2 x (List.mem_of_mem_take (List.mem_of_mem_drop hx)), by simp; omega, fun x hx => ?_⟩, by simp; omega⟩
 rcases List.mem_append.1 hx with h | h
 ·exact s4 x h
 ·rw [List.mem_singleton] at h
  subst h
  exact ⟨by simp; omega, fun y hy => s2 y (List.mem_of_mem_take (List.mem_of_mem_drop hy))⟩
theorem t130 {F : Nat} {l : List TFile} (hF : 1000 ≤ F) (ho : ∀ f ∈ l, fOk f) : T (M130 F l) fun _ => True := by
 unfold M130
 refine .bind _ (t129 hF) fun b hb => .ite (fun _ => .some trivial) fun hc => ?_
 obtain ⟨hn, hd⟩ := hb (by simpa using hc)
 refine .loop (fun i => 0 ≤ i ∧ i ≤ l.length) (fun i => (l.length - i).toNat) (fun _ => True) (by omega) (by omega) (fun i hi => ?_) (fun i _ => .some trivial)
 unfold M130_L0
 refine .ite (fun hc => ?_) fun hc => .brk trivial
 have hc := of_decide_eq_true hc
 rw [wr (n := i + 1) (by omega) (by omega)]
 have fin : ∀ b : Bool, T (if b = true then (some (.ret 1) : Option (Lp Int Int)) else some (.go (i + 1))) (L3 (fun s' => (0 ≤ s' ∧ s' ≤ l.length) ∧ (l.length - s').toNat < (l.length - i).toNat) (fun _ => True) (fun _ => True)) := fun b => T.ite (fun _ => .ret trivial) fun _ => .go (by omega)
 refine .after (.ix (by omega) (by omega) fun x _ hx => .bindEq (m104 hF (ho x hx).1) (.ite (fun _ => .brk (fin _)) fun _ => .ite (fun h => ?_) fun _ => .brk (fin _)))
 have h := of_decide_eq_true h
 rw [wr (by omega) (by omega)]
 exact .ix (by omega) (by omega) fun _ _ _ => .ix (by omega) (by omega) fun _ _ _ => .brk (fin _)
theorem t105 {F : Nat} {l : List Id32} {d : Id32} (hF : 1000 ≤ F) (hl : l.length < 900) (gl : ∀ x ∈ l, gId x) (hd : gId d) :
    T (M105 F l d) fun r => 0 ≤ r.2.1 ∧ r.2.1 ≤ l.length ∧ r.1.length = l.length + (if r.2.2 = true then 1 else 0) ∧ ∀ x ∈ r.1, gId x := by
  unfold M105
  refine T.scan (by omega) (by omega) (fun _ => rfl) (fun x hx => .bindEq (m128 hF (gl x hx) hd) (.brk trivial)) fun r hr => ?_
  have rest : T ((slc l 0 r).bind fun x84 => (app ([] : List Id32) x84).bind fun z86 => (app z86 ([d] : List Id32)).bind fun z92 => (slc l r (l).length).bind fun x98 => (app z92 x98).bind fun z100 => some (z100, r, true))
      fun r => 0 ≤ r.2.1 ∧ r.2.1 ≤ l.length ∧ r.1.length = l.length + (if r.2.2 = true then 1 else 0) ∧ ∀ x ∈ r.1, gId x := by
    refine .ins hr (by omega) fun z h1 h2 => .some ⟨hr.1, hr.2, h1, fun x hx => ?_⟩
    rcases h2 x hx with h | rfl
    · exact gl x h
    · exact hd
  refine .after (.ite (fun hc => ?_) fun _ => .brk (T.ite (fun h => by cases h) fun _ => rest))
  have hc := of_decide_eq_true hc
  refine .ix (by omega) (by omega) fun x _ hx => .brk ?_
  refine T.ite (fun _ => .some ?_) fun _ => rest
  exact ⟨hr.1, hr.2, rfl, gl⟩
open Go.Vm
def manOk (m : TManifest) : Prop := m.Name.size ≤ 100 ∧ m.Parts.length ≤ 10 ∧ (∀ p ∈ m.Parts, p.Path.size ≤ 100 ∧ p.Ids.length ≤ 40) ∧ g_Manifest m
def pieces (l : List (List Int)) (n : Nat) : Prop := l.length ≤ n ∧ ∀ x ∈ l, x.length ≤ 300 ∧ gL gB x
structure Chg (c : TChange) : Prop where
 seq : gI c.Snap.Seq
 man : manOk c.Snap.Man
 locs : c.Snap.Locs = []
 cn : c.Chunks.length ≤ 160
 ch : ∀ x ∈ c.Chunks, gId x.Id ∧ x.Data.length ≤ 300 ∧ gL gB x.Data ∧ x.Locs = []
 sq : gI c.Seq
 vol : gI c.Vol
 it : c.Items.length ≤ 64
 iti : ∀ x ∈ c.Items, gI x.Seq ∧ gI x.Of ∧ gI x.Off ∧ gI x.Len
theorem man0 : manOk { Name := ByteArray.empty, Parts := [] } := ⟨by decide, by simp, by simp, trivial, fun _ h => by simp at h⟩
theorem t107 {F : Nat} {nm : ByteArray} {fs : List TFile} (hF : 1000 ≤ F) (hn : nm.size ≤ 100) (h6 : fs.length ≤ 6) (ho : ∀ f ∈ fs, fSm f) : T (M107 F nm fs) fun r => manOk r.1 ∧ pieces r.2.1 150 := by
 unfold M107
 refine .bindEq (m104 hF hn) (.ite (fun _ => .some ⟨man0, by simp, by simp⟩) fun _ => .bind _ (t130 hF fun f hf => (ho f hf).1) fun y _ => .ite (fun _ => .some ⟨man0, by simp, by simp⟩) fun _ => ?_)
 refine .loop (fun s => 0 ≤ s.2.2.2 ∧ s.2.2.2 ≤ fs.length ∧ (s.1.length : Int) = s.2.2.2 ∧ (∀ p ∈ s.1, (p.Path.size ≤ 100 ∧ p.Ids.length ≤ 40) ∧ g_Part p) ∧ (s.2.1.length : Int) ≤ 25 * s.2.2.2 ∧ (∀ x ∈ s.2.1, x.length ≤ 300 ∧ gL gB x) ∧ s.2.2.1.length = s.2.1.length ∧ ∀ x ∈ s.2.2.1, gId x)
  (fun s => (fs.length - s.2.2.2).toNat) (fun s => (s.1.length ≤ 6 ∧ ∀ p ∈ s.1, (p.Path.size ≤ 100 ∧ p.Ids.length ≤ 40) ∧ g_Part p) ∧ pieces s.2.1 150) (by simp; omega) (by simp) (fun s hs => ?_) (fun s hs => ?_)
 ·obtain ⟨ps, ds, ids, i⟩ := s
  simp only at hs
  obtain ⟨s1, s2, s3, s4, s5, s6, s7, s8⟩ := hs
  unfold M107_L0
  refine .ite (fun hc => ?_) fun hc => .brk ⟨⟨by simp only; omega, s4⟩, by simp only; omega, s6⟩
  have hc := of_decide_eq_true hc
  simp only at hc
  rw [wr (n := i + 1) (by omega) (by omega)]
  refine .ix (by omega) (by omega) fun x e hx => .ix (by omega) (by omega) fun x2 e2 hx2 => .ix (by omega) (by omega) fun x3 e3 hx3 => .bind _ (t131 hF (ho x3 hx3).2 (ho x3 hx3).1.2) fun y hy => ?_
  obtain ⟨y1, y2⟩ := hy
  refine .loop (fun s => 0 ≤ s.2.2.2 ∧ s.2.2.2 ≤ y.length ∧ (s.1.length : Int) = s.2.2.2 ∧ (∀ d ∈ s.1, gId d) ∧ (s.2.1.length : Int) ≤ 25 * i + s.2.2.2 ∧ (∀ x ∈ s.2.1, x.length ≤ 300 ∧ gL gB x) ∧ s.2.2.1.length = s.2.1.length ∧ ∀ x ∈ s.2.2.1, gId x)
   (fun s => (y.length - s.2.2.2).toNat) (fun s => (s.1.length ≤ 25 ∧ (∀ d ∈ s.1, gId d)) ∧ (s.2.1.length : Int) ≤ 25 * i + 25 ∧ (∀ x ∈ s.2.1, x.length ≤ 300 ∧ gL gB x) ∧ s.2.2.1.length = s.2.1.length ∧ ∀ x ∈ s.2.2.1, gId x) (by simp; omega) ⟨by simp, by simp, by simp, by simp, by simp only; omega, s6, s7, s8⟩ (fun s hs => ?_) (fun s hs => ?_)
  ·obtain ⟨q, ds, ids, j⟩ := s
   simp only at hs
   obtain ⟨r1, r2, r3, r4, r5, r6, r7, r8⟩ := hs
   unfold M107_L2
   refine .ite (fun hc2 => ?_) fun hc2 => .brk ⟨⟨by simp only; omega, r4⟩, by simp only; omega, r6, r7, r8⟩
   have hc2 := of_decide_eq_true hc2
   simp only at hc2
   rw [wr (n := j + 1) (by omega) (by omega)]
   refine .ix (by omega) (by omega) fun z _ hz => .bind _ (t108 hF (y2 z hz).1) fun d hd => .app (by simp; omega) (.bind _ (t105 hF (by simp only; omega) r8 hd) fun r hr => ?_)
   obtain ⟨q1, q2, q3, q4⟩ := hr
   simp only at q2 q3
   have hq : ∀ a ∈ q ++ [d], gId a := fun a ha => by
    rcases List.mem_append.1 ha with h | h
    ·exact r4 a h
    ·rw [List.mem_singleton] at h; exact h ▸ hd
   refine .after (.ite (fun hi => ?_) fun hi => .brk (.go ?_))
   ·rw [if_pos hi] at q3
    refine .slc (by simp only; omega) (.ix (by omega) (by omega) fun z2 _ hz2 => .app (by simp; omega) (.app (by simp; omega) (.slc (by simp only; omega) (.app (by simp; omega) (.brk (.go ?_))))))
    refine ⟨⟨by simp only; omega, by simp only; omega, by simp; omega, hq, by simp; omega, fun a ha => ?_, by simp; omega, q4⟩, by simp only; omega⟩
    simp only [List.mem_append, List.mem_singleton] at ha
    rcases ha with ((h | h) | h) | h
    ·simp at h
    ·exact r6 a (List.mem_of_mem_take (List.mem_of_mem_drop h))
    ·exact h ▸ y2 z2 hz2
    ·exact r6 a (List.mem_of_mem_take (List.mem_of_mem_drop h))
   ·rw [if_neg hi] at q3
    exact ⟨⟨by simp only; omega, by simp only; omega, by simp; omega, hq, by simp only; omega, r6, by simp only; omega, q4⟩, by simp only; omega⟩
  ·obtain ⟨q, ds2, ids2, j⟩ := s
   simp only at hs
   obtain ⟨⟨a1, a2⟩, a3, a4, a5, a6⟩ := hs
   refine .app (by simp; omega) (.go ?_)
   refine ⟨⟨by simp only; omega, by simp only; omega, by simp; omega, fun p hp => ?_, by simp only; omega, a4, a5, a6⟩, by simp only; omega⟩
   rcases List.mem_append.1 hp with h | h
   ·exact s4 p h
   ·rw [List.mem_singleton] at h
    subst h
    have := (ho x2 hx2).2
    exact ⟨⟨(ho x hx).1.1, by simp only; omega⟩, trivial, by simp only [gI]; omega, a2⟩
 ·obtain ⟨ps, ds, ids, i⟩ := s
  exact .some ⟨⟨hn, by have := hs.1.1; simp only at this ⊢; omega, fun p hp => (hs.1.2 p hp).1, trivial, fun p hp => (hs.1.2 p hp).2⟩, hs.2⟩
theorem bstr1 (n : Int) : ∃ b, bstr [IntKind.wrap .u8 n] = some b ∧ b.size = 1 := by
 have h := wrU8 n
 refine ⟨_, by unfold bstr; rw [if_pos (by simp; omega)], ?_⟩
 rfl
structure Ok (c : TCatalog) : Prop where
 sm : Sm c
 rg : Rng c
theorem gI_wr (n : Int) : gI (IntKind.wrap .i64 n) := wrI n
theorem chg0 {k s : Int} {v : Int} (hs : gI s) (hv : gI v) {l : List TItem} (h6 : l.length ≤ 64) (hl : ∀ x ∈ l, gI x.Seq ∧ gI x.Of ∧ gI x.Off ∧ gI x.Len) :
    Chg { Kind := k, Snap := { Seq := 0, Man := { Name := ByteArray.empty, Parts := [] }, Locs := [] }, Chunks := [], Seq := s, Vol := v, Items := l } :=
  ⟨by simp [gI], man0, rfl, by simp, by simp, hs, hv, h6, hl⟩
theorem t66 {F : Nat} {c : TCatalog} {a : TAct} (hF : 1000 ≤ F) (hc : Ok c) (ho : ∀ f ∈ a.Tree, fOk f) : T (M66 F c a) fun r => Chg r.1 := by
  have g0 : gI 0 := by simp [gI]
  have c1 := hc.rg.ch
  have c2 := hc.rg.sn
  have c3 := hc.rg.ex
  have c4 := hc.rg.vo
  have gq := hc.sm.g.1
  unfold M66
  obtain ⟨b, hb, hb1⟩ := bstr1 (IntKind.wrap .u64 (97 + ((IntKind.wrap .u64 a.N).tmod 5)))
  rw [hb]
  have e1 : (ByteArray.mk #[110]).size = 1 := rfl
  have e2 : ((ByteArray.mk #[110]) ++ b).size = 2 := by rw [ByteArray.size_append, e1, hb1]
  have gv : ∀ j : Int, gI j → ∀ (k : Int → Option (TChange × Bool)), (∀ j, gI j → T (k j) fun r => Chg r.1) → T (k j) fun r => Chg r.1 := fun j h k hk => hk j h
  refine .bindEq rfl (.grd (by rw [e1, hb1]; rfl) ?_)
  refine .after (T.mono (P := L3 (fun _ => False) gI (fun _ => False)) (.ite (fun h => ?_) fun _ => .brk g0) fun j hj => ?_)
  · have h := of_decide_eq_true h
    refine .grd ?_ (.brk (gI_wr _))
    rw [wru (by omega)]
    simp
    intro h2
    rw [h2] at h
    simp at h
  cases j with
  | go s => exact hj
  | ret s => exact hj.elim
  | brk v =>
  replace hj : gI v := hj
  refine T.after (T.mono (P := L3 (fun _ => False) (fun _ => True) (fun _ => False)) (.ite (fun _ => .brk trivial) fun _ => .brk trivial) fun j hj2 => ?_)
  cases j with
  | go s => exact hj2
  | ret s => exact hj2.elim
  | brk v2 =>
  refine T.ite (fun _ => ?_) fun _ => ?_
  · refine .bind _ (t106 hF ho) fun y hy => .ite (fun _ => .some (chg0 g0 g0 (by simp) (by simp))) fun h0 => ?_
    obtain ⟨y1, y2⟩ := hy (by simpa using h0)
    refine .bind _ (t107 hF (by omega) y1 y2) fun m hm => ?_
    obtain ⟨m1, m2, m3⟩ := hm
    refine .loop (fun s => 0 ≤ s.2 ∧ s.2 ≤ m.2.1.length ∧ (s.1.length : Int) ≤ s.2 ∧ ∀ x ∈ s.1, gId x.Id ∧ x.Data.length ≤ 300 ∧ gL gB x.Data ∧ x.Locs = []) (fun s => (m.2.1.length - s.2).toNat) (fun s => s.1.length ≤ 160 ∧ ∀ x ∈ s.1, gId x.Id ∧ x.Data.length ≤ 300 ∧ gL gB x.Data ∧ x.Locs = []) (by simp; omega) (by simp) (fun s hs => ?_) (fun s hs => ?_)
    · obtain ⟨q, i⟩ := s
      simp only at hs
      unfold M66_L1
      refine .ite (fun h => ?_) fun _ => .brk ⟨by simp only; omega, hs.2.2.2⟩
      have h := of_decide_eq_true h
      simp only at h
      rw [wr (n := i + 1) (by omega) (by omega)]
      obtain ⟨n, hn, _⟩ := m64 (F := F) (c := c) (d := idZ) hF (by omega)
      refine .ix (by omega) (by omega) fun x _ hx => .bind _ (t108 hF (m3 x hx).1) fun d hd => ?_
      obtain ⟨n, hn, _⟩ := m64 (F := F) (c := c) (d := d) hF (by omega)
      refine .bindEq hn (.after (.ite (fun _ => .ix (by omega) (by omega) fun x2 _ hx2 => .app (by simp; omega) (.brk (.go ?_))) fun _ => .brk (.go ⟨⟨by simp only; omega, by simp only; omega, by simp only; omega, hs.2.2.2⟩, by simp only; omega⟩)))
      refine ⟨⟨by simp only; omega, by simp only; omega, by simp; omega, fun y hy => ?_⟩, by simp only; omega⟩
      rcases List.mem_append.1 hy with h | h
      · exact hs.2.2.2 y h
      · rw [List.mem_singleton] at h
        subst h
        exact ⟨hd, (m3 x2 hx2).1, (m3 x2 hx2).2, rfl⟩
    · obtain ⟨q, i⟩ := s
      exact .some ⟨gq, m1, rfl, hs.1, hs.2, g0, g0, by simp, by simp⟩
  · refine T.after (T.mono (P := L3 (fun _ => False) (fun _ => True) (fun _ => False)) (.ite (fun _ => .brk trivial) fun _ => .brk trivial) fun j hj2 => ?_)
    cases j with
    | go s => exact hj2
    | ret s => exact hj2.elim
    | brk v3 =>
    refine T.ite (fun _ => ?_) fun _ => ?_
    · refine .ite (fun _ => .some (chg0 g0 g0 (by simp) (by simp))) fun h0 => ?_
      have h0 : 0 < c.Snaps.length := by
        have : ¬ ((c.Snaps.length : Int) = 0) := by simpa using h0
        omega
      obtain ⟨k, hk, ek⟩ := idxW a.N h0 (by omega)
      rw [wru (by omega), ek]
      refine .grd (by simp; intro h; rw [h] at h0; simp at h0) (.ix (by omega) (by omega) fun x _ hx => ?_)
      have gx := hc.sm.g.2.1 x hx
      refine .ite (fun _ => .some (chg0 gx.1 g0 (by simp) (by simp))) fun _ => .some (chg0 g0 hj (by simp) fun y hy => ?_)
      rw [List.mem_singleton] at hy
      subst hy
      exact ⟨gq, gx.1, by simp [gI], by simp [gI]⟩
    · refine T.after (T.mono (P := L3 (fun _ => False) (fun _ => True) (fun _ => False)) (.ite (fun _ => .brk trivial) fun _ => .brk trivial) fun j hj2 => ?_)
      cases j with
      | go s => exact hj2
      | ret s => exact hj2.elim
      | brk v4 =>
      refine T.ite (fun _ => ?_) fun _ => .ite (fun _ => .some (chg0 g0 hj (by simp) (by simp))) fun _ => .some (chg0 g0 hj (by simp) (by simp))
      have w1 : IntKind.wrap .i64 ((c.Chunks.length : Int) + (c.Snaps.length : Int)) = (c.Chunks.length : Int) + (c.Snaps.length : Int) := wr (by omega) (by omega)
      have w2 : IntKind.wrap .i64 ((c.Chunks.length : Int) + (c.Snaps.length : Int) + (c.Exps.length : Int)) = (c.Chunks.length : Int) + (c.Snaps.length : Int) + (c.Exps.length : Int) := wr (by omega) (by omega)
      refine .loop (fun s => 0 ≤ s.2.2 ∧ s.2.2 ≤ 420 ∧ s.1.length ≤ 64 ∧ (∀ x ∈ s.1, gI x.Seq ∧ gI x.Of ∧ gI x.Off ∧ gI x.Len) ∧ gI s.2.1) (fun s => (420 - s.2.2).toNat) (fun s => s.1.length ≤ 64 ∧ ∀ x ∈ s.1, gI x.Seq ∧ gI x.Of ∧ gI x.Off ∧ gI x.Len) (by simp; omega) (by simp [gI]) (fun s hs => ?_) (fun s hs => ?_)
      · obtain ⟨q, o, i⟩ := s
        simp only at hs
        obtain ⟨s1, s2, s3, s4, s5⟩ := hs
        unfold M66_L3
        simp only [w1, w2]
        refine .after (.ite (fun h => .brk (T.ite (fun h2 => ?_) fun _ => .brk ⟨s3, s4⟩)) fun _ => .brk (T.ite (fun h => by cases h) fun _ => .brk ⟨s3, s4⟩))
        have h := of_decide_eq_true h
        have h2 := of_decide_eq_true h2
        rw [wr (n := i + 1) (by omega) (by omega)]
        have put : ∀ y : TItem, (gI y.Seq ∧ gI y.Of ∧ gI y.Off ∧ gI y.Len) → T ((app q ([y] : List TItem)).bind fun z1648 => some (.brk (z1648, IntKind.wrap .i64 (o + 20))) : Option (Lp (List TItem × Int) (Lp (List TItem × Int × Int) (TChange × Bool))))
            (L3 (fun _ => False) (fun s => s.1.length ≤ 64 ∧ (∀ x ∈ s.1, gI x.Seq ∧ gI x.Of ∧ gI x.Off ∧ gI x.Len) ∧ gI s.2) (fun _ => False)) := fun y hy => by
          refine .app (by simp; omega) (.brk ⟨by simp; omega, fun x hx => ?_, gI_wr _⟩)
          rcases List.mem_append.1 hx with h | h
          · exact s4 x h
          · rw [List.mem_singleton] at h
            exact h ▸ hy
        have g20 : gI 20 := by simp [gI]
        refine .after (T.mono (P := L3 (fun _ => False) (fun s => s.1.length ≤ 64 ∧ (∀ x ∈ s.1, gI x.Seq ∧ gI x.Of ∧ gI x.Off ∧ gI x.Len) ∧ gI s.2) (fun _ => False)) (.after ?_) fun j hj3 => ?_)
        · have mid : T (after (if (decide (i < (c.Chunks.length : Int))) = true then ((ix c.Chunks i).bind fun x1596 => some (.brk { { ({ Kind := 0, Id := idZ, Seq := 0, Of := 0, Off := o, Len := 20 } : TItem) with Kind := 1 } with Id := x1596.Id })) else after (if (decide (i < (c.Chunks.length : Int) + (c.Snaps.length : Int))) = true then ((ix c.Snaps (IntKind.wrap .i64 (i - (c.Chunks.length : Int)))).bind fun x1629 => some (.brk { { ({ Kind := 0, Id := idZ, Seq := 0, Of := 0, Off := o, Len := 20 } : TItem) with Kind := 2 } with Seq := x1629.Seq })) else (ix c.Exps (IntKind.wrap .i64 ((IntKind.wrap .i64 (i - (c.Chunks.length : Int))) - (c.Snaps.length : Int)))).bind fun x1634 => some (.brk { { { ({ Kind := 0, Id := idZ, Seq := 0, Of := 0, Off := o, Len := 20 } : TItem) with Kind := 3 } with Seq := x1634.Seq } with Of := x1634.Of }) : Option (Lp (TItem) (Lp (TItem) (Lp ((List TItem) × Int) (Lp ((List TItem) × Int × Int) (TChange × Bool)))))) fun j1623 => some (.brk j1623) : Option (Lp (TItem) (Lp ((List TItem) × Int) (Lp ((List TItem) × Int × Int) (TChange × Bool))))) fun j1590 => (app q ([j1590] : List TItem)).bind fun z1648 => some (.brk (z1648, IntKind.wrap .i64 (o + 20))) : Option (Lp ((List TItem) × Int) (Lp ((List TItem) × Int × Int) (TChange × Bool))))
              (L3 (fun _ => False) (fun s => s.1.length ≤ 64 ∧ (∀ x ∈ s.1, gI x.Seq ∧ gI x.Of ∧ gI x.Off ∧ gI x.Len) ∧ gI s.2) (fun _ => False)) := by
            refine .after (.ite (fun h3 => ?_) fun h3 => .after (.ite (fun h4 => ?_) fun h4 => ?_))
            · have h3 := of_decide_eq_true h3
              exact .ix (by omega) (by omega) fun x _ _ => .brk (put _ ⟨g0, g0, s5, g20⟩)
            · have h4 := of_decide_eq_true h4
              have h3 : ¬ (i < (c.Chunks.length : Int)) := by simpa using h3
              rw [wr (n := i - (c.Chunks.length : Int)) (by omega) (by omega)]
              exact .ix (by omega) (by omega) fun x _ hx => .brk (.brk (put _ ⟨(hc.sm.g.2.1 x hx).1, g0, s5, g20⟩))
            · have h4 : ¬ (i < (c.Chunks.length : Int) + (c.Snaps.length : Int)) := by simpa using h4
              rw [wr (n := i - (c.Chunks.length : Int)) (by omega) (by omega), wr (n := i - (c.Chunks.length : Int) - (c.Snaps.length : Int)) (by omega) (by omega)]
              exact .ix (by omega) (by omega) fun x _ hx => .brk (.brk (put _ ⟨(hc.sm.g.2.2.2.1 x hx).1, (hc.sm.g.2.2.2.1 x hx).2.1, s5, g20⟩))
          refine .ite (fun h3 => ?_) fun _ => .brk (T.ite (fun h => by cases h) fun _ => mid)
          have h3 := of_decide_eq_true h3
          exact .ix (by omega) (by omega) fun x _ _ => .brk (T.ite (fun _ => .brk ⟨s3, s4, s5⟩) fun _ => mid)
        · cases j with
          | go s => exact hj3
          | ret s => exact hj3.elim
          | brk s =>
            obtain ⟨q2, o2⟩ := s
            exact .go ⟨⟨by simp only; omega, by simp only; omega, hj3.1, hj3.2.1, hj3.2.2⟩, by simp only; omega⟩
      · obtain ⟨q, o, i⟩ := s
        exact .some (chg0 g0 hj hs.1 hs.2)
open Go.Vm
def lcOk (n : Nat) (l : List TLoc) : Prop := l.length ≤ n ∧ gL g_Loc l
def snOk (n : Nat) (s : TSnap) : Prop := gI s.Seq ∧ manOk s.Man ∧ lcOk n s.Locs
def chOk (n : Nat) (x : TChunk) : Prop := gId x.Id ∧ x.Data.length ≤ 300 ∧ gL gB x.Data ∧ lcOk n x.Locs
def exOk (n : Nat) (x : TExp) : Prop := gI x.Seq ∧ gI x.Of ∧ lcOk n x.Locs
structure Md (n m : Nat) (q : Int) (s : List TSnap) (k : List TChunk) (e : List TExp) (v : List TVol) : Prop where
 q : gI q
 sn : s.length ≤ 9
 s : ∀ x ∈ s, snOk n x
 kn : k.length ≤ 360
 k : ∀ x ∈ k, chOk n x
 en : e.length ≤ m
 e : ∀ x ∈ e, exOk n x
 vn : v.length ≤ 8
 v : ∀ x ∈ v, g_Vol x
theorem lcOk.mono {n n' : Nat} {l : List TLoc} (h : lcOk n l) (hn : n ≤ n') : lcOk n' l := ⟨Nat.le_trans h.1 hn, h.2⟩
theorem snOk.mono {n n' : Nat} {x : TSnap} (h : snOk n x) (hn : n ≤ n') : snOk n' x := ⟨h.1, h.2.1, h.2.2.mono hn⟩
theorem chOk.mono {n n' : Nat} {x : TChunk} (h : chOk n x) (hn : n ≤ n') : chOk n' x := ⟨h.1, h.2.1, h.2.2.1, h.2.2.2.mono hn⟩
theorem exOk.mono {n n' : Nat} {x : TExp} (h : exOk n x) (hn : n ≤ n') : exOk n' x := ⟨h.1, h.2.1, h.2.2.mono hn⟩
theorem Md.mono {n m n' m' : Nat} {q : Int} {s : List TSnap} {k : List TChunk} {e : List TExp} {v : List TVol} (h : Md n m q s k e v) (hn : n ≤ n') (hm : m ≤ m') : Md n' m' q s k e v :=
 ⟨h.q, h.sn, fun x hx => (h.s x hx).mono hn, h.kn, fun x hx => (h.k x hx).mono hn, Nat.le_trans h.en hm, fun x hx => (h.e x hx).mono hn, h.vn, h.v⟩
theorem Md.sm {n m : Nat} {q : Int} {s : List TSnap} {k : List TChunk} {e : List TExp} {v : List TVol} (h : Md n m q s k e v) (hn : n ≤ 300) (hm : m ≤ 300) : Sm { Seq := q, Snaps := s, Chunks := k, Exps := e, Vols := v } where
 g := ⟨h.q, fun x hx => ⟨(h.s x hx).1, (h.s x hx).2.1.2.2.2, (h.s x hx).2.2.2⟩, fun x hx => ⟨(h.k x hx).1, trivial, (h.k x hx).2.2.1, (h.k x hx).2.2.2.2⟩, fun x hx => ⟨(h.e x hx).1, (h.e x hx).2.1, (h.e x hx).2.2.2⟩, h.v⟩
 sn := Nat.le_trans h.sn (by omega)
 ch := Nat.le_trans h.kn (by omega)
 ex := Nat.le_trans h.en hm
 vo := Nat.le_trans h.vn (by omega)
 sl := fun x hx => Nat.le_trans (h.s x hx).2.2.1 hn
 cl := fun x hx => ⟨Nat.le_trans (h.k x hx).2.2.2.1 hn, (h.k x hx).2.1⟩
 el := fun x hx => Nat.le_trans (h.e x hx).2.2.1 hn
 man := fun x hx => ⟨(h.s x hx).2.1.1, (h.s x hx).2.1.2.1, (h.s x hx).2.1.2.2.1⟩
theorem locsB_len {c : TCatalog} {l : List TLoc} (h : locsB c l = true) : l.length ≤ 200 := by
 unfold locsB at h
 simp only [Bool.and_eq_true, decide_eq_true_eq] at h
 exact h.1
theorem Ok.md {c : TCatalog} (h : Ok c) : Md 200 200 c.Seq c.Snaps c.Chunks c.Exps c.Vols where
 q := h.sm.g.1
 sn := Nat.le_trans h.rg.sn (by omega)
 s := fun x hx => ⟨(h.sm.g.2.1 x hx).1, ⟨(h.sm.man x hx).1, (h.sm.man x hx).2.1, (h.sm.man x hx).2.2, (h.sm.g.2.1 x hx).2.1⟩, locsB_len (h.rg.s x hx).2.2.2, (h.sm.g.2.1 x hx).2.2⟩
 kn := Nat.le_trans h.rg.ch (by omega)
 k := fun x hx => ⟨(h.sm.g.2.2.1 x hx).1, (h.sm.cl x hx).2, (h.sm.g.2.2.1 x hx).2.2.1, locsB_len (h.rg.k x hx).2, (h.sm.g.2.2.1 x hx).2.2.2⟩
 en := h.rg.ex
 e := fun x hx => ⟨(h.sm.g.2.2.2.1 x hx).1, (h.sm.g.2.2.2.1 x hx).2.1, locsB_len (h.rg.e x hx).2.2.2.2, (h.sm.g.2.2.2.1 x hx).2.2⟩
 vn := h.rg.vo
 v := h.sm.g.2.2.2.2
theorem t64 {F : Nat} {c : TCatalog} {d : Id32} (hF : 1000 ≤ F) (hl : c.Chunks.length < 1000) : T (M64 F c d) fun n => n < c.Chunks.length := by
 unfold M64
 refine .loop (fun i => 0 ≤ i ∧ i ≤ c.Chunks.length) (fun i => (c.Chunks.length - i).toNat) (fun _ => True) (by omega) (by omega) (fun i hi => ?_) (fun i _ => .some (by omega))
 unfold M64_L0
 refine .ite (fun hc => ?_) fun _ => .brk trivial
 have hc := of_decide_eq_true hc
 rw [wr (by omega) (by omega)]
 exact .ix (by omega) (by omega) fun x _ _ => .ite (fun _ => .ret hc) fun _ => .go (by omega)
theorem t148 {F : Nat} {a b : TLoc} : T (M148 F a b) fun _ => True := by
 unfold M148
 exact .ite (fun _ => .some trivial) fun _ => .ite (fun _ => .some trivial) fun _ => .ite (fun _ => .some trivial) fun _ => .some trivial
theorem t146 {F n : Nat} {l : List TLoc} {x : TLoc} (hF : 1000 ≤ F) (h : lcOk n l) (hn : n ≤ 300) (hx : g_Loc x) : T (M146 F l x) fun r => lcOk (n + 1) r := by
 have h1 := h.1
 unfold M146
 refine T.scan (by omega) (by omega) (fun _ => rfl) (fun y _ => .bind _ t148 fun _ _ => .brk trivial) fun r hr => ?_
 refine .ins hr (by omega) fun z z1 z2 => .some ⟨by omega, fun y hy => ?_⟩
 rcases z2 y hy with h2 | rfl
 ·exact h.2 y h2
 ·exact hx
theorem t139 {F n : Nat} {l : List TLoc} {v : Int} (hF : 1000 ≤ F) (h : lcOk n l) (hn : n ≤ 300) : T (M139 F l v) fun r => lcOk n r := by
 have h1 := h.1
 unfold M139
 refine .loop (fun s => 0 ≤ s.2 ∧ s.2 ≤ l.length ∧ (s.1.length : Int) ≤ s.2 ∧ gL g_Loc s.1) (fun s => (l.length - s.2).toNat) (fun s => lcOk n s.1) (by simp; omega) ⟨by simp, by simp, by simp, fun _ h => by simp at h⟩ (fun s hs => ?_) (fun s hs => .some hs)
 obtain ⟨q, i⟩ := s
 simp only at hs
 unfold M139_L0
 refine .ite (fun hc => ?_) fun _ => .brk ⟨by simp only; omega, hs.2.2.2⟩
 have hc := of_decide_eq_true hc
 simp only at hc
 rw [wr (n := i + 1) (by omega) (by omega)]
 refine .ix (by omega) (by omega) fun x _ hx => .after (.ite (fun _ => .ix (by omega) (by omega) fun y _ hy => .app (by simp; omega) (.brk (.go ?_))) fun _ => .brk (.go ⟨⟨by simp only; omega, by simp only; omega, by simp only; omega, hs.2.2.2⟩, by simp only; omega⟩))
 refine ⟨⟨by simp only; omega, by simp only; omega, by simp; omega, fun z hz => ?_⟩, by simp only; omega⟩
 rcases List.mem_append.1 hz with h2 | h2
 ·exact hs.2.2.2 z h2
 ·rw [List.mem_singleton] at h2
  exact h2 ▸ h.2 y hy
theorem t137 {F : Nat} {c : TCatalog} {i a b : Int} : T (M137 F c i a b) fun r => r = true → 0 ≤ i ∧ i < c.Vols.length := by
 unfold M137
 refine .after (.ite (fun h0 => .ite (fun h1 => ?_) fun _ => .brk (.some fun h => by cases h)) fun _ => .brk (.some fun h => by cases h))
 have h0 := of_decide_eq_true h0
 have h1 := of_decide_eq_true h1
 exact .ix (by omega) (by omega) fun x _ hx => .ite (fun _ => .brk (.some fun _ => ⟨h0, h1⟩)) fun _ => .ix (by omega) (by omega) fun y _ _ => .brk (.some fun _ => ⟨h0, h1⟩)
theorem t136 {F n m : Nat} {q : Int} {s : List TSnap} {k : List TChunk} {e : List TExp} {v : List TVol} {z : Int} (hF : 1000 ≤ F) (h : Md n m q s k e v) (hn : n ≤ 300) (hm : m ≤ 300) :
    T (M136 F { Seq := q, Snaps := s, Chunks := k, Exps := e, Vols := v } z) fun r => Md n m q r.2.1 r.2.2 e v := by
  have h1 := h.sn
  have h2 := h.kn
  unfold M136
  refine .loop (fun s' => 0 ≤ s'.2 ∧ s'.2 ≤ s.length ∧ (s'.1.length : Int) ≤ s'.2 ∧ ∀ x ∈ s'.1, snOk n x) (fun s' => (s.length - s'.2).toNat) (fun s' => s'.1.length ≤ 9 ∧ ∀ x ∈ s'.1, snOk n x) (by simp; omega) (by simp) (fun s' hs => ?_) (fun s' hs => ?_)
  · obtain ⟨a, i⟩ := s'
    simp only at hs
    unfold M136_L0
    refine .ite (fun hc => ?_) fun _ => .brk ⟨by simp only; omega, hs.2.2.2⟩
    have hc := of_decide_eq_true hc
    simp only at hc
    rw [wr (n := i + 1) (by omega) (by omega)]
    refine .ix (by omega) (by simp only; omega) fun x _ hx => .after (.ite (fun _ => .ix (by omega) (by simp only; omega) fun y _ hy => .app (by simp; omega) (.brk (.go ?_))) fun _ => .brk (.go ⟨⟨by simp only; omega, by simp only; omega, by simp only; omega, hs.2.2.2⟩, by simp only; omega⟩))
    refine ⟨⟨by simp only; omega, by simp only; omega, by simp; omega, fun w hw => ?_⟩, by simp only; omega⟩
    rcases List.mem_append.1 hw with h3 | h3
    · exact hs.2.2.2 w h3
    · rw [List.mem_singleton] at h3
      exact h3 ▸ h.s y hy
  · obtain ⟨a, i0⟩ := s'
    have M1 : Md n m q a k e v := ⟨h.q, hs.1, hs.2, h.kn, h.k, h.en, h.e, h.vn, h.v⟩
    refine .ite (fun _ => .some h) fun _ => ?_
    refine .loop (fun s' => 0 ≤ s'.2 ∧ s'.2 ≤ k.length ∧ (s'.1.length : Int) ≤ s'.2 ∧ ∀ x ∈ s'.1, chOk n x) (fun s' => (k.length - s'.2).toNat) (fun s' => s'.1.length ≤ 360 ∧ ∀ x ∈ s'.1, chOk n x) (by simp; omega) (by simp) (fun s' hs2 => ?_) (fun s' hs2 => .some ⟨h.q, hs.1, hs.2, hs2.1, hs2.2, h.en, h.e, h.vn, h.v⟩)
    obtain ⟨b, i⟩ := s'
    simp only at hs2
    unfold M136_L2
    refine .ite (fun hc => ?_) fun _ => .brk ⟨by simp only; omega, hs2.2.2.2⟩
    have hc := of_decide_eq_true hc
    simp only at hc
    rw [wr (n := i + 1) (by omega) (by omega)]
    have put : ∀ y : TChunk, chOk n y → T ((app b ([y] : List TChunk)).bind fun z490 => some (.brk z490) : Option (Lp (List TChunk) (Lp (List TChunk × Int) (Bool × List TSnap × List TChunk))))
        (L3 (fun _ => False) (fun b' : List TChunk => b'.length ≤ b.length + 1 ∧ ∀ x ∈ b', chOk n x) (fun b' : Lp (List TChunk × Int) (Bool × List TSnap × List TChunk) => ∃ s, b' = .brk s ∧ s.1.length ≤ 360 ∧ ∀ x ∈ s.1, chOk n x)) := fun y hy => by
      refine .app (by simp; omega) (.brk ⟨by simp, fun x hx => ?_⟩)
      rcases List.mem_append.1 hx with h3 | h3
      · exact hs2.2.2.2 x h3
      · rw [List.mem_singleton] at h3
        exact h3 ▸ hy
    refine .after (T.mono (P := L3 (fun _ => False) (fun b' : List TChunk => b'.length ≤ b.length + 1 ∧ ∀ x ∈ b', chOk n x) (fun b' : Lp (List TChunk × Int) (Bool × List TSnap × List TChunk) => ∃ s, b' = .brk s ∧ s.1.length ≤ 360 ∧ ∀ x ∈ s.1, chOk n x)) (.ix (by omega) (by simp only; omega) fun x _ hx => .bindEq (m65 hF (M1.sm hn hm)) (.after ?_)) fun j hj => ?_)
    · have gx := h.k x hx
      refine .ite (fun _ => .ite (fun _ => .ret (show b.length ≤ b.length + 1 ∧ _ from ⟨by omega, hs2.2.2.2⟩)) fun _ => .brk (put _ ⟨gx.1, by simp, fun _ h => by simp at h, gx.2.2.2⟩)) fun _ => .brk (put _ gx)
    · cases j with
      | go s => exact hj
      | ret s =>
        obtain ⟨s', rfl, h3⟩ := hj
        exact h3
      | brk b' =>
        have := hj.1
        exact .go ⟨⟨by simp only; omega, by simp only; omega, by simp only; omega, hj.2⟩, by simp only; omega⟩
open Go.Vm
section
variable {n m : Nat} {q : Int} {s : List TSnap} {k : List TChunk} {e : List TExp} {v : List TVol}
theorem Md.setK (h : Md n m q s k e v) {i : Nat} {x : TChunk} (hx : chOk n x) : Md n m q s (k.set i x) e v :=
 ⟨h.q, h.sn, h.s, by simp [h.kn], fun y hy => (mem_set hy).elim (h.k y) fun e => e ▸ hx, h.en, h.e, h.vn, h.v⟩
theorem Md.setS (h : Md n m q s k e v) {i : Nat} {x : TSnap} (hx : snOk n x) : Md n m q (s.set i x) k e v :=
 ⟨h.q, by simp [h.sn], fun y hy => (mem_set hy).elim (h.s y) fun e => e ▸ hx, h.kn, h.k, h.en, h.e, h.vn, h.v⟩
theorem Md.setE (h : Md n m q s k e v) {i : Nat} {x : TExp} (hx : exOk n x) : Md n m q s k (e.set i x) v :=
 ⟨h.q, h.sn, h.s, h.kn, h.k, by simp [h.en], fun y hy => (mem_set hy).elim (h.e y) fun e => e ▸ hx, h.vn, h.v⟩
theorem Md.setV (h : Md n m q s k e v) {i : Nat} {x : TVol} (hx : g_Vol x) : Md n m q s k e (v.set i x) :=
 ⟨h.q, h.sn, h.s, h.kn, h.k, h.en, h.e, by simp [h.vn], fun y hy => (mem_set hy).elim (h.v y) fun e => e ▸ hx⟩
end
theorem t138 {F n m : Nat} {q : Int} {s : List TSnap} {k : List TChunk} {e : List TExp} {v : List TVol} {it : TItem} {lc : TLoc} (hF : 1000 ≤ F) (h : Md n m q s k e v) (hn : n < 300) (hm : m < 300) (hl : g_Loc lc) (h1 : gI it.Seq) (h2 : gI it.Of) :
    T (M138 F { Seq := q, Snaps := s, Chunks := k, Exps := e, Vols := v } it lc) fun r => Md (n + 1) (m + 1) r.2.1 r.2.2.1 r.2.2.2.1 r.2.2.2.2 v := by
  have hsn := h.sn
  have hkn := h.kn
  have hen := h.en
  have H : Md (n + 1) (m + 1) q s k e v := h.mono (by omega) (by omega)
  have H1 : Md (n + 1) m q s k e v := h.mono (by omega) (by omega)
  unfold M138
  refine .after (T.mono (P := L3 (fun _ => False) (fun j => Md (n + 1) (m + 1) j.1 s j.2.1 j.2.2 v) fun r => Md (n + 1) (m + 1) r.2.1 r.2.2.1 r.2.2.2.1 r.2.2.2.2 v) (.ite (fun _ => ?_) fun _ => .ite (fun _ => ?_) fun _ => ?_) fun j hj => ?_)
  · refine .bind _ (t64 hF (by simp only; omega)) fun y hy => .ite (fun _ => .ret H) fun hc => ?_
    have hc : ¬ (y < 0) := by simpa using hc
    simp only at hy
    refine .ix (by omega) (by simp only; omega) fun x _ hx => .bind _ (t146 hF (h.k x hx).2.2.2 (by omega) hl) fun z hz => .ix (by omega) (by simp only; omega) fun x2 _ hx2 => .brk ?_
    exact H.setK ⟨(h.k x2 hx2).1, (h.k x2 hx2).2.1, (h.k x2 hx2).2.2.1, hz⟩
  · refine .loop (fun i => 0 ≤ i ∧ i ≤ s.length) (fun i => (s.length - i).toNat) (fun _ => True) (by omega) (by omega) (fun i hi => ?_) (fun _ _ => .ret H)
    unfold M138_L3
    refine .ite (fun hc => ?_) fun _ => .brk trivial
    have hc := of_decide_eq_true hc
    simp only at hc
    rw [wr (n := i + 1) (by omega) (by omega)]
    refine .ix (by omega) (by simp only; omega) fun x _ hx => .ite (fun _ => ?_) fun _ => .go (by omega)
    refine .ix (by omega) (by simp only; omega) fun x _ hx => .bind _ (t146 hF (h.s x hx).2.2 (by omega) hl) fun z hz => .ix (by omega) (by simp only; omega) fun x2 _ hx2 => .ret ?_
    exact H.setS (x := { x2 with Locs := z }) ⟨(h.s x2 hx2).1, (h.s x2 hx2).2.1, hz⟩
  · refine T.scan (by simp only; omega) (by simp only; omega) (fun _ => rfl) (fun y _ => .brk trivial) fun r hr => ?_
    simp only at hr
    have rest : T ((slc e 0 r).bind fun x441 => (app ([] : List TExp) x441).bind fun z443 => (app z443 ([({ Seq := it.Seq, Of := it.Of, Locs := ([lc] : List TLoc) } : TExp)] : List TExp)).bind fun z451 => (slc e r (e).length).bind fun x459 => (app z451 x459).bind fun z461 => after (if (decide (q ≤ it.Seq)) = true then (some (.brk (decide (it.Seq < 4611686018427387904)))) else some (.brk false) : Option (Lp (Bool) (Lp (Int × (List TChunk) × (List TExp)) (Bool × Int × (List TSnap) × (List TChunk) × (List TExp))))) fun j471 => after (if j471 = true then (some (.brk (IntKind.wrap .i64 (it.Seq + 1)))) else some (.brk q) : Option (Lp (Int) (Lp (Int × (List TChunk) × (List TExp)) (Bool × Int × (List TSnap) × (List TChunk) × (List TExp))))) fun j476 => some (.brk (j476, k, z461)))
        (L3 (fun _ => False) (fun j => Md (n + 1) (m + 1) j.1 s j.2.1 j.2.2 v) fun r => Md (n + 1) (m + 1) r.2.1 r.2.2.1 r.2.2.2.1 r.2.2.2.2 v) := by
      refine .ins (by omega) (by omega) fun z z1 z2 => ?_
      have fin : ∀ q' : Int, gI q' → Md (n + 1) (m + 1) q' s k z v := fun q' hq => ⟨hq, H.sn, H.s, H.kn, H.k, by omega, fun x hx => by
        rcases z2 x hx with h3 | rfl
        · exact H.e x h3
        · exact ⟨h1, h2, by simp, fun y hy => by rw [List.mem_singleton] at hy; exact hy ▸ hl⟩, H.vn, H.v⟩
      have fin2 : ∀ b : Bool, T (after (if b = true then (some (.brk (IntKind.wrap .i64 (it.Seq + 1)))) else some (.brk q) : Option (Lp (Int) (Lp (Int × (List TChunk) × (List TExp)) (Bool × Int × (List TSnap) × (List TChunk) × (List TExp))))) fun j476 => some (.brk (j476, k, z)))
          (L3 (fun _ => False) (fun j => Md (n + 1) (m + 1) j.1 s j.2.1 j.2.2 v) fun r => Md (n + 1) (m + 1) r.2.1 r.2.2.1 r.2.2.2.1 r.2.2.2.2 v) := fun b => .after (.ite (fun _ => .brk (.brk (fin _ (gI_wr _)))) fun _ => .brk (.brk (fin _ h.q)))
      exact .after (.ite (fun _ => .brk (fin2 _)) fun _ => .brk (fin2 _))
    refine .after (.ite (fun hc => ?_) fun _ => .brk (T.ite (fun h => by cases h) fun _ => rest))
    have hc := of_decide_eq_true hc
    simp only at hc
    refine .ix (by omega) (by simp only; omega) fun x _ hx => .brk (T.ite (fun _ => ?_) fun _ => rest)
    refine .ix (by omega) (by simp only; omega) fun x _ hx => .bind _ (t146 hF (h.e x hx).2.2 (by omega) hl) fun z hz => .ix (by omega) (by simp only; omega) fun x2 _ hx2 => .ret ?_
    exact H.setE (x := { x2 with Locs := z }) ⟨(h.e x2 hx2).1, (h.e x2 hx2).2.1, hz⟩
  · cases j with
    | go _ => exact hj
    | brk j => exact .some hj
    | ret r => exact hj
theorem t135 {F n : Nat} {k : List TChunk} {x : TChunk} (hF : 1000 ≤ F) (hk : k.length ≤ 390) (h : ∀ y ∈ k, chOk n y) (hx : chOk n x) (hn : n ≤ 300) : T (M135a F k x) fun r => r.length ≤ k.length + 1 ∧ ∀ y ∈ r, chOk n y := by
 unfold M135a
 refine T.scan (by omega) (by omega) (fun _ => rfl) (fun y hy => .bindEq (m60 hF (h y hy).1 hx.1) (.brk trivial)) fun r hr => ?_
 have rest : T ((slc k 0 r).bind fun x104 => (app ([] : List TChunk) x104).bind fun z106 => (app z106 ([x] : List TChunk)).bind fun z114 => (slc k r (k).length).bind fun x122 => (app z114 x122).bind fun z124 => some z124) fun r => r.length ≤ k.length + 1 ∧ ∀ y ∈ r, chOk n y :=
  .ins hr (by omega) fun z z1 z2 => .some ⟨by omega, fun y hy => by
   rcases z2 y hy with h3 | rfl
   ·exact h y h3
   ·exact hx⟩
 refine .after (.ite (fun hc => ?_) fun _ => .brk (T.ite (fun h => by cases h) fun _ => rest))
 have hc := of_decide_eq_true hc
 refine .ix (by omega) (by omega) fun y _ hy => .brk (T.ite (fun _ => ?_) fun _ => rest)
 rw [m54a]
 refine .bindEq (m54 hF (by omega) fun y hy => ⟨Nat.le_trans (h y hy).2.2.2.1 hn, (h y hy).2.1⟩) (.bindEq (m100 (by have := hx.2.1; omega)) (.ix (by omega) (by omega) fun y2 _ hy2 => .ix (by omega) (by simp; omega) fun y3 _ hy3 => .some ⟨by simp, fun w hw => ?_⟩))
 have g2 := h y2 hy2
 have g2' : chOk n { y2 with Staged := true } := g2
 have g3 : chOk n y3 := by
  rcases mem_set hy3 with h4 | rfl
  ·exact h y3 h4
  ·exact g2'
 rcases mem_set hw with h3 | rfl
 ·rcases mem_set h3 with h4 | rfl
  ·exact h w h4
  ·exact g2'
 ·exact ⟨g3.1, hx.2.1, hx.2.2.1, g3.2.2.2⟩
theorem t110 {F : Nat} {c : TChange} (hF : 1000 ≤ F) (h : Chg c) : T (M110 F c) Chg := by
 unfold M110
 have h1 := h.cn
 have h2 := h.it
 refine .bindEq (m52 hF h.man.2.1 fun p hp => (h.man.2.2.1 p hp).2) (.bindEq (m53 (by rw [h.locs]; simp)) (.bindEq (m54 hF (by simp only; omega) fun y hy => ⟨by rw [(h.ch y hy).2.2.2]; simp, (h.ch y hy).2.1⟩) (.app (by simp; omega) (.some ?_))))
 exact ⟨h.seq, h.man, h.locs, h.cn, h.ch, h.sq, h.vol, by simpa using h.it, by simpa using h.iti⟩
open Go.Vm
abbrev R109 := Int × Int × (List TSnap) × (List TChunk) × (List TExp) × (List TVol)
def Po (r : R109) : Prop := r.1 = 0 → Md 264 264 r.2.1 r.2.2.1 r.2.2.2.1 r.2.2.2.2.1 r.2.2.2.2.2
theorem notZ {n : Int} {x : Int × (List TSnap) × (List TChunk) × (List TExp) × (List TVol)} (h : n ≠ 0) : Po (n, x) := fun h0 => absurd h0 h
theorem t109 {F : Nat} {c : TCatalog} {d : TChange} (hF : 1000 ≤ F) (ok : Ok c) (hd : Chg d) : T (M109 F c d) Po := by
  have H := ok.md
  have H2 : Md 264 264 c.Seq c.Snaps c.Chunks c.Exps c.Vols := H.mono (by omega) (by omega)
  have c1 := ok.rg.ch
  have c2 := ok.rg.sn
  have c3 := ok.rg.ex
  have c4 := ok.rg.vo
  have dn := hd.cn
  have di := hd.it
  have gvol : gI d.Vol := hd.vol
  unfold M109
  refine .after (T.mono (P := L3 (fun _ => False) (fun j => Md 264 264 j.1 j.2.1 j.2.2.1 j.2.2.2.1 j.2.2.2.2) Po) (.ite (fun _ => ?_) fun _ => ?_) fun j hj => ?_)
  · have k1 : ∀ b : Bool, T (after (loopM (fun s => M109_L1 F d s.1 s.2) F (b, 0)) fun ⟨r8267, r8268⟩ => if (!r8267) = true then (some (.ret (1, c.Seq, c.Snaps, c.Chunks, c.Exps, c.Vols))) else (M50 F ({ Seq := c.Seq, Snaps := c.Snaps, Chunks := c.Chunks, Exps := c.Exps, Vols := c.Vols } : TCatalog) d.Snap.Man.Name).bind fun y8276 => if (decide (0 ≤ y8276)) = true then (some (.ret (9, c.Seq, c.Snaps, c.Chunks, c.Exps, c.Vols))) else (app c.Snaps ([d.Snap] : List TSnap)).bind fun z8291 => after (loopM (fun s => M109_L3 F d s.1 s.2) F (c.Chunks, 0)) fun ⟨r8375, r8376⟩ => some (.brk (IntKind.wrap .i64 (c.Seq + 1), z8291, r8375, c.Exps, c.Vols)))
        (L3 (fun _ => False) (fun j => Md 264 264 j.1 j.2.1 j.2.2.1 j.2.2.2.1 j.2.2.2.2) Po) := fun b => by
      refine .loop (fun s => 0 ≤ s.2 ∧ s.2 ≤ d.Chunks.length) (fun s => (d.Chunks.length - s.2).toNat) (fun _ => True) (by simp; omega) (by simp) (fun s hs => ?_) (fun s _ => ?_)
      · obtain ⟨b, i⟩ := s
        simp only at hs
        unfold M109_L1
        refine .ite (fun hc => ?_) fun _ => .brk trivial
        have hc := of_decide_eq_true hc
        simp only at hc
        rw [wr (n := i + 1) (by omega) (by omega)]
        refine .after (.ite (fun _ => .ix (by omega) (by omega) fun x _ _ => .ite (fun _ => .ix (by omega) (by omega) fun y _ _ => .brk (.go (by first | omega | (simp only; omega)))) fun _ => .brk (.go (by first | omega | (simp only; omega)))) fun _ => .brk (.go (by first | omega | (simp only; omega))))
      · obtain ⟨b, i⟩ := s
        refine .ite (fun _ => .ret (notZ (by decide))) fun _ => .bindEq (m50f hF (by first | omega | (simp only; omega))) (.ite (fun _ => .ret (notZ (by decide))) fun _ => .app (by simp; omega) ?_)
        refine .loop (fun s => 0 ≤ s.2 ∧ s.2 ≤ d.Chunks.length ∧ (s.1.length : Int) ≤ c.Chunks.length + s.2 ∧ ∀ x ∈ s.1, chOk 200 x) (fun s => (d.Chunks.length - s.2).toNat) (fun s => s.1.length ≤ 360 ∧ ∀ x ∈ s.1, chOk 200 x) (by simp; omega) ⟨by simp, by simp, by simp, H.k⟩ (fun s hs => ?_) (fun s hs => ?_)
        · obtain ⟨q, i⟩ := s
          simp only at hs
          unfold M109_L3
          refine .ite (fun hc => ?_) fun _ => .brk ⟨by first | omega | (simp only; omega), hs.2.2.2⟩
          have hc := of_decide_eq_true hc
          simp only at hc
          rw [wr (n := i + 1) (by omega) (by omega)]
          refine .ix (by omega) (by omega) fun x _ hx => ?_
          have gx := hd.ch x hx
          refine .bind _ (t135 hF (by first | omega | (simp only; omega)) hs.2.2.2 ⟨gx.1, gx.2.1, gx.2.2.1, by rw [gx.2.2.2]; exact ⟨by simp, fun _ h => by simp at h⟩⟩ (by omega)) fun y hy => .go ⟨⟨by first | omega | (simp only; omega), by first | omega | (simp only; omega), ?_, hy.2⟩, by first | omega | (simp only; omega)⟩
          have := hy.1
          simp only at this ⊢
          omega
        · obtain ⟨q, i⟩ := s
          refine .some ?_
          refine ⟨gI_wr _, by simp; omega, fun x hx => ?_, hs.1, fun x hx => (hs.2 x hx).mono (by omega), H2.en, H2.e, H2.vn, H2.v⟩
          rcases List.mem_append.1 hx with h | h
          · exact H2.s x h
          · rw [List.mem_singleton] at h
            subst h
            exact ⟨hd.seq, hd.man, by rw [hd.locs]; exact ⟨by simp, fun _ h => by simp at h⟩⟩
    exact .after (.ite (fun _ => .brk (k1 _)) fun _ => .brk (k1 _))
  · refine .after (T.mono (P := L3 (fun _ => False) (fun j => Md 264 264 j.1 j.2.1 j.2.2.1 j.2.2.2.1 j.2.2.2.2) (L3 (fun _ => False) (fun j => Md 264 264 j.1 j.2.1 j.2.2.1 j.2.2.2.1 j.2.2.2.2) Po)) (.ite (fun _ => ?_) fun _ => ?_) fun j hj => ?_)
    · refine .bind _ (t136 hF H (by omega) (by omega)) fun y hy => .ite (fun _ => .ret (show Po _ from notZ (by decide))) fun _ => .brk (hy.mono (by omega) (by omega))
    · refine .after (T.mono (P := L3 (fun _ => False) (fun j => Md 264 264 j.1 j.2.1 j.2.2.1 j.2.2.2.1 j.2.2.2.2) (L3 (fun _ => False) (fun j => Md 264 264 j.1 j.2.1 j.2.2.1 j.2.2.2.1 j.2.2.2.2) (L3 (fun _ => False) (fun j => Md 264 264 j.1 j.2.1 j.2.2.1 j.2.2.2.1 j.2.2.2.2) Po))) (.ite (fun _ => ?_) fun _ => ?_) fun j hj => ?_)
      · have H137 := t137 (F := F) (c := { Seq := c.Seq, Snaps := c.Snaps, Chunks := c.Chunks, Exps := c.Exps, Vols := c.Vols }) (i := d.Vol) (a := 1) (b := 2)
        refine .after (T.mono (P := L3 (fun _ => False) (fun b => b = true → 0 ≤ d.Vol ∧ d.Vol < c.Vols.length) (fun _ => False)) (.bind _ H137 fun y hy => .ite (fun hc => .ite (fun _ => .brk fun _ => hy hc) fun _ => .brk fun h => by cases h) fun _ => .brk fun h => by cases h) fun j hj => ?_)
        cases j with
        | go _ => exact hj
        | ret _ => exact hj.elim
        | brk b =>
        replace hj : b = true → 0 ≤ d.Vol ∧ d.Vol < c.Vols.length := hj
        refine T.loop (fun s => 0 ≤ s.2 ∧ s.2 ≤ d.Items.length ∧ (s.1 = true → 0 ≤ d.Vol ∧ d.Vol < c.Vols.length)) (fun s => (d.Items.length - s.2).toNat) (fun s => s.1 = true → 0 ≤ d.Vol ∧ d.Vol < c.Vols.length) (by simp; omega) ⟨by simp, by simp, hj⟩ (fun s hs => ?_) (fun s hs => ?_)
        · obtain ⟨b, i⟩ := s
          simp only at hs
          unfold M109_L5
          refine .ite (fun hc => ?_) fun _ => .brk hs.2.2
          have hc := of_decide_eq_true hc
          simp only at hc
          rw [wr (n := i + 1) (by omega) (by omega)]
          have fin : ∀ b' : Bool, (b' = true → 0 ≤ d.Vol ∧ d.Vol < c.Vols.length) → T (some (.go (b', i + 1)) : Option (Lp (Bool × Int) (Lp (Int × List TSnap × List TChunk × List TExp × List TVol) (Lp (Int × List TSnap × List TChunk × List TExp × List TVol) (Lp (Int × List TSnap × List TChunk × List TExp × List TVol) R109)))))
            (L3 (fun s' => (0 ≤ s'.2 ∧ s'.2 ≤ d.Items.length ∧ (s'.1 = true → 0 ≤ d.Vol ∧ d.Vol < c.Vols.length)) ∧ (d.Items.length - s'.2).toNat < (d.Items.length - i).toNat) (fun s => s.1 = true → 0 ≤ d.Vol ∧ d.Vol < c.Vols.length) (L3 (fun _ => False) (fun j => Md 264 264 j.1 j.2.1 j.2.2.1 j.2.2.2.1 j.2.2.2.2) (L3 (fun _ => False) (fun j => Md 264 264 j.1 j.2.1 j.2.2.1 j.2.2.2.1 j.2.2.2.2) (L3 (fun _ => False) (fun j => Md 264 264 j.1 j.2.1 j.2.2.1 j.2.2.2.1 j.2.2.2.2) Po)))) := fun b' hb' => .go ⟨⟨by first | omega | (simp only; omega), by first | omega | (simp only; omega), hb'⟩, by first | omega | (simp only; omega)⟩
          refine .after (.ite (fun hb => ?_) fun _ => .brk (fin _ fun h => by cases h))
          exact .ix (by omega) (by omega) fun x _ _ => .ite (fun _ => .ix (by omega) (by omega) fun y _ _ => .brk (fin _ fun _ => hs.2.2 hb)) fun _ => .brk (fin _ fun h => by cases h)
        · obtain ⟨b, i0⟩ := s
          refine .ite (fun _ => .ret (show Po _ from notZ (by decide))) fun hb => ?_
          have hv := hs (by simpa using hb)
          refine .ix hv.1 hv.2 fun x _ hx => ?_
          have gx := ok.sm.g.2.2.2.2 x hx
          have gx1 : g_Vol { x with State := 2 } := ⟨gx.1, gx.2.1, (by show gI _; simp [gI]), gx.2.2.2⟩
          have gx2 : g_Vol { ({ x with State := 2 } : TVol) with Files := IntKind.wrap .i64 (x.Files + 1) } := ⟨gx.1, gx.2.1, (by show gI _; simp [gI]), gI_wr _⟩
          have HV : Md 200 200 c.Seq c.Snaps c.Chunks c.Exps ((c.Vols.set d.Vol.toNat { x with State := 2 }).set d.Vol.toNat { ({ x with State := 2 } : TVol) with Files := IntKind.wrap .i64 (x.Files + 1) }) := (H.setV gx1).setV gx2
          generalize hV : (c.Vols.set d.Vol.toNat { x with State := 2 }).set d.Vol.toNat { ({ x with State := 2 } : TVol) with Files := IntKind.wrap .i64 (x.Files + 1) } = V at HV
          refine T.loop (fun s => 0 ≤ s.2.2.2.2 ∧ s.2.2.2.2 ≤ d.Items.length ∧ Md (200 + s.2.2.2.2.toNat) (200 + s.2.2.2.2.toNat) s.1 s.2.1 s.2.2.1 s.2.2.2.1 V) (fun s => (d.Items.length - s.2.2.2.2).toNat) (fun s => Md 264 264 s.1 s.2.1 s.2.2.1 s.2.2.2.1 V) (by simp; omega) ⟨by simp, by simp, HV⟩ (fun s hs => ?_) (fun s hs => ?_)
          · obtain ⟨q, s, k, e, i⟩ := s
            simp only at hs
            unfold M109_L7
            refine .ite (fun hc => ?_) fun _ => .brk (hs.2.2.mono (by first | omega | (simp only; omega)) (by first | omega | (simp only; omega)))
            have hc := of_decide_eq_true hc
            simp only at hc
            simp only [hV]
            rw [wr (n := i + 1) (by omega) (by omega)]
            refine .ix (by omega) (by omega) fun x1 _ hx1 => .ix (by omega) (by omega) fun x2 _ hx2 => .ix (by omega) (by omega) fun x3 _ hx3 => ?_
            have d1 := hd.iti x1 hx1
            have d2 := hd.iti x2 hx2
            have d3 := hd.iti x3 hx3
            refine .bind _ (t138 hF hs.2.2 (by omega) (by omega) ⟨gvol, gI_wr _, d2.2.2.1, d3.2.2.2⟩ d1.1 d1.2.1) fun y hy => .ite (fun _ => .ret (show Po _ from notZ (by decide))) fun _ => .go ⟨⟨by first | omega | (simp only; omega), by first | omega | (simp only; omega), ?_⟩, by first | omega | (simp only; omega)⟩
            exact hy.mono (by first | omega | (simp only; omega)) (by first | omega | (simp only; omega))
          · obtain ⟨q, s, k, e, i0⟩ := s
            simp only at hs
            refine T.loop (fun s' => 0 ≤ s'.2.2 ∧ s'.2.2 ≤ d.Items.length ∧ Md 264 264 q s'.1 s'.2.1 e V) (fun s' => (d.Items.length - s'.2.2).toNat) (fun s' => Md 264 264 q s'.1 s'.2.1 e V) (by simp; omega) ⟨by simp, by simp, hs⟩ (fun s' hs2 => ?_) (fun s' hs2 => ?_)
            · obtain ⟨s, k, i⟩ := s'
              simp only at hs2
              unfold M109_L9
              refine .ite (fun hc => ?_) fun _ => .brk hs2.2.2
              have hc := of_decide_eq_true hc
              simp only at hc
              simp only [hV]
              rw [wr (n := i + 1) (by omega) (by omega)]
              refine .ix (by omega) (by omega) fun x1 _ _ => .after (.ite (fun _ => .ix (by omega) (by omega) fun x2 _ _ => .bind _ (t136 hF hs2.2.2 (by omega) (by omega)) fun y hy => .brk (.go ⟨⟨by first | omega | (simp only; omega), by first | omega | (simp only; omega), hy⟩, by first | omega | (simp only; omega)⟩)) fun _ => .brk (.go ⟨⟨by first | omega | (simp only; omega), by first | omega | (simp only; omega), hs2.2.2⟩, by first | omega | (simp only; omega)⟩))
            · obtain ⟨s, k, i1⟩ := s'
              simp only at hs2
              simp only [hV]
              refine .after (T.mono (P := L3 (fun _ => False) (fun k' => Md 264 264 q s k' e V) (fun _ => False)) (.ite (fun _ => ?_) fun _ => .brk hs2) fun j hj2 => ?_)
              · refine T.loop (fun s' => 0 ≤ s'.2 ∧ s'.2 ≤ d.Items.length ∧ Md 264 264 q s s'.1 e V) (fun s' => (d.Items.length - s'.2).toNat) (fun s' => Md 264 264 q s s'.1 e V) (by simp; omega) ⟨by simp, by simp, hs2⟩ (fun s' hs3 => ?_) (fun s' hs3 => .brk hs3)
                obtain ⟨k, i⟩ := s'
                simp only at hs3
                unfold M109_L11
                refine .ite (fun hc => ?_) fun _ => .brk hs3.2.2
                have hc := of_decide_eq_true hc
                simp only at hc
                simp only [hV]
                rw [wr (n := i + 1) (by omega) (by omega)]
                have hk := hs3.2.2.kn
                refine .ix (by omega) (by omega) fun x1 _ _ => .after (.ite (fun _ => .ix (by omega) (by omega) fun x2 _ _ => .bind _ (t64 hF (by first | omega | (simp only; omega))) fun y hy => .after (.ite (fun h0 => ?_) fun _ => .brk (.brk (.go ⟨⟨by first | omega | (simp only; omega), by first | omega | (simp only; omega), hs3.2.2⟩, by first | omega | (simp only; omega)⟩)))) fun _ => .brk (.go ⟨⟨by first | omega | (simp only; omega), by first | omega | (simp only; omega), hs3.2.2⟩, by first | omega | (simp only; omega)⟩))
                have h0 := of_decide_eq_true h0
                simp only at hy
                refine .ix (by omega) (by omega) fun z _ hz => .ix (by omega) (by simp; omega) fun z2 _ hz2 => .brk (.brk (.go ⟨⟨by first | omega | (simp only; omega), by first | omega | (simp only; omega), ?_⟩, by first | omega | (simp only; omega)⟩))
                have gz := hs3.2.2.k z hz
                have gz1 : chOk 264 { z with Staged := false } := gz
                have gz2 : chOk 264 z2 := (mem_set hz2).elim (hs3.2.2.k z2) fun e => e ▸ gz1
                exact (hs3.2.2.setK gz1).setK (x := { z2 with Data := [] }) ⟨gz2.1, by simp, fun _ h => by simp at h, gz2.2.2.2⟩
              · cases j with
                | go _ => exact hj2
                | ret _ => exact hj2.elim
                | brk k' => exact .brk hj2
      · refine .after (T.mono (P := L3 (fun _ => False) (fun j => Md 264 264 c.Seq j.1 j.2.1 j.2.2.1 j.2.2.2) (L3 (fun _ => False) (fun j => Md 264 264 j.1 j.2.1 j.2.2.1 j.2.2.2.1 j.2.2.2.2) (L3 (fun _ => False) (fun j => Md 264 264 j.1 j.2.1 j.2.2.1 j.2.2.2.1 j.2.2.2.2) (L3 (fun _ => False) (fun j => Md 264 264 j.1 j.2.1 j.2.2.1 j.2.2.2.1 j.2.2.2.2) Po)))) (.ite (fun _ => ?_) fun _ => ?_) fun j hj => ?_)
        · refine .bind _ t137 fun y hy => .ite (fun _ => .ret (show Po _ from notZ (by decide))) fun hb => ?_
          have hv := hy (by simpa using hb)
          refine .ix hv.1 hv.2 fun x _ hx => ?_
          have gx := ok.sm.g.2.2.2.2 x hx
          have gx1 : g_Vol { x with State := 3 } := ⟨gx.1, gx.2.1, (by show gI _; simp [gI]), gx.2.2.2⟩
          refine .ix hv.1 (by simp; exact hv.2) fun x2 _ hx2 => ?_
          have gx2 : g_Vol x2 := (mem_set hx2).elim (ok.sm.g.2.2.2.2 x2) fun e => e ▸ gx1
          have gx3 : g_Vol { x2 with Files := 0 } := ⟨gx2.1, gx2.2.1, gx2.2.2.1, (by show gI _; simp [gI])⟩
          have HV : Md 200 200 c.Seq c.Snaps c.Chunks c.Exps ((c.Vols.set d.Vol.toNat { x with State := 3 }).set d.Vol.toNat { x2 with Files := 0 }) := (H.setV gx1).setV gx3
          refine T.loop (fun s => 0 ≤ s.2 ∧ s.2 ≤ c.Chunks.length ∧ (s.1.length : Int) ≤ s.2 ∧ ∀ x ∈ s.1, chOk 200 x) (fun s => (c.Chunks.length - s.2).toNat) (fun s => s.1.length ≤ 360 ∧ ∀ x ∈ s.1, chOk 200 x) (by simp; omega) (by simp) (fun s hs => ?_) (fun s hs => ?_)
          · obtain ⟨q, i⟩ := s
            simp only at hs
            unfold M109_L13
            refine .ite (fun hc => ?_) fun _ => .brk ⟨by first | omega | (simp only; omega), hs.2.2.2⟩
            have hc := of_decide_eq_true hc
            simp only at hc
            rw [wr (n := i + 1) (by omega) (by omega)]
            refine .ix (by omega) (by omega) fun x1 _ hx1 => .bind _ (t139 hF (H.k x1 hx1).2.2.2 (by omega)) fun y hy => ?_
            have put : ∀ b : Bool, T (after (if b = true then ((app q ([{ x1 with Locs := y }] : List TChunk)).bind fun z16059 => some (.brk z16059)) else some (.brk q) : Option (Lp (List TChunk) (Lp (List TChunk × Int) (Lp (List TSnap × List TChunk × List TExp × List TVol) (Lp (Int × List TSnap × List TChunk × List TExp × List TVol) (Lp (Int × List TSnap × List TChunk × List TExp × List TVol) (Lp (Int × List TSnap × List TChunk × List TExp × List TVol) R109))))))) fun j16055 => some (.go (j16055, i + 1)))
                (L3 (fun s' => (0 ≤ s'.2 ∧ s'.2 ≤ c.Chunks.length ∧ (s'.1.length : Int) ≤ s'.2 ∧ ∀ x ∈ s'.1, chOk 200 x) ∧ (c.Chunks.length - s'.2).toNat < (c.Chunks.length - i).toNat) (fun s => s.1.length ≤ 360 ∧ ∀ x ∈ s.1, chOk 200 x) (L3 (fun _ => False) (fun j => Md 264 264 c.Seq j.1 j.2.1 j.2.2.1 j.2.2.2) (L3 (fun _ => False) (fun j => Md 264 264 j.1 j.2.1 j.2.2.1 j.2.2.2.1 j.2.2.2.2) (L3 (fun _ => False) (fun j => Md 264 264 j.1 j.2.1 j.2.2.1 j.2.2.2.1 j.2.2.2.2) (L3 (fun _ => False) (fun j => Md 264 264 j.1 j.2.1 j.2.2.1 j.2.2.2.1 j.2.2.2.2) Po))))) := fun b => by
              refine .after (.ite (fun _ => .app (by simp; omega) (.brk (.go ⟨⟨by first | omega | (simp only; omega), by first | omega | (simp only; omega), by simp; omega, fun w hw => ?_⟩, by first | omega | (simp only; omega)⟩))) fun _ => .brk (.go ⟨⟨by first | omega | (simp only; omega), by first | omega | (simp only; omega), by first | omega | (simp only; omega), hs.2.2.2⟩, by first | omega | (simp only; omega)⟩))
              rcases List.mem_append.1 hw with h | h
              · exact hs.2.2.2 w h
              · rw [List.mem_singleton] at h
                subst h
                exact ⟨(H.k x1 hx1).1, (H.k x1 hx1).2.1, (H.k x1 hx1).2.2.1, hy⟩
            exact .after (.ite (fun _ => .brk (put _)) fun _ => .brk (put _))
          · obtain ⟨k, i0⟩ := s
            simp only at hs
            refine T.loop (fun s => 0 ≤ s.2 ∧ s.2 ≤ c.Snaps.length ∧ s.1.length = c.Snaps.length ∧ ∀ x ∈ s.1, snOk 200 x) (fun s => (c.Snaps.length - s.2).toNat) (fun s => s.1.length ≤ 9 ∧ ∀ x ∈ s.1, snOk 200 x) (by simp; omega) ⟨by simp, by simp, rfl, H.s⟩ (fun s hs2 => ?_) (fun s hs2 => ?_)
            · obtain ⟨q, i⟩ := s
              simp only at hs2
              unfold M109_L15
              refine .ite (fun hc => ?_) fun _ => .brk ⟨by first | omega | (simp only; omega), hs2.2.2.2⟩
              have hc := of_decide_eq_true hc
              simp only at hc
              rw [wr (n := i + 1) (by omega) (by omega)]
              refine .ix (by omega) (by omega) fun x1 _ hx1 => .bind _ (t139 hF (hs2.2.2.2 x1 hx1).2.2 (by omega)) fun y hy => .ix (by omega) (by omega) fun x2 _ hx2 => .go ⟨⟨by first | omega | (simp only; omega), by first | omega | (simp only; omega), by simp; exact hs2.2.2.1, fun w hw => ?_⟩, by first | omega | (simp only; omega)⟩
              rcases mem_set hw with h | rfl
              · exact hs2.2.2.2 w h
              · exact ⟨(hs2.2.2.2 x2 hx2).1, (hs2.2.2.2 x2 hx2).2.1, hy⟩
            · obtain ⟨s, i1⟩ := s
              simp only at hs2
              refine T.loop (fun s => 0 ≤ s.2 ∧ s.2 ≤ c.Exps.length ∧ (s.1.length : Int) ≤ s.2 ∧ ∀ x ∈ s.1, exOk 200 x) (fun s => (c.Exps.length - s.2).toNat) (fun s => s.1.length ≤ 200 ∧ ∀ x ∈ s.1, exOk 200 x) (by simp; omega) (by simp) (fun s hs3 => ?_) (fun s hs3 => ?_)
              · obtain ⟨q, i⟩ := s
                simp only at hs3
                unfold M109_L17
                refine .ite (fun hc => ?_) fun _ => .brk ⟨by first | omega | (simp only; omega), hs3.2.2.2⟩
                have hc := of_decide_eq_true hc
                simp only at hc
                rw [wr (n := i + 1) (by omega) (by omega)]
                refine .ix (by omega) (by omega) fun x1 _ hx1 => .bind _ (t139 hF (H.e x1 hx1).2.2 (by omega)) fun y hy => ?_
                refine .after (.ite (fun _ => .app (by simp; omega) (.brk (.go ⟨⟨by first | omega | (simp only; omega), by first | omega | (simp only; omega), by simp; omega, fun w hw => ?_⟩, by first | omega | (simp only; omega)⟩))) fun _ => .brk (.go ⟨⟨by first | omega | (simp only; omega), by first | omega | (simp only; omega), by first | omega | (simp only; omega), hs3.2.2.2⟩, by first | omega | (simp only; omega)⟩))
                rcases List.mem_append.1 hw with h | h
                · exact hs3.2.2.2 w h
                · rw [List.mem_singleton] at h
                  subst h
                  exact ⟨(H.e x1 hx1).1, (H.e x1 hx1).2.1, hy⟩
              · obtain ⟨e, i2⟩ := s
                simp only at hs3
                exact .brk (Md.mono (n := 200) (m := 200) ⟨H.q, hs2.1, hs2.2, hs.1, hs.2, hs3.1, hs3.2, HV.vn, HV.v⟩ (by omega) (by omega))
        · refine .after (T.mono (P := L3 (fun _ => False) (fun v' => Md 264 264 c.Seq c.Snaps c.Chunks c.Exps v') (L3 (fun _ => False) (fun j => Md 264 264 c.Seq j.1 j.2.1 j.2.2.1 j.2.2.2) (L3 (fun _ => False) (fun j => Md 264 264 j.1 j.2.1 j.2.2.1 j.2.2.2.1 j.2.2.2.2) (L3 (fun _ => False) (fun j => Md 264 264 j.1 j.2.1 j.2.2.1 j.2.2.2.1 j.2.2.2.2) (L3 (fun _ => False) (fun j => Md 264 264 j.1 j.2.1 j.2.2.1 j.2.2.2.1 j.2.2.2.2) Po))))) (.ite (fun _ => ?_) fun _ => .brk H2) fun j hj => ?_)
          · refine .bind _ t137 fun y hy => .ite (fun _ => .ret (show Po _ from notZ (by decide))) fun hb => ?_
            have hv := hy (by simpa using hb)
            refine .ix hv.1 hv.2 fun x _ hx => .ix hv.1 hv.2 fun x1 _ hx1 => ?_
            have gx := ok.sm.g.2.2.2.2 x1 hx1
            have gx1 : g_Vol { x1 with State := 1 } := ⟨gx.1, gx.2.1, (by show gI _; simp [gI]), gx.2.2.2⟩
            refine .ix hv.1 (by simp; exact hv.2) fun x2 _ hx2 => .brk ?_
            have gx2 : g_Vol x2 := (mem_set hx2).elim (ok.sm.g.2.2.2.2 x2) fun e => e ▸ gx1
            exact (H2.setV gx1).setV (x := { x2 with Epoch := IntKind.wrap .i64 (x.Epoch + 1) }) ⟨gx2.1, gI_wr _, gx2.2.2.1, gx2.2.2.2⟩
          · cases j with
            | go _ => exact hj
            | brk j => exact .brk hj
            | ret r => exact hj
        · cases j with
          | go _ => exact hj
          | brk j => exact .brk hj
          | ret r => exact hj
      · cases j with
        | go _ => exact hj
        | brk j => exact .brk hj
        | ret r => exact hj
    · cases j with
      | go _ => exact hj
      | brk j => exact .brk hj
      | ret r => exact hj
  · cases j with
    | go _ => exact hj
    | brk j => exact .some fun _ => hj
    | ret r => exact hj
open Go.Vm
theorem take_step {α : Type} {l : List α} {P : α → Prop} {i : Int} {x : α} (h0 : 0 ≤ i) (hx : l[i.toNat]? = some x) (h : ∀ y ∈ l.take i.toNat, P y) (hP : P x) : ∀ y ∈ l.take (i + 1).toNat, P y := by
 intro y hy
 obtain ⟨hlt, he⟩ := List.getElem?_eq_some_iff.1 hx
 rw [show (i + 1).toNat = i.toNat + 1 from by omega, List.take_succ_eq_append_getElem hlt] at hy
 rcases List.mem_append.1 hy with h1 | h1
 ·exact h y h1
 ·rw [List.mem_singleton, he] at h1
  exact h1 ▸ hP
theorem take_mem {α : Type} {l : List α} {i n : Nat} {x : α} (hx : l[i]? = some x) (hi : i < n) : x ∈ l.take n := by
 refine List.mem_of_getElem? (i := i) ?_
 rw [List.getElem?_take_of_lt hi, hx]
theorem t67 {F : Nat} {c : TCatalog} {d : TChange} (hF : 1000 ≤ F) (h : Sm c) (hg : good c = true) (hd : Chg d) : T (M67 F c d) fun r => r.2 = 0 → Sm r.1 ∧ good r.1 = true := by
  unfold M67
  refine .after (.bindEq (m19 hF h) (.ite (fun hc => ?_) fun _ => ?_))
  · rw [hg] at hc; cases hc
  · have rest : T (if (false : Bool) = true then (some (({ Seq := 0, Snaps := [], Chunks := [], Exps := [], Vols := [] } : TCatalog), 1)) else (M14d F c).bind fun y27 => (M110 F d).bind fun y47 => (M109 F ({ Seq := y27.Seq, Snaps := y27.Snaps, Chunks := y27.Chunks, Exps := y27.Exps, Vols := y27.Vols } : TCatalog) y47).bind fun y49 => if (y49.1 != 0) = true then (some (({ Seq := 0, Snaps := [], Chunks := [], Exps := [], Vols := [] } : TCatalog), y49.1)) else (M19 F ({ Seq := y49.2.1, Snaps := y49.2.2.1, Chunks := y49.2.2.2.1, Exps := y49.2.2.2.2.1, Vols := y49.2.2.2.2.2 } : TCatalog)).bind fun y69 => if (!y69) = true then (some (({ Seq := 0, Snaps := [], Chunks := [], Exps := [], Vols := [] } : TCatalog), 1)) else some (({ Seq := y49.2.1, Snaps := y49.2.2.1, Chunks := y49.2.2.2.1, Exps := y49.2.2.2.2.1, Vols := y49.2.2.2.2.2 } : TCatalog), 0))
        fun r => r.2 = 0 → Sm r.1 ∧ good r.1 = true := by
      refine .ite (fun h => by cases h) fun _ => .bindEq (m14d hF h) (.bind _ (t110 hF hd) fun d' hd' => .bind _ (t109 hF ⟨h, rng hg⟩ hd') fun y hy => .ite (fun h0 => .some fun h1 => ?_) fun h0 => ?_)
      · simp only at h1
        rw [h1] at h0
        cases h0
      · have M := hy (by simpa using h0)
        have S := M.sm (by omega) (by omega)
        refine .bindEq (m19 hF S) (.ite (fun _ => .some fun h => by simp at h) fun hq => .some fun _ => ⟨S, ?_⟩)
        simpa using hq
    refine .ite (fun _ => .brk (T.ite (fun _ => .some fun h => by simp at h) fun h => absurd rfl h)) fun _ => .brk ?_
    cases decide (5 < d.Kind)
    · exact rest
    · exact T.ite (fun _ => .some fun h => by simp at h) fun h => absurd rfl h
def actOk (a : TAct) : Prop := ∀ f ∈ a.Tree, f.Path.size ≤ 100
theorem t27 {F : Nat} {l : List TAct} (hF : 1000 ≤ F) : T (M27 F l) fun b => b = false → ∀ a ∈ l.take 30, actOk a := by
 unfold M27
 refine .ite (fun _ => .some fun h => by cases h) fun hl => ?_
 have hl : l.length ≤ 120 := by simp at hl; omega
 refine .loop (fun i => 0 ≤ i ∧ i ≤ l.length ∧ i ≤ 30 ∧ ∀ a ∈ l.take i.toNat, actOk a) (fun i => (l.length - i).toNat) (fun _ => ∀ a ∈ l.take 30, actOk a) (by omega) (by simp) (fun i hi => ?_) (fun i hi => .some fun _ => hi)
 obtain ⟨i0, i1, i2, i3⟩ := hi
 unfold M27_L0
 refine .after (.ite (fun hc => .brk (T.ite (fun hc2 => ?_) fun hc2 => .brk fun a ha => ?_)) fun hc => .brk (T.ite (fun h => by cases h) fun _ => .brk fun a ha => ?_))
 ·have hc := of_decide_eq_true hc
  have hc2 := of_decide_eq_true hc2
  rw [wr (n := i + 1) (by omega) (by omega)]
  refine .after (.ix (by omega) (by omega) fun x e hx => .ite (fun _ => .brk (T.ite (fun _ => .ret fun h => by cases h) fun h => absurd rfl h)) fun _ => .ix (by omega) (by omega) fun y e2 hy => .brk (T.ite (fun _ => .ret fun h => by cases h) fun ht => ?_))
  have ht : y.Tree.length ≤ 10 := by simp at ht; omega
  refine .loop (fun j => 0 ≤ j ∧ j ≤ y.Tree.length ∧ ∀ f ∈ y.Tree.take j.toNat, f.Path.size ≤ 100) (fun j => (y.Tree.length - j).toNat) (fun _ => actOk y) (by omega) (by simp) (fun j hj => ?_) (fun j hj => .go ⟨⟨by omega, by omega, by omega, take_step i0 e2 i3 hj⟩, by omega⟩)
  obtain ⟨j0, j1, j2⟩ := hj
  have same : ∀ z, l[i.toNat]? = some z → z = y := fun z hz => by rw [e2] at hz; exact (Option.some.inj hz).symm
  unfold M27_L2
  refine .ix (by omega) (by omega) fun z ez _ => ?_
  obtain rfl := same z ez
  refine .ite (fun hc => ?_) fun hc => .brk fun f hf => j2 f ?_
  ·have hc := of_decide_eq_true hc
   rw [wr (n := j + 1) (by omega) (by omega)]
   refine .after (.ix (by omega) (by omega) fun z2 ez2 _ => ?_)
   obtain rfl := same z2 ez2
   refine .ix (by omega) (by omega) fun f ef hf => .ite (fun _ => .brk (T.ite (fun _ => .ret (show (_ : Bool) = false → _ from fun h => by cases h)) fun h => absurd rfl h)) fun _ => .ix (by omega) (by omega) fun z3 ez3 _ => ?_
   obtain rfl := same z3 ez3
   refine .ix (by omega) (by omega) fun f ef hf => .brk (T.ite (fun _ => .ret (show (_ : Bool) = false → _ from fun h => by cases h)) fun hp => .go ⟨⟨by omega, by omega, take_step j0 ef j2 ?_⟩, by omega⟩)
   simp at hp
   omega
  ·have hc : ¬ (j < z.Tree.length) := by simpa using hc
   rw [List.take_of_length_le (by omega)]
   exact hf
 ·have hc2 : ¬ (i < 30) := by simpa using hc2
  have : i.toNat = 30 := by omega
  rw [this] at i3
  exact i3 a ha
 ·have hc : ¬ (i < l.length) := by simpa using hc
  refine i3 a ?_
  rw [List.take_of_length_le (by omega)]
  exact List.mem_of_mem_take ha
theorem and1 (x : Int) (hx : gI x) : bitsV .and .i64 x 1 = 0 ∨ bitsV .and .i64 x 1 = 1 := by
 have e : bitsV .and .i64 x 1 = IntKind.wrap .i64 ((BitVec.ofInt 64 x &&& BitVec.ofInt 64 1).toNat : Int) := rfl
 have e1 : (BitVec.ofInt 64 1).toNat = 1 := by decide
 rw [e, BitVec.toNat_and, e1, Nat.and_one_is_mod]
 rcases Nat.mod_two_eq_zero_or_one (BitVec.ofInt 64 x).toNat with h | h <;> rw [h]
 ·exact .inl rfl
 ·exact .inr rfl
theorem t29 {F : Nat} {l : List Int} (hF : 1000 ≤ F) (gl : gL gI l) : T (M29 F l) fun r => inR r.length 1 8 = true ∧ r.all poolB = true ∧ gL gI r := by
 unfold M29
 refine .loop (fun s => 0 ≤ s.2 ∧ s.2 ≤ l.length ∧ s.2 ≤ 8 ∧ (s.1.length : Int) = s.2 ∧ ∀ x ∈ s.1, x = 0 ∨ x = 1) (fun s => (8 - s.2).toNat) (fun s => s.1.length ≤ 8 ∧ ∀ x ∈ s.1, x = 0 ∨ x = 1) (by simp; omega) (by simp) (fun s hs => ?_) (fun s hs => ?_)
 ·obtain ⟨q, i⟩ := s
  simp only at hs
  unfold M29_L0
  refine .after (.ite (fun hc => .brk (T.ite (fun hc2 => ?_) fun hc2 => .brk ⟨by first | omega | (simp only; omega), hs.2.2.2.2⟩)) fun hc => .brk (T.ite (fun h => by cases h) fun _ => .brk ⟨by first | omega | (simp only; omega), hs.2.2.2.2⟩))
  have hc := of_decide_eq_true hc
  have hc2 := of_decide_eq_true hc2
  simp only at hc hc2
  rw [wr (n := i + 1) (by omega) (by omega)]
  refine .ix (by omega) (by omega) fun x _ hx => .app (by simp; omega) (.go ⟨⟨by first | omega | (simp only; omega), by first | omega | (simp only; omega), by first | omega | (simp only; omega), by simp; omega, fun y hy => ?_⟩, by first | omega | (simp only; omega)⟩)
  rcases List.mem_append.1 hy with h | h
  ·exact hs.2.2.2.2 y h
  ·rw [List.mem_singleton] at h
   exact h ▸ and1 x (gl x hx)
 ·obtain ⟨q, i⟩ := s
  simp only at hs
  have fin : ∀ r : List Int, 0 < r.length → r.length ≤ 8 → (∀ x ∈ r, x = 0 ∨ x = 1) → inR r.length 1 8 = true ∧ r.all poolB = true ∧ gL gI r := fun r h1 h2 h3 => by
   refine ⟨by unfold inR; simp; omega, ?_, fun x hx => ?_⟩
   ·rw [List.all_eq_true]
    intro x hx
    rcases h3 x hx with rfl | rfl <;> rfl
   ·rcases h3 x hx with rfl | rfl <;> simp [gI]
  refine .after (.ite (fun _ => .brk (.some (fin _ (by simp) (by simp) (by simp)))) fun hc => .brk (.some (fin _ ?_ hs.1 hs.2)))
  have : ¬ ((q.length : Int) = 0) := by simpa using hc
  omega
theorem t28 {F : Nat} {q : List Int} {l : List TAct} (hF : 1000 ≤ F) (h1 : inR q.length 1 8 = true) (h2 : q.all poolB = true) (h3 : gL gI q) (gl : gL g_Act l) (ho : ∀ a ∈ l.take 30, actOk a) : T (M28 F q l) fun c => Sm c ∧ good c = true := by
 have h8 : q.length ≤ 8 := by unfold inR at h1; simp at h1; omega
 unfold M28
 refine .bindEq (m32 hF (by omega)) ?_
 refine .loop (fun s => 0 ≤ s.2 ∧ s.2 ≤ 30 ∧ Sm s.1 ∧ good s.1 = true) (fun s => (30 - s.2).toNat) (fun s => Sm s.1 ∧ good s.1 = true) (by simp; omega) ⟨by simp, by simp, newC_sm h8 h3, newC_good h1 h2⟩ (fun s hs => ?_) (fun s hs => .some hs)
 obtain ⟨c, i⟩ := s
 simp only at hs
 obtain ⟨s1, s2, s3, s4⟩ := hs
 unfold M28_L0
 refine .after (.ite (fun hc => .brk (T.ite (fun hc2 => ?_) fun hc2 => .brk ⟨s3, s4⟩)) fun hc => .brk (T.ite (fun h => by cases h) fun _ => .brk ⟨s3, s4⟩))
 have hc := of_decide_eq_true hc
 have hc2 := of_decide_eq_true hc2
 simp only at hc hc2
 rw [wr (n := i + 1) (by omega) (by omega)]
 have go : ∀ c' : TCatalog, Sm c' → good c' = true → T (some (.go (c', i + 1)) : Option (Lp (TCatalog × Int) TCatalog)) (L3 (fun s' => (0 ≤ s'.2 ∧ s'.2 ≤ 30 ∧ Sm s'.1 ∧ good s'.1 = true) ∧ (30 - s'.2).toNat < (30 - i).toNat) (fun s => Sm s.1 ∧ good s.1 = true) (fun c => Sm c ∧ good c = true)) := fun c' h5 h6 => .go ⟨⟨by first | omega | (simp only; omega), by first | omega | (simp only; omega), h5, h6⟩, by first | omega | (simp only; omega)⟩
 refine .ix (by omega) (by omega) fun a ea ha => .bind _ (t66 hF ⟨s3, rng s4⟩ fun f hf => ⟨ho a (take_mem ea (by omega)) f hf, ((gl a ha).2.2.2.1 f hf).2⟩) fun y hy => .after (.ite (fun _ => .bind _ (t67 hF s3 s4 hy) fun z hz => .after (.ite (fun h0 => ?_) fun _ => .brk (.brk (go _ s3 s4)))) fun _ => .brk (go _ s3 s4))
 have := hz (by simpa using h0)
 exact .brk (.brk (go _ this.1 this.2))
open Go.Vm
def M84a (fuel : Nat) (p0 : List TLoc) : Option (List TLoc) := app [] p0
set_option maxRecDepth 100000 in
theorem W84a {fuel : Nat} {p0 : List TLoc} {o : List TLoc} (h : Heap) (hm : M84a fuel p0 = some o) :
 ACalls Try.prog 84 [.sl none 4 (List.map c_Loc p0)] h (fun r h' => ∃ g : AGh, AOk g 4 o.length ∧ HOk h [(g.t, .obj 77 (fl c_Loc o g.sp))] ∧ r = aw g.t g.n g.cap ∧ h' = hp h [(g.t, .obj 77 (fl c_Loc o g.sp))]) := by
 refine ACalls_hp 8 [.tmp 2] Try.func84 rfl rfl rfl rfl ?_
 unfold M84a at hm
 refine Zf fun K1 H1 => (Za (s_v (o_as (.sc (.slice _ _ _)) rfl) (Zb (H1 _ _ (Zf fun K1 H1 => (Zf fun K2 H2 => (Za (vE rfl ?_))))))))
 refine s_op (AOp_eqnil rfl (by rw [el58]; rfl) (by rw [ev_fm]; exact rfl) (.inl ⟨_, _, _, rfl, fun b hb => ?_⟩))
 refine Zb (H2 _ _ ?_)
 refine AW_if' rfl (fun hc => ?_) (fun hc => ?_)
 have h0 : p0 = [] := by
   cases p0 with
   | nil => rfl
   | cons x l => have := hb (by simp); rw [this] at hc; cases hc
 subst h0
 obtain ⟨rfl, -⟩ := app_spec hm
 refine Zf fun K1 H1 => (Za (s_v (o_as (.sc (.slice _ _ _)) rfl) (Zb (H1 _ _ (AW_ret ?_)))))
 exact Ret.one (.inl rfl) (Sub.refl _) (ALe_nilA _) ⟨g0, AOk.g0 _, HOk.none (HOk.nil _), rfl, rfl⟩
 refine Zl (H1 _ _ (Zf fun K1 H1 => (Za ?_)))
 refine s_op (a_lit0A (c := c_Loc) (HOk.nil _) et58 fun hk => ?_)
 refine vE rfl ?_
 refine s_op (a_appA (c := c_Loc) 0 hm et58 rfl zr77 rfl cz_Loc rfl rfl (AOk.g0 _) hk rfl fun g ok hk => ?_)
 refine s_v (o_as (aw _ _ _) rfl) (Zb (H1 _ _ (AW_ret ?_)))
 exact Ret.one (.inl rfl) (Sub.refl _) (ALe.refl _ _) ⟨g, ok, hk, rfl, rfl⟩
theorem bd84 : bodied Try.prog 84 = true := by kernel_rfl
def M119p_L0 (fuel : Nat) (p0 : List TLoc) (p1 : TLoc → Option Bool) (q0 : Int) : Option (Lp (Int) (Int)) :=
 if (decide (q0 < (p0.length : Int))) = true then ((ix p0 q0).bind fun x0 => (p1 x0).bind fun y0 => if y0 = true then (some (.ret q0)) else some (.go (IntKind.wrap .i64 (q0 + 1)))) else some (.brk q0)
def M119p (fuel : Nat) (p0 : List TLoc) (p1 : TLoc → Option Bool) : Option (Int) :=
 after (loopM (fun s => M119p_L0 fuel p0 p1 s) fuel 0) fun r0 => some (-1)
set_option maxHeartbeats 4000000 in
set_option maxRecDepth 100000 in
theorem W119p {fuel : Nat} {p0 : List TLoc} {p1 : TLoc → Option Bool} {o : Int} (h : Heap) {g_p0 : AGh} (ok_p0 : AOk g_p0 4 p0.length) (hk0 : HOk h [(g_p0.t, .obj 77 (fl c_Loc (p0 : List TLoc) g_p0.sp))]) {p1F : Nat} {p1C : List AV} (p1B : bodied Try.prog p1F = true) (p1H : ∀ x0 o h0, Sub h h0 → p1 x0 = some o → ACalls Try.prog p1F ([.agg (c_Loc x0)] ++ p1C) h0 (fun r h' => r = .sc (.bool o) ∧ h' = h0)) (hm : M119p fuel p0 p1 = some o) :
 ACalls Try.prog 119 [aw g_p0.t g_p0.n g_p0.cap, .fn (.func p1F) p1C] (hp h [(g_p0.t, .obj 77 (fl c_Loc (p0 : List TLoc) g_p0.sp))]) (fun r h' => r = .sc (.int .i64 o) ∧ h' = hp h [(g_p0.t, .obj 77 (fl c_Loc (p0 : List TLoc) g_p0.sp))]) := by
 refine ACp hk0 19 [.tmp 4] Try.func119 rfl rfl rfl rfl ?_
 unfold M119p at hm
 refine vs (v0 (vs (vs (v0 (vn (fun _ => o_lenA ln58 ok_p0 rfl) ?_)))))
 refine vlpH hm (σ := Int) (τ := Unit) (fun g s => [(g_p0.t, .obj 77 (fl c_Loc (p0 : List TLoc) g_p0.sp))]) (fun g s => .c 0 (aw g_p0.t g_p0.n g_p0.cap) (.c 1 (.fn (.func p1F) p1C) (.c 7 (.sc (.int .i64 (p0.length : Int))) (.c 8 (.sc (.int .i64 s)) .nil)))) () (lx (.k4 .nil)) ?_ ?_
 rintro _ q0 x hm
 replace hm : M119p_L0 fuel p0 p1 q0 = some x := hm
 unfold M119p_L0 at hm
 refine vs (v0 (vs (v0 ?_)))
 refine vi hm (fun hc0 hm => ?_) fun hc0 hm => ?_
 refine v0 (vs (v0 (vs (v0 (vs (v0 ?_))))))
 obtain ⟨x1, hx0, hm⟩ := Zc hm
 refine vn (fun _ => o_ixA hx0 el58 ok_p0 rfl rfl) (vn (fun hk => o_ldA (fo := 0) (.agg (c_Loc x1)) hx0 cz_Loc ok_p0 ld77 rfl (hp_at 0 hk rfl) (fun _ => rfl)) ?_)
 obtain ⟨_, hy0, hm⟩ := Zc hm
 refine vn (fun hk => o_call (p1H _ _ _ (hp_sub (List.nil_sublist _) hk).1 hy0) rfl p1B rfl) (v0 ?_)
 refine vi hm (fun hc1 hm => ?_) fun hc1 hm => ?_
 refine vs (v0 (v0 ?_))
 refine vrt hm fun hm => ?_
 injection hm with hm; subst hm
 exact vr fun hk => Ret.of1 (.inl rfl) (rsT _ _ (.sc (.int _ _)) rfl) (hp_pick hk [0] rfl).2 (ALe.refl _ _) ⟨rfl, rfl⟩
 refine v0 (v0 ?_)
 exact vgo hm () trivial (lx (.k4 .nil))
 refine v0 ?_
 exact vbk hm () trivial (lx (.k4 .nil))
 rintro _ r0 hm
 refine vs (v0 (v0 ?_))
 cases hm
 exact vr fun hk => Ret.of1 (.inl rfl) (rsT _ _ (.sc (.int _ _)) rfl) (hp_pick hk [0] rfl).2 (ALe.refl _ _) ⟨rfl, rfl⟩
def M83P_L0 (fuel : Nat) (p1 : TLoc → Option Bool) (q0 : List TLoc) (q1 : Int) (q2 : Int) : Option (Lp ((List TLoc) × Int × Int) ((List TLoc))) :=
 if (decide (q2 < (q0.length : Int))) = true then ((ix q0 q2).bind fun x0 => (p1 x0).bind fun y0 => after (if (!y0) = true then ((ix q0 q1).bind fun _ => some (.brk (q0.set q1.toNat (x0), IntKind.wrap .i64 (q1 + 1)))) else some (.brk (q0, q1)) : Option (Lp ((List TLoc) × Int) (Lp ((List TLoc) × Int × Int) ((List TLoc))))) fun ⟨j0, j1⟩ => some (.go (j0, j1, IntKind.wrap .i64 (q2 + 1)))) else some (.brk (q0, q1, q2))
def M83P (fuel : Nat) (p0 : List TLoc) (p1 : TLoc → Option Bool) : Option ((List TLoc)) :=
 (M119p fuel p0 p1).bind fun y3 => if (y3 == (-1)) = true then (some p0) else after (loopM (fun s => M83P_L0 fuel p1 s.1 s.2.1 s.2.2) fuel (p0, y3, IntKind.wrap .i64 (y3 + 1))) fun ⟨r0, r1, r2⟩ => grd (decide (0 ≤ r1) && decide (r1 < (r0.length : Int))) <| grd (decide (0 ≤ r1) && decide (r1 ≤ (r0.length : Int))) <| some (r0.take r1.toNat)
set_option maxHeartbeats 4000000 in
set_option maxRecDepth 100000 in
theorem W83P {fuel : Nat} {p0 : List TLoc} {p1 : TLoc → Option Bool} {o : (List TLoc)} (h : Heap) {g_p0 : AGh} (ok_p0 : AOk g_p0 4 p0.length) (hk0 : HOk h [(g_p0.t, .obj 77 (fl c_Loc (p0 : List TLoc) g_p0.sp))]) {p1F : Nat} {p1C : List AV} (p1B : bodied Try.prog p1F = true) (p1H : ∀ x0 o h0, Sub h h0 → p1 x0 = some o → ACalls Try.prog p1F ([.agg (c_Loc x0)] ++ p1C) h0 (fun r h' => r = .sc (.bool o) ∧ h' = h0)) (hm : M83P fuel p0 p1 = some o) :
 ACalls Try.prog 83 [aw g_p0.t g_p0.n g_p0.cap, .fn (.func p1F) p1C] (hp h [(g_p0.t, .obj 77 (fl c_Loc (p0 : List TLoc) g_p0.sp))]) (fun r h' => ∃ g : AGh, AOk g 4 o.length ∧ HOk h [(g.t, .obj 77 (fl c_Loc o g.sp))] ∧ r = aw g.t g.n g.cap ∧ h' = hp h [(g.t, .obj 77 (fl c_Loc o g.sp))]) := by
 refine ACp hk0 42 [.tmp 4] Try.func83 rfl rfl rfl rfl ?_
 unfold M83P at hm
 refine vs (v0 (vs (v0 ?_)))
 obtain ⟨_, hy4, hm⟩ := Zc hm
 refine ve fun hk => AOp_eqh ((hp_permI hk [0] rfl rfl).1.trans (hp_app h [(g_p0.t, .obj 77 (fl c_Loc (p0 : List TLoc) g_p0.sp))] []).symm) (a_call (W119p (hp h []) ok_p0 (HOk_spl [(g_p0.t, .obj 77 (fl c_Loc (p0 : List TLoc) g_p0.sp))] [] (hp_permI hk [0] rfl rfl).2).2 p1B (fun x0 o h0 hs ho => p1H x0 o h0 ((hp_sub (List.nil_sublist _) (HOk_spl [(g_p0.t, .obj 77 (fl c_Loc (p0 : List TLoc) g_p0.sp))] [] (hp_permI hk [0] rfl rfl).2).1).1.trans hs) ho) hy4) rfl bd119 rfl ?_)
 rintro x h' ⟨rfl, rfl⟩
 refine qk hk ((hp_app h [(g_p0.t, .obj 77 (fl c_Loc (p0 : List TLoc) g_p0.sp))] []).trans (hp_permI hk [0] rfl rfl).1.symm) ?_
 refine vs (vs (v0 (v0 ?_)))
 refine vi hm (fun hc7 hm => ?_) fun hc7 hm => ?_
 refine vs (v0 (v0 ?_))
 injection hm with hm; subst hm
 exact vr fun hk => Ret.one (.inl rfl) (hp_sub (h0 := h) (L' := [(g_p0.t, .obj 77 (fl c_Loc (p0 : List TLoc) g_p0.sp))]) (.refl _) hk).1 (ALe.refl _ _) ⟨g_p0, ok_p0, (hp_sub (h0 := h) (L' := [(g_p0.t, .obj 77 (fl c_Loc (p0 : List TLoc) g_p0.sp))]) (.refl _) hk).2, rfl, rfl⟩
 refine v0 (vs (vs (v0 ?_)))
 refine vlp hm (σ := (List TLoc) × Int × Int) (τ := AGh) (fun g s => [(g.t, .obj 77 (fl c_Loc (s.1 : List TLoc) g.sp))]) (fun g s => AOk g 4 (s.1 : List TLoc).length) (fun g s => .c 0 (aw g.t g.n g.cap) (.c 1 (.fn (.func p1F) p1C) (.c 5 (.sc (.int .i64 s.2.1)) (.c 6 (.sc (.int .i64 s.2.2)) .nil)))) g_p0 ok_p0 (lx (.k4 .nil)) ?_ ?_
 rintro ag0 ⟨q0, q1, q2⟩ x ok0 hm
 replace hm : M83P_L0 fuel p1 q0 q1 q2 = some x := hm
 unfold M83P_L0 at hm
 refine vs (vs (v0 (vn (fun _ => o_lenA ln58 ok0 rfl) (v0 ?_))))
 refine vi hm (fun hc0 hm => ?_) fun hc0 hm => ?_
 refine v0 (vs (v0 (vs (v0 ?_))))
 obtain ⟨x1, hx0, hm⟩ := Zc hm
 refine vn (fun _ => o_ixA hx0 el58 ok0 rfl rfl) (vn (fun hk => o_ldA (fo := 0) (.agg (c_Loc x1)) hx0 cz_Loc ok0 ld77 rfl (hp_at 0 hk rfl) (fun _ => rfl)) ?_)
 refine ve fun hk => a_alloc ([.sc (.int .i64 0), .sc (.int .i64 0), .sc (.int .i64 0), .sc (.int .i64 0)]) hk zr77 rfl rfl fun k86 hk1 => qk hk1 rfl ?_
 refine ve fun hk => a_store 0 (c_Loc x1) hk rfl rfl rfl rfl sz77 rfl rfl fun hk2 => qk hk2 rfl ?_
 refine vs (v0 (vl 0 (.agg (c_Loc x1)) ld77 rfl rfl rfl ?_))
 obtain ⟨_, hy0, hm⟩ := Zc hm
 refine vn (fun hk => o_call (p1H _ _ _ (hp_sub (List.nil_sublist _) hk).1 hy0) rfl p1B rfl) ?_
 refine vjn hm (σ := (List TLoc) × Int) (τ := AGh) (fun g s => [(some k86, .obj 77 (c_Loc x1)), (g.t, .obj 77 (fl c_Loc (s.1 : List TLoc) g.sp))]) (fun g s => AOk g 4 (s.1 : List TLoc).length) (fun g s => .c 0 (aw g.t g.n g.cap) (.c 1 (.fn (.func p1F) p1C) (.c 5 (.sc (.int .i64 s.2)) (.c 6 (.sc (.int .i64 q2)) .nil)))) (fun x hm => ?_) ?_
 refine v0 ?_
 refine vi hm (fun hc1 hm => ?_) fun hc1 hm => ?_
 refine vs (v0 (vl 0 (.agg (c_Loc x1)) ld77 rfl rfl rfl ?_))
 obtain ⟨_, hx1, hm⟩ := Zc hm
 refine vn (fun _ => o_ixA hx1 el58 ok0 rfl rfl) ?_
 refine ve fun hk => a_storeA (fo := 0) (x1 : TLoc) 1 hk hx1 cz_Loc ok0 rfl rfl rfl rfl (ALeL.refl _ _) sz77 rfl rfl fun hk3 => qk hk3 rfl ?_
 refine v0 ?_
 exact vgo hm ag0 (AOk.set ok0) (lx (.k4 .nil))
 refine v0 ?_
 exact vgo hm ag0 ok0 (lx (.k4 .nil))
 rintro ag1 ⟨j0, j1⟩ ok1 hm
 refine v0 ?_
 exact vgo hm ag1 ok1 (lxs [1] rfl rfl (.k4 .nil))
 refine v0 ?_
 exact vbk hm ag0 ok0 (lx (.k4 .nil))
 rintro ag2 ⟨r0, r1, r2⟩ ot0 hm
 refine vs (v0 ?_)
 obtain ⟨hz0, hm⟩ := grd_of hm
 refine vn (fun _ => o_slAt hz0 el58 ot0 rfl rfl) ?_
 refine ve fun hk => a_clr 0 hk hz0 cz_Loc ot0 u58 zr77 rfl rfl rfl rfl fun sp0 ok2 hk4 => qk hk4 rfl ?_
 refine vs (v0 ?_)
 obtain ⟨hz1, hm⟩ := grd_of hm
 refine vn (fun _ => o_slAh hz1 ot0 el58 rfl rfl) (v0 ?_)
 cases hm
 exact vr fun hk => Ret.one (.inl rfl) (hp_sub (h0 := h) (L' := [((⟨ag2.t, r1.toNat, ag2.cap, sp0⟩ : AGh).t, .obj 77 (fl c_Loc (r0.take r1.toNat : List TLoc) (⟨ag2.t, r1.toNat, ag2.cap, sp0⟩ : AGh).sp))]) (.refl _) hk).1 (ALe.refl _ _) ⟨(⟨ag2.t, r1.toNat, ag2.cap, sp0⟩ : AGh), ok2, (hp_sub (h0 := h) (L' := [((⟨ag2.t, r1.toNat, ag2.cap, sp0⟩ : AGh).t, .obj 77 (fl c_Loc (r0.take r1.toNat : List TLoc) (⟨ag2.t, r1.toNat, ag2.cap, sp0⟩ : AGh).sp))]) (.refl _) hk).2, rfl, rfl⟩
theorem bd83 : bodied Try.prog 83 = true := by kernel_rfl
def M82 (fuel : Nat) (p0 : List TLoc) (p1 : Bool) (c0 : Int) (c1 : TCatalog) (c2 : Int) : Option (Bool) :=
 (M84a fuel p0).bind fun y3 => (M83P fuel y3 (fun x0 => M85 fuel x0 c0)).bind fun y9 => after (if p1 = true then ((M81 fuel p0 c0).bind fun y0 => if y0 = true then ((M46 fuel c1 y9 c2).bind fun y1 => some (.brk (!y1))) else some (.brk false)) else some (.brk false) : Option (Lp (Bool) (Bool))) fun j0 => some j0
set_option maxHeartbeats 4000000 in
set_option maxRecDepth 100000 in
theorem W82 {fuel : Nat} {p0 : List TLoc} {p1 : Bool} {c0 : Int} {c1 : TCatalog} {c2 : Int} {o : Bool} (h : Heap) {c0K : Key} (c0H : h c0K = some (.obj 3 (c_i64 c0))) {c1K : Key} (c1H : h c1K = some (.obj 27 (c_Catalog c1))) {c2K : Key} (c2H : h c2K = some (.obj 3 (c_i64 c2))) (hm : M82 fuel p0 p1 c0 c1 c2 = some o) :
 ACalls Try.prog 82 [.sl none 4 (List.map c_Loc p0), .sc (.bool p1), .ptr c0K 0, .ptr c1K 0, .ptr c2K 0] h (fun r h' => r = .sc (.bool o) ∧ h' = h) := by
 refine ACv 26 [.tmp 7] Try.func82 rfl rfl rfl rfl ?_
 unfold M82 at hm
 refine vs (v0 (vs (v0 ?_)))
 obtain ⟨y3, hy4, hm⟩ := Zc hm
 refine ve fun hk => a_call (W84a _ hy4) rfl bd84 rfl ?_
 rintro x h' ⟨ag5, ok6, hk7, rfl, rfl⟩
 refine qk (HOk.co hk hk7) (hp_cat _ _ _) ?_
 obtain ⟨y9, hy0, hm⟩ := Zc hm
 refine ve fun hk => AOp_eqh ((hp_permI hk [0] rfl rfl).1.trans (hp_app h [(ag5.t, .obj 77 (fl c_Loc (y3 : List TLoc) ag5.sp))] []).symm) (a_call (W83P (hp h []) ok6 (HOk_spl [(ag5.t, .obj 77 (fl c_Loc (y3 : List TLoc) ag5.sp))] [] (hp_permI hk [0] rfl rfl).2).2 bd85 (fun _ o h0 hs ho => W85 _ (hs _ _ (hp_base (HOk_spl [(ag5.t, .obj 77 (fl c_Loc (y3 : List TLoc) ag5.sp))] [] (hp_permI hk [0] rfl rfl).2).1 c0H)) ho) hy0) rfl bd83 rfl ?_)
 rintro x h' ⟨ag0, ok0, hk0, rfl, rfl⟩
 have hk1 := hp_permI (L' := [(ag0.t, .obj 77 (fl c_Loc (y9 : List TLoc) ag0.sp))]) (HOk_app (HOk_spl [(ag5.t, .obj 77 (fl c_Loc (y3 : List TLoc) ag5.sp))] [] (hp_permI hk [0] rfl rfl).2).1 hk0) [0] rfl rfl
 refine qk hk1.2 ((hp_app h [(ag0.t, .obj 77 (fl c_Loc (y9 : List TLoc) ag0.sp))] []).trans hk1.1) ?_
 refine vs ?_
 refine vjnH hm (σ := Bool) (τ := Unit) (fun g s => [(ag0.t, .obj 77 (fl c_Loc (y9 : List TLoc) ag0.sp))]) (fun g s => .c 7 (.sc (.bool s)) .nil) (fun x hm => ?_) ?_
 refine v0 ?_
 refine vi hm (fun hb0 hm => ?_) fun hb0 hm => ?_
 rw [hb0]
 refine vn (fun hk => Zg (.sc (.int .i64 c0)) ld3 rfl (hp_base hk c0H) rfl) ?_
 refine vk W81 bd81 hm rfl rfl fun _ hm => ?_
 refine vi hm (fun hb1 hm => ?_) fun hb1 hm => ?_
 rw [hb1]
 refine vn (fun hk => Zg (.agg (c_Catalog c1)) ld27 rfl (hp_base hk c1H) rfl) (vn (fun hk => Zg (.sc (.int .i64 c2)) ld3 rfl (hp_base hk c2H) rfl) ?_)
 obtain ⟨_, hy1, hm⟩ := Zc hm
 refine vn (fun hk => o_call (ACalls_pure (.cons (Br.refl _ _) (.cons (Br.aw 0 cz_Loc ok0 hk rfl) (.cons (Br.refl _ _) .nil))) rfl (W46 _ hy1)) rfl bd46 rfl) ?_
 exact vgo hm () trivial (lx (.cons (ALe.refl _ _) .nil))
 rw [hb1]
 exact vgo hm () trivial (lx (.cons (ALe.refl _ _) .nil))
 rw [hb0]
 exact vgo hm () trivial (lx (.cons (ALe.refl _ _) .nil))
 rintro _ j0 hm
 refine v0 ?_
 injection hm with hm; subst hm
 exact vr fun hk => Ret.of1 (.inl rfl) (rsT _ _ (.sc (.bool _)) rfl) (hp_sub (List.nil_sublist _) hk).1 (ALe.refl _ _) ⟨rfl, rfl⟩
theorem bd82 : bodied Try.prog 82 = true := by kernel_rfl
open Go.Vm
def M38 (fuel : Nat) (p0 : TCatalog) (p1 : Int) : Option ((List TItem)) :=
 after (if (decide (p1 < 0)) = true then (some (.brk true)) else if (decide ((p0.Vols.length : Int) ≤ p1)) = true then (some (.brk true)) else (M33 fuel p0).bind fun y0 => some (.brk (y0 != 0)) : Option (Lp (Bool) ((List TItem)))) fun j0 => if j0 = true then (some []) else (ix p0.Vols p1).bind fun x2 => (M78 fuel p0 (fun x0 x1 => M82 fuel x0 x1 p1 p0 x2.Pool)).bind fun y1 => some y1
set_option maxHeartbeats 4000000 in
set_option maxRecDepth 100000 in
theorem W38 {fuel : Nat} {p0 : TCatalog} {p1 : Int} {o : (List TItem)} (h : Heap) (hm : M38 fuel p0 p1 = some o) :
 ACalls Try.prog 38 [.agg (c_Catalog p0), .sc (.int .i64 p1)] h (fun r h' => r = .sl none 37 (List.map c_Item o) ∧ h' = h) := by
 refine ACv 29 [.tmp 4] Try.func38 rfl rfl rfl rfl ?_
 unfold M38 at hm
 refine v ?_
 refine ve fun hk => a_box hk rfl rfl fun k2 hk3 => qk hk3 rfl ?_
 refine ve fun hk => a_box hk rfl rfl fun k5 hk6 => qk hk6 rfl ?_
 refine vs (vs ?_)
 refine vjnH hm (σ := Bool) (τ := Unit) (fun g s => [(some k5, .obj 3 (c_i64 p1)), (some k2, .obj 27 (c_Catalog p0))]) (fun g s => .c 2 (.ptr k2 0) (.c 3 (.ptr k5 0) (.c 19 (.sc (.bool s)) .nil))) (fun x hm => ?_) ?_
 refine v (vl 0 _ ld3 rfl rfl rfl ?_)
 refine vi hm (fun hb0 hm => ?_) fun hb0 hm => ?_
 rw [hb0]
 exact vgo hm () trivial (lx (.k3 .nil))
 rw [hb0]
 refine vl 0 _ ld3 rfl rfl rfl (vl 1 _ ld25 rfl rfl rfl (vln ln25 rfl ?_))
 refine vi hm (fun hb1 hm => ?_) fun hb1 hm => ?_
 rw [hb1]
 exact vgo hm () trivial (lx (.k3 .nil))
 rw [hb1]
 refine vl 1 (.agg (c_Catalog p0)) ld27 rfl rfl rfl ?_
 refine vk W33 bd33 hm rfl rfl fun _ hm => ?_
 exact vgo hm () trivial (lx (.k3 .nil))
 rintro _ j0 hm
 refine v ?_
 refine vi hm (fun hc0 hm => ?_) fun hc0 hm => ?_
 refine v (v ?_)
 cases hm
 exact vr fun hk => Ret.of1 (.inl rfl) (rsT _ _ (.sc (.slice _ _ _)) rfl) (hp_sub (List.nil_sublist _) hk).1 (nil_lem _) ⟨rfl, rfl⟩
 refine v (v (vl 1 _ ld25 rfl rfl rfl (vl 0 _ ld3 rfl rfl rfl ?_)))
 refine vx hm el25 rfl rfl fun x0 _ hm => ?_
 refine ve fun hk => a_alloc (c_i64 0) hk zr3 rfl rfl fun k25 hk0 => qk hk0 rfl ?_
 refine ve fun hk => a_store 0 (c_i64 x0.Pool) hk rfl rfl rfl rfl sz3 rfl rfl fun hk1 => qk hk1 rfl ?_
 refine v (vl 2 (.agg (c_Catalog p0)) ld27 rfl rfl rfl ?_)
 obtain ⟨_, hy0, hm⟩ := Zc hm
 refine vn (fun hk => o_call (W78 _ bd82 (fun _ _ o h0 hs ho => W82 _ (hs _ _ (Zd 1 hk rfl)) (hs _ _ (Zd 2 hk rfl)) (hs _ _ (Zd 0 hk rfl)) ho) hy0) rfl bd78 rfl) (v ?_)
 injection hm with hm; subst hm
 exact vr1 rfl
theorem bd38 : bodied Try.prog 38 = true := by kernel_rfl
open Go.Vm
theorem fidx_spec {α : Type} {l : List α} {q : α → Bool} (h : l.any q = true) : ∃ (i : Nat) (x : α), fidx l q = (i : Int) ∧ l[i]? = some x ∧ q x = true ∧ ∀ y ∈ l.take i, q y = false := by
 unfold fidx
 cases e : (List.range l.length).find? fun i => (l[i]?).any q with
 | none =>
  exfalso
  obtain ⟨x, hx, hq⟩ := List.any_eq_true.1 h
  obtain ⟨i, hi, rfl⟩ := List.getElem_of_mem hx
  have := List.find?_eq_none.1 e i (List.mem_range.2 hi)
  simp [hi, hq] at this
 | some i =>
  obtain ⟨h1, h2, h3⟩ := List.find?_range_eq_some.1 e
  cases e2 : l[i]? with
  | none => rw [e2] at h1; cases h1
  | some x =>
   refine ⟨i, x, rfl, e2, by rw [e2] at h1; simpa using h1, fun y hy => ?_⟩
   obtain ⟨j, hj, rfl⟩ := List.getElem_of_mem hy
   rw [List.length_take] at hj
   have h4 := h3 j (by omega)
   have : l[j]? = some l[j] := List.getElem?_eq_getElem (by omega)
   rw [this] at h4
   rw [List.getElem_take]
   simpa using h4
theorem fidx_none {α : Type} {l : List α} {q : α → Bool} (h : l.any q = false) : fidx l q = -1 := by
 unfold fidx
 have : (List.range l.length).find? (fun i => (l[i]?).any q) = none := by
  rw [List.find?_eq_none]
  intro i hi
  have hi := List.mem_range.1 hi
  rw [List.getElem?_eq_getElem hi]
  have := List.any_eq_false.1 h l[i] (List.getElem_mem hi)
  simpa using this
 rw [this]
theorem del_loop {α ρ : Type} {l : List α} {q : α → Bool} {F : Nat} {body : List α × Int × Int → Option (Lp (List α × Int × Int) ρ)} {i0 : Nat} {x0 : α} (hF : l.length < F) (h0 : l[i0]? = some x0) (hq : q x0 = true) (hn : ∀ y ∈ l.take i0, q y = false)
    (hb : ∀ (cur : List α) (w r : Nat) (x : α), cur.length = l.length → w < r → r < l.length → cur[r]? = some x → x ∈ l → body (cur, (w : Int), (r : Int)) = some (.go (if q x then (cur, (w : Int), ((r + 1 : Nat) : Int)) else (cur.set w x, ((w + 1 : Nat) : Int), ((r + 1 : Nat) : Int)))))
    (he : ∀ (cur : List α) (w : Nat), cur.length = l.length → body (cur, (w : Int), (l.length : Int)) = some (.brk (cur, (w : Int), (l.length : Int)))) :
    ∃ (cur : List α) (w : Nat), loopM body F (l, (i0 : Int), ((i0 + 1 : Nat) : Int)) = some (.brk (cur, (w : Int), (l.length : Int))) ∧ w < l.length ∧ cur.length = l.length ∧ cur.take w = l.filter fun x => !q x := by
  have hi0 := (List.getElem?_eq_some_iff.1 h0).1
  have hx0 := (List.getElem?_eq_some_iff.1 h0).2
  obtain ⟨s, ⟨cur, w, e1, e2, e3, e4, e5⟩, h3⟩ := loop_inv (body := body) (I := fun k s => ∃ (cur : List α) (w : Nat), s = (cur, (w : Int), (k : Int)) ∧ w < k ∧ cur.length = l.length ∧ cur.take w = ((l.take k).filter fun x => !q x) ∧ cur.drop k = l.drop k) (n := l.length) (fun k s hk hI => by
    obtain ⟨cur, w, rfl, i2, i3, i4, i5⟩ := hI
    have hx : cur[k]? = l[k]? := by
      have := congrArg (fun z => z[0]?) i5
      simpa [List.getElem?_drop] using this
    have hlk : l[k]? = some l[k] := List.getElem?_eq_getElem hk
    rw [hlk] at hx
    have htk := List.take_succ_eq_append_getElem hk
    have hmem := List.getElem_mem hk
    generalize l[k] = x at hx htk hmem
    have hd : cur.drop (k + 1) = l.drop (k + 1) := by
      have := congrArg (List.drop 1) i5
      simpa [List.drop_drop, Nat.add_comm] using this
    refine ⟨_, hb cur w k x i3 i2 hk hx hmem, ?_⟩
    cases hqx : q x
    · refine ⟨cur.set w x, w + 1, by simp, by omega, by simpa using i3, ?_, ?_⟩
      · rw [htk, List.filter_append, ← i4]
        have hw : w < (cur.set w x).length := by rw [List.length_set]; omega
        rw [List.take_succ_eq_append_getElem hw, List.getElem_set_self, List.take_set_of_le (Nat.le_refl _)]
        simp [List.filter, hqx]
      · rw [List.drop_set_of_lt (by omega)]
        exact hd
    · refine ⟨cur, w, by simp, by omega, i3, ?_, hd⟩
      rw [htk, List.filter_append, ← i4]
      simp [List.filter, hqx]) (fun s hI => by
    obtain ⟨cur, w, rfl, i2, i3, -⟩ := hI
    exact he cur w i3) F (i0 + 1) (l, (i0 : Int), ((i0 + 1 : Nat) : Int)) hi0 (by omega) ⟨l, i0, rfl, by omega, rfl, by
      rw [List.take_succ_eq_append_getElem hi0, List.filter_append, hx0]
      have : (l.take i0).filter (fun x => !q x) = l.take i0 := List.filter_eq_self.2 fun y hy => by simp [hn y hy]
      rw [this]
      simp [List.filter, hq], rfl⟩
  subst e1
  refine ⟨cur, w, h3, by omega, e3, ?_⟩
  rw [e4, List.take_length]
theorem m83 {F : Nat} {l : List TLoc} {f : TLoc → Option Bool} (q : TLoc → Bool) (hF : 1000 ≤ F) (hl : l.length ≤ 300) (hf : ∀ x ∈ l, f x = some (q x)) : M83P F l f = some (l.filter fun x => !q x) := by
 have h119 : M119p F l f = some (fidx l q) := by
  unfold M119p
  refine fidx_loop q (by omega) (fun i x hx hm hi => ?_) (by unfold M119p_L0; simp)
  unfold M119p_L0
  rw [wr1 (by omega)]
  simp only [ix_nat, hx, hf x hm, Option.bind_some, Int.ofNat_lt, hi, decide_true, if_true]
  split <;> rfl
 unfold M83P
 rw [h119]
 simp only [Option.bind_some]
 cases ha : l.any q with
 | false =>
  rw [fidx_none ha]
  simp only [beq_self_eq_true, if_true]
  rw [List.filter_eq_self.2 fun x hx => by simpa using List.any_eq_false.1 ha x hx]
 | true =>
  obtain ⟨i, x, h1, h2, h3, h4⟩ := fidx_spec ha
  rw [h1]
  have hn : ((i : Int) == -1) = false := by simp
  have hil := (List.getElem?_eq_some_iff.1 h2).1
  rw [hn, wr1 (by omega)]
  simp only [Bool.false_eq_true, if_false]
  obtain ⟨cur, w, e1, e2, e3, e4⟩ := del_loop (l := l) (q := q) (F := F) (body := fun s => M83P_L0 F f s.1 s.2.1 s.2.2) (by omega) h2 h3 h4 (fun cur w r x hc hw hr hx hm => by
   unfold M83P_L0
   simp only
   rw [wr1 (i := r) (by omega), wr1 (i := w) (by omega)]
   have hcw : cur[w]? = some cur[w] := List.getElem?_eq_getElem (by omega)
   simp only [ix_nat, hx, hf x hm, Option.bind_some, hc, Int.ofNat_lt, hr, decide_true, if_true, hcw, Int.toNat_natCast]
   cases q x <;> rfl) (fun cur w hc => by unfold M83P_L0; simp [hc])
  rw [e1]
  simp only [after_brk]
  have g1 : (decide ((0 : Int) ≤ (w : Int)) && decide ((w : Int) < (cur.length : Int))) = true := by simp; omega
  have g2 : (decide ((0 : Int) ≤ (w : Int)) && decide ((w : Int) ≤ (cur.length : Int))) = true := by simp; omega
  simp only [grd, g1, g2, if_true, Int.toNat_natCast, e4]
def allL (c : TCatalog) (g : List TLoc → Bool → Bool) : List TItem := (c.Chunks.filter fun x => g x.Locs (usedB c x.Id)).map it1 ++ (c.Snaps.filter fun x => g x.Locs true).map it2 ++ (c.Exps.filter fun x => g x.Locs true).map it3
theorem m78g {F : Nat} {c : TCatalog} {f : List TLoc → Bool → Option Bool} (g : List TLoc → Bool → Bool) (hF : 1000 ≤ F) (h : Sm c) (hf : ∀ l b, l.length ≤ 300 → f l b = some (g l b)) : M78 F c f = some (allL c g) := by
 have hsn := h.sn
 have hch := h.ch
 have hex := h.ex
 unfold M78
 rw [filt_loop (l := c.Chunks) [] (fun x => g x.Locs (usedB c x.Id)) it1 (by omega) (fun i x hx hm hi acc ha => by
  unfold M78_L0
  rw [wr1 (by omega)]
  simp only [ix_nat, hx, Option.bind_some, Int.ofNat_lt, hi, decide_true, if_true, m44 hF h, hf _ _ (h.cl x hm).1]
  simp only [List.length_nil] at ha
  rw [app_some (by simp; omega)]
  cases g x.Locs (usedB c x.Id) <;> rfl) (fun acc => by unfold M78_L0; simp)]
 simp only [after_brk, List.nil_append]
 have l1 : ((c.Chunks.filter fun x => g x.Locs (usedB c x.Id)).map it1).length ≤ 400 := by rw [List.length_map]; exact Nat.le_trans (List.length_filter_le _ _) hch
 rw [filt_loop (l := c.Snaps) _ (fun x => g x.Locs true) it2 (by omega) (fun i x hx hm hi acc ha => by
  unfold M78_L2
  rw [wr1 (by omega)]
  simp only [ix_nat, hx, Option.bind_some, Int.ofNat_lt, hi, decide_true, if_true, hf _ _ (h.sl x hm)]
  rw [app_some (by simp; omega)]
  cases g x.Locs true <;> rfl) (fun acc => by unfold M78_L2; simp)]
 simp only [after_brk]
 have l2 : ((c.Snaps.filter fun x => g x.Locs true).map it2).length ≤ 12 := by rw [List.length_map]; exact Nat.le_trans (List.length_filter_le _ _) hsn
 rw [filt_loop (l := c.Exps) _ (fun x => g x.Locs true) it3 (by omega) (fun i x hx hm hi acc ha => by
  unfold M78_L4
  rw [wr1 (by omega)]
  simp only [ix_nat, hx, Option.bind_some, Int.ofNat_lt, hi, decide_true, if_true, hf _ _ (h.el x hm)]
  rw [List.length_append] at ha
  rw [app_some (by simp; omega)]
  cases g x.Locs true <;> rfl) (fun acc => by unfold M78_L4; simp)]
 rfl
def movB (c : TCatalog) (v p : Int) (l : List TLoc) (b : Bool) : Bool := b && onV v l && !((l.filter fun x => !(x.Vol == v)).any (inP c p))
theorem m82 {F : Nat} {c : TCatalog} {v p : Int} {l : List TLoc} {b : Bool} (hF : 1000 ≤ F) (h : Sm c) (hl : l.length ≤ 300) : M82 F l b v c p = some (movB c v p l b) := by
 have hvo := h.vo
 unfold M82 M84a movB
 rw [app_some (by simp; omega)]
 have h81 : M81 F l v = some (onV v l) := by
  unfold M81 onV
  rw [m94 (F := F) (l := l) (f := fun x0 => M118 F x0 v) (fun y => y.Vol == v) (by omega) (by omega) (fun x _ => rfl)]
  rfl
 simp only [List.nil_append, Option.bind_some]
 rw [m83 (f := fun x0 => M85 F x0 v) (fun y => y.Vol == v) hF hl (fun x _ => rfl)]
 simp only [Option.bind_some, h81, m46 hF (by omega : c.Vols.length < 1000) (Nat.le_trans (List.length_filter_le _ _) hl)]
 cases b <;> cases onV v l <;> simp [after]
theorem m38 {F : Nat} {c : TCatalog} {v : Int} (hF : 1000 ≤ F) (h : Sm c) : M38 F c v = some (if good c = true ∧ 0 ≤ v ∧ v < c.Vols.length then allL c (movB c v ((c.Vols[v.toNat]?).elim 0 (·.Pool))) else []) := by
 unfold M38
 by_cases h1 : v < 0
 ·have : ¬ (good c = true ∧ 0 ≤ v ∧ v < c.Vols.length) := by omega
  simp [h1, this, after]
 ·by_cases h2 : (c.Vols.length : Int) ≤ v
  ·have : ¬ (good c = true ∧ 0 ≤ v ∧ v < c.Vols.length) := by omega
   simp [h1, h2, this, after]
  ·rw [m33 hF h]
   have hv : v.toNat < c.Vols.length := by omega
   have e : c.Vols[v.toNat]? = some c.Vols[v.toNat] := List.getElem?_eq_getElem hv
   generalize c.Vols[v.toNat] = x at e
   have h3 : v < (c.Vols.length : Int) := by omega
   have h0 : 0 ≤ v := by omega
   cases hg : good c
   ·simp [h1, h2, hg, after]
   ·simp only [h1, h2, decide_false, Bool.false_eq_true, if_false, if_true, Option.bind_some, bne_self_eq_false, after_brk, ix_pos _ h0, e, h0, h3, and_self, true_and, Option.elim_some]
    rw [m78g (movB c v x.Pool) hF h (fun l b hl => m82 hF h hl)]
    rfl
theorem mov_live {c : TCatalog} {v p : Int} : (allL c (movB c v p)).length ≤ live c v := by
 unfold allL live onL
 simp only [List.length_append, List.length_map, List.filter_append, List.filter_map, List.filter_filter]
 have h1 : (c.Chunks.filter fun x => movB c v p x.Locs (usedB c x.Id)).length ≤ (c.Chunks.filter fun x => ((fun x => x.Kind != 1 || usedB c x.Id) ∘ it1) x && onV v x.Locs).length := by
  simp only [← List.countP_eq_length_filter]
  refine List.countP_mono_left fun x _ hx => ?_
  unfold movB at hx
  simp only [Bool.and_eq_true] at hx
  simp [it1, hx.1.1, hx.1.2]
 have h2 : (c.Snaps.filter fun x => movB c v p x.Locs true).length ≤ (c.Snaps.filter fun x => ((fun x => x.Kind != 1 || usedB c x.Id) ∘ it2) x && onV v x.Locs).length := by
  simp only [← List.countP_eq_length_filter]
  refine List.countP_mono_left fun x _ hx => ?_
  unfold movB at hx
  simp only [Bool.and_eq_true] at hx
  simp [it2, hx.1.2]
 have h3 : (c.Exps.filter fun x => movB c v p x.Locs true).length ≤ (c.Exps.filter fun x => ((fun x => x.Kind != 1 || usedB c x.Id) ∘ it3) x && onV v x.Locs).length := by
  simp only [← List.countP_eq_length_filter]
  refine List.countP_mono_left fun x _ hx => ?_
  unfold movB at hx
  simp only [Bool.and_eq_true] at hx
  simp [it3, hx.1.2]
 omega
theorem live_on {c : TCatalog} {v : Int} : live c v ≤ (onL c v).length := List.length_filter_le _ _
open Go.Vm
def M12_L0 (fuel : Nat) (p2 : Int) (y0 : TCatalog) (y1 : Int) (q0 : Bool) (q1 : Int) : Option (Lp (Bool × Int) (Bool)) :=
 if (decide (q1 < (y0.Vols.length : Int))) = true then (after ((M20 fuel y0 q1).bind fun y2 => after ((M37 fuel y0 q1).bind fun y3 => if (decide ((y3.length : Int) < y2)) = true then (some (.brk true)) else (M38 fuel y0 q1).bind fun y4 => if (decide (y2 < (y4.length : Int))) = true then (some (.brk true)) else some (.brk (decide (y2 < 0))) : Option (Lp (Bool) (Lp (Bool) (Lp (Bool × Int) (Bool))))) fun j0 => if j0 = true then (some (.ret (.ret false))) else after ((ix y0.Vols q1).bind fun x0 => if (x0.Pool != (bitsV .and .i64 p2 1)) = true then (some (.brk true)) else (ix y0.Vols q1).bind fun x1 => some (.brk (x1.State != 2)) : Option (Lp (Bool) (Lp (Bool) (Lp (Bool × Int) (Bool))))) fun j1 => if j1 = true then (if (y1 == q1) = true then (some (.ret (.ret false))) else some (.brk q0)) else after (if (decide (y1 < 0)) = true then (some (.brk true)) else if (decide ((y0.Vols.length : Int) ≤ y1)) = true then (some (.brk true)) else (M20 fuel y0 y1).bind fun y5 => some (.brk (decide (y2 < y5))) : Option (Lp (Bool) (Lp (Bool) (Lp (Bool × Int) (Bool))))) fun j2 => if j2 = true then (some (.ret (.ret false))) else some (.brk false) : Option (Lp (Bool) (Lp (Bool × Int) (Bool)))) fun j3 => some (.go (j3, IntKind.wrap .i64 (q1 + 1)))) else some (.brk (q0, q1))
def M12 (fuel : Nat) (p0 : List Int) (p1 : List TAct) (p2 : Int) : Option (Bool) :=
 after (if (decide (30 < (p0.length : Int))) = true then (some (.brk true)) else (M27 fuel p1).bind fun y9 => some (.brk y9) : Option (Lp (Bool) (Bool))) fun j7 => if j7 = true then (some true) else (M29 fuel p0).bind fun y0 => (M28 fuel y0 p1).bind fun y1 => (M21 fuel y1 (bitsV .and .i64 p2 1)).bind fun y2 => after (loopM (fun s => M12_L0 fuel p2 y1 y2 s.1 s.2) fuel (true, 0)) fun ⟨r0, r1⟩ => after (if (r0 == (y2 == (-1))) = true then ((M23 fuel).bind fun y3 => some (.brk y3)) else some (.brk false) : Option (Lp (Bool) (Bool))) fun j0 => some j0
set_option maxHeartbeats 4000000 in
set_option maxRecDepth 100000 in
theorem W12 {fuel : Nat} {p0 : List Int} {p1 : List TAct} {p2 : Int} {o : Bool} (h : Heap) (hm : M12 fuel p0 p1 p2 = some o) :
 ACalls Try.prog 12 [.sl none 1 (List.map c_i64 p0), .sl none 5 (List.map c_Act p1), .sc (.int .i64 p2)] h (fun r h' => r = .sc (.bool o) ∧ h' = h) := by
 refine ACv 99 [.tmp 6] Try.func12 rfl rfl rfl rfl ?_
 unfold M12 at hm
 refine v (vs (vs ?_))
 refine vjnH hm (σ := Bool) (τ := Unit) (fun g s => []) (fun g s => .c 0 (.sl none 1 (List.map c_i64 p0)) (.c 1 (.sl none 5 (List.map c_Act p1)) (.c 2 (.sc (.int .i64 p2)) (.c 18 (.sc (.bool s)) .nil)))) (fun x hm => ?_) ?_
 refine v (vln ln28 rfl ?_)
 refine vi hm (fun hb8 hm => ?_) fun hb8 hm => ?_
 rw [hb8]
 exact vgo hm () trivial (lx (.k4 .nil))
 rw [hb8]
 refine vk W27 bd27 hm rfl rfl fun _ hm => ?_
 exact vgo hm () trivial (lx (.k4 .nil))
 rintro _ j7 hm
 refine v ?_
 refine vi hm (fun hc0 hm => ?_) fun hc0 hm => ?_
 refine v (v ?_)
 injection hm with hm; subst hm
 exact vr1 rfl
 refine v (v ?_)
 refine vk W29 bd29 hm rfl rfl fun _ hm => ?_
 refine vk W28 bd28 hm rfl rfl fun y0 hm => ?_
 refine ve fun hk => a_alloc ([.sc (.int .i64 0), .sc (.slice none 0 0), .sc (.slice none 0 0), .sc (.slice none 0 0), .sc (.slice none 0 0)]) hk zr27 rfl rfl fun k19 hk0 => qk hk0 rfl ?_
 refine ve fun hk => a_store 0 (c_Catalog y0) hk rfl rfl rfl rfl sz27 rfl rfl fun hk1 => qk hk1 rfl ?_
 refine v (v (vl 0 (.agg (c_Catalog y0)) ld27 rfl rfl rfl ?_))
 refine vk W21 bd21 hm rfl rfl fun y1 hm => ?_
 refine v (v ?_)
 refine vlpH hm (σ := Bool × Int) (τ := Unit) (fun g s => [(some k19, .obj 27 (c_Catalog y0))]) (fun g s => .c 2 (.sc (.int .i64 (bitsV .and .i64 p2 1))) (.c 7 (.ptr k19 0) (.c 8 (.sc (.int .i64 y1)) (.c 9 (.sc (.bool s.1)) (.c 10 (.sc (.int .i64 s.2)) .nil))))) () (lx (.k5 .nil)) ?_ ?_
 rintro _ ⟨q0, q1⟩ x hm
 replace hm : M12_L0 fuel p2 y0 y1 q0 q1 = some x := hm
 unfold M12_L0 at hm
 refine v (vl 0 _ ld25 rfl rfl rfl (vln ln25 rfl (v ?_)))
 refine vi hm (fun hc1 hm => ?_) fun hc1 hm => ?_
 refine v (vs ?_)
 refine vjnH hm (σ := Bool) (τ := Unit) (fun g s => [(some k19, .obj 27 (c_Catalog y0))]) (fun g s => .c 2 (.sc (.int .i64 (bitsV .and .i64 p2 1))) (.c 7 (.ptr k19 0) (.c 8 (.sc (.int .i64 y1)) (.c 9 (.sc (.bool s)) (.c 10 (.sc (.int .i64 q1)) .nil))))) (fun x hm => ?_) ?_
 refine v (v (vl 0 (.agg (c_Catalog y0)) ld27 rfl rfl rfl ?_))
 refine vk W20 bd20 hm rfl rfl fun y2 hm => ?_
 refine vs (vs ?_)
 refine vjnH hm (σ := Bool) (τ := Unit) (fun g s => [(some k19, .obj 27 (c_Catalog y0))]) (fun g s => .c 2 (.sc (.int .i64 (bitsV .and .i64 p2 1))) (.c 7 (.ptr k19 0) (.c 8 (.sc (.int .i64 y1)) (.c 9 (.sc (.bool q0)) (.c 10 (.sc (.int .i64 q1)) (.c 11 (.sc (.int .i64 y2)) (.c 55 (.sc (.bool s)) .nil))))))) (fun x hm => ?_) ?_
 refine v (vl 0 (.agg (c_Catalog y0)) ld27 rfl rfl rfl ?_)
 refine vk W37 bd37 hm rfl rfl fun _ hm => ?_
 refine vln ln70 rfl ?_
 refine vi hm (fun hb0 hm => ?_) fun hb0 hm => ?_
 rw [hb0]
 exact vgo hm () trivial (lx (.k7 .nil))
 rw [hb0]
 refine vl 0 (.agg (c_Catalog y0)) ld27 rfl rfl rfl ?_
 refine vk W38 bd38 hm rfl rfl fun _ hm => ?_
 refine vln ln70 rfl ?_
 refine vi hm (fun hb1 hm => ?_) fun hb1 hm => ?_
 rw [hb1]
 exact vgo hm () trivial (lx (.k7 .nil))
 rw [hb1]
 exact vgo hm () trivial (lx (.k7 .nil))
 rintro _ j0 hm
 refine v ?_
 refine vi hm (fun hc2 hm => ?_) fun hc2 hm => ?_
 refine v (v ?_)
 refine vrt hm fun hm => ?_
 refine vrt hm fun hm => ?_
 injection hm with hm; subst hm
 exact vr1 rfl
 refine v (vs (vs ?_))
 refine vjnH hm (σ := Bool) (τ := Unit) (fun g s => [(some k19, .obj 27 (c_Catalog y0))]) (fun g s => .c 2 (.sc (.int .i64 (bitsV .and .i64 p2 1))) (.c 7 (.ptr k19 0) (.c 8 (.sc (.int .i64 y1)) (.c 9 (.sc (.bool q0)) (.c 10 (.sc (.int .i64 q1)) (.c 11 (.sc (.int .i64 y2)) (.c 72 (.sc (.bool s)) .nil))))))) (fun x hm => ?_) ?_
 refine v (vl 0 _ ld25 rfl rfl rfl ?_)
 refine vx hm el25 rfl rfl fun _ _ hm => ?_
 refine vi hm (fun hb2 hm => ?_) fun hb2 hm => ?_
 rw [hb2]
 exact vgo hm () trivial (lx (.k7 .nil))
 rw [hb2]
 refine vl 0 _ ld25 rfl rfl rfl ?_
 refine vx hm el25 rfl rfl fun _ _ hm => ?_
 exact vgo hm () trivial (lx (.k7 .nil))
 rintro _ j1 hm
 refine v ?_
 refine vi hm (fun hc3 hm => ?_) fun hc3 hm => ?_
 refine v (v ?_)
 refine vi hm (fun hc4 hm => ?_) fun hc4 hm => ?_
 refine v (v ?_)
 refine vrt hm fun hm => ?_
 refine vrt hm fun hm => ?_
 injection hm with hm; subst hm
 exact vr1 rfl
 refine v (v ?_)
 exact vgo hm () trivial (lx (.k5 .nil))
 refine v (v (vs ?_))
 refine vjnH hm (σ := Bool) (τ := Unit) (fun g s => [(some k19, .obj 27 (c_Catalog y0))]) (fun g s => .c 2 (.sc (.int .i64 (bitsV .and .i64 p2 1))) (.c 7 (.ptr k19 0) (.c 8 (.sc (.int .i64 y1)) (.c 9 (.sc (.bool false)) (.c 10 (.sc (.int .i64 q1)) (.c 91 (.sc (.bool s)) .nil)))))) (fun x hm => ?_) ?_
 refine v ?_
 refine vi hm (fun hb3 hm => ?_) fun hb3 hm => ?_
 rw [hb3]
 exact vgo hm () trivial (lx (.k6 .nil))
 rw [hb3]
 refine vl 0 _ ld25 rfl rfl rfl (vln ln25 rfl ?_)
 refine vi hm (fun hb4 hm => ?_) fun hb4 hm => ?_
 rw [hb4]
 exact vgo hm () trivial (lx (.k6 .nil))
 rw [hb4]
 refine vl 0 (.agg (c_Catalog y0)) ld27 rfl rfl rfl ?_
 refine vk W20 bd20 hm rfl rfl fun _ hm => ?_
 exact vgo hm () trivial (lx (.k6 .nil))
 rintro _ j2 hm
 refine v ?_
 refine vi hm (fun hc5 hm => ?_) fun hc5 hm => ?_
 refine v (v ?_)
 refine vrt hm fun hm => ?_
 refine vrt hm fun hm => ?_
 injection hm with hm; subst hm
 exact vr1 rfl
 refine v ?_
 exact vgo hm () trivial (lx (.k5 .nil))
 rintro _ j3 hm
 refine v ?_
 exact vgo hm () trivial (lx (.k5 .nil))
 refine v ?_
 exact vbk hm () trivial (lx (.k5 .nil))
 rintro _ ⟨r0, r1⟩ hm
 refine vs ?_
 refine vjnH hm (σ := Bool) (τ := Unit) (fun g s => [(some k19, .obj 27 (c_Catalog y0))]) (fun g s => .c 6 (.sc (.bool s)) .nil) (fun x hm => ?_) ?_
 refine v (vn (fun _ => o_bb u4 rfl rfl rfl) ?_)
 refine vi hm (fun hb5 hm => ?_) fun hb5 hm => ?_
 rw [hb5]
 refine vk W23 bd23 hm rfl rfl fun _ hm => ?_
 exact vgo hm () trivial (lx (.cons (ALe.refl _ _) .nil))
 rw [hb5]
 exact vgo hm () trivial (lx (.cons (ALe.refl _ _) .nil))
 rintro _ j4 hm
 refine v ?_
 injection hm with hm; subst hm
 exact vr1 rfl
open Go.Vm
def okB (c : TCatalog) (p : Int) (j : Nat) : Bool := (c.Vols[j]?).any fun x => x.Pool == p && x.State == 2
theorem spar_spec (c : TCatalog) (p : Int) : ∀ k : Nat, (spar c p k = -1 ∧ ∀ j, j < k → okB c p j = false) ∨ (∃ i, i < k ∧ spar c p k = (i : Int) ∧ okB c p i = true ∧ ∀ j, j < k → okB c p j = true → live c (i : Int) ≤ live c (j : Int))
 | 0 => .inl ⟨rfl, fun j hj => by omega⟩
 | k + 1 => by
  have ih := spar_spec c p k
  have e : spar c p (k + 1) = if okB c p k = true ∧ (spar c p k < 0 ∨ live c k < live c (spar c p k)) then (k : Int) else spar c p k := by
   rw [spar]
   unfold okB
   cases c.Vols[k]? with
   | none => simp
   | some x => simp only [Option.any_some, Bool.and_eq_true, Bool.or_eq_true, decide_eq_true_eq]
  rcases ih with ⟨h1, h2⟩ | ⟨i, h1, h2, h3, h4⟩
  ·rw [h1] at e
   cases ho : okB c p k
   ·rw [ho, if_neg (by simp)] at e
    refine .inl ⟨e, fun j hj => ?_⟩
    by_cases q : j = k
    ·subst q; exact ho
    ·exact h2 j (by omega)
   ·rw [ho, if_pos (by simp)] at e
    refine .inr ⟨k, by omega, e, ho, fun j hj hj2 => ?_⟩
    by_cases q : j = k
    ·subst q; exact Nat.le_refl _
    ·rw [h2 j (by omega)] at hj2; cases hj2
  ·rw [h2] at e
   cases ho : okB c p k
   ·rw [ho, if_neg (by simp)] at e
    refine .inr ⟨i, by omega, e, h3, fun j hj hj2 => ?_⟩
    by_cases q : j = k
    ·subst q; rw [ho] at hj2; cases hj2
    ·exact h4 j (by omega) hj2
   ·by_cases hl : live c (k : Int) < live c (i : Int)
    ·rw [ho, if_pos ⟨rfl, .inr hl⟩] at e
     refine .inr ⟨k, by omega, e, ho, fun j hj hj2 => ?_⟩
     by_cases q : j = k
     ·subst q; exact Nat.le_refl _
     ·exact Nat.le_trans (Nat.le_of_lt hl) (h4 j (by omega) hj2)
    ·rw [if_neg (by omega)] at e
     refine .inr ⟨i, by omega, e, h3, fun j hj hj2 => ?_⟩
     by_cases q : j = k
     ·subst q; omega
     ·exact h4 j (by omega) hj2
theorem m12_L0 {F : Nat} {c : TCatalog} {p2 : Int} (hF : 1000 ≤ F) (h : Sm c) (hg : good c = true) :
    loopM (fun s : Bool × Int => M12_L0 F p2 c (spar c (bitsV .and .i64 p2 1) c.Vols.length) s.1 s.2) F (true, 0) = some (.brk (!((List.range c.Vols.length).any (okB c (bitsV .and .i64 p2 1))), (c.Vols.length : Int))) := by
  have hvo := h.vo
  have sp := spar_spec c (bitsV .and .i64 p2 1) c.Vols.length
  generalize hp : bitsV .and .i64 p2 1 = p at sp ⊢
  refine go_loop (fun i : Nat => (!((List.range i).any (okB c p)), (i : Int))) (by omega) rfl (fun i hi => ?_) (by unfold M12_L0; simp)
  unfold M12_L0
  have hx : c.Vols[i]? = some c.Vols[i] := List.getElem?_eq_getElem hi
  generalize c.Vols[i] = x at hx
  have hok : okB c p i = (x.Pool == p && x.State == 2) := by unfold okB; rw [hx]; rfl
  have hr : (List.range (i + 1)).any (okB c p) = ((List.range i).any (okB c p) || okB c p i) := by rw [List.range_succ, List.any_append]; simp
  have d1 : decide (((onL c (i : Int)).length : Int) < (live c (i : Int) : Int)) = false := by have := live_on (c := c) (v := (i : Int)); simp; omega
  have d2 : decide ((live c (i : Int) : Int) < ((allL c (movB c (i : Int) x.Pool)).length : Int)) = false := by have := mov_live (c := c) (v := (i : Int)) (p := x.Pool); simp; omega
  have d3 : decide ((live c (i : Int) : Int) < 0) = false := by simp
  have n1 : ¬ ((onL c (i : Int)).length < live c (i : Int)) := by have := live_on (c := c) (v := (i : Int)); omega
  have n2 : ¬ (live c (i : Int) < (allL c (movB c (i : Int) x.Pool)).length) := by have := mov_live (c := c) (v := (i : Int)) (p := x.Pool); omega
  have m38' : M38 F c (i : Int) = some (allL c (movB c (i : Int) x.Pool)) := by
    rw [m38 hF h, if_pos ⟨hg, by omega, by omega⟩, Int.toNat_natCast, hx]
    rfl
  dsimp only
  rw [hr, hok, wr1 (by omega), m20 hF h, m37 hF h, m38']
  simp only [hg, if_true, Option.bind_some, d1, d2, d3, Bool.false_eq_true, if_false, after_brk, ix_nat, hx, Int.ofNat_lt, hi, decide_true, hp]
  generalize (List.range i).any (okB c p) = b
  cases hpo : x.Pool == p
  · have hs : (spar c p c.Vols.length == (i : Int)) = false := by
      rcases sp with ⟨e1, -⟩ | ⟨k, k1, k2, k3, -⟩
      · rw [e1]; simp
      · rw [k2]
        simp only [beq_eq_false_iff_ne, ne_eq, Int.natCast_inj]
        rintro rfl
        rw [hok, hpo] at k3; cases k3
    simp [bne, hpo, hs, after, n1, n2]
  · cases hst : x.State == 2
    · have hs : (spar c p c.Vols.length == (i : Int)) = false := by
        rcases sp with ⟨e1, -⟩ | ⟨k, k1, k2, k3, -⟩
        · rw [e1]; simp
        · rw [k2]
          simp only [beq_eq_false_iff_ne, ne_eq, Int.natCast_inj]
          rintro rfl
          rw [hok, hpo, hst] at k3; cases k3
      simp [bne, hpo, hst, hs, after, n1, n2]
    · have hk : okB c p i = true := by rw [hok, hpo, hst]; rfl
      rcases sp with ⟨-, e2⟩ | ⟨k, k1, k2, k3, k4⟩
      · rw [e2 i hi] at hk; cases hk
      · have k5 := k4 i hi hk
        have s1 : ¬ ((k : Int) < 0) := by omega
        have s2 : ¬ (c.Vols.length ≤ k) := by omega
        have s3 : ¬ (live c (i : Int) < live c (k : Int)) := by omega
        rw [k2]
        simp [bne, hpo, hst, after, m20 hF h, hg, s1, s2, s3, n1, n2]
theorem pools_sparse {q : List Int} {l : List TAct} {p2 : Int} (gq : gL gI q) (gl : gL g_Act l) : M12 1000 q l p2 = some true := by
 have hF : 1000 ≤ 1000 := Nat.le_refl _
 have key : T (M12 1000 q l p2) fun b => b = true := by
  unfold M12
  refine .after (.ite (fun _ => .brk (T.ite (fun _ => .some rfl) fun h => absurd rfl h)) fun _ => .bind _ (t27 hF) fun b hb => .brk (T.ite (fun _ => .some rfl) fun hb0 => ?_))
  have ho := hb (by simpa using hb0)
  refine .bind _ (t29 hF gq) fun q hq => .bind _ (t28 hF hq.1 hq.2.1 hq.2.2 gl ho) fun c hc => ?_
  obtain ⟨h, hg⟩ := hc
  have e21 := m21 (F := 1000) (p := bitsV .and .i64 p2 1) hF h
  rw [hg, if_pos rfl] at e21
  refine .bindEq e21 ?_
  rw [m12_L0 hF h hg]
  have hs : ((!((List.range c.Vols.length).any (okB c (bitsV .and .i64 p2 1)))) == (spar c (bitsV .and .i64 p2 1) c.Vols.length == -1)) = true := by
   rcases spar_spec c (bitsV .and .i64 p2 1) c.Vols.length with ⟨e1, e2⟩ | ⟨k, k1, k2, k3, -⟩
   ·have : (List.range c.Vols.length).any (okB c (bitsV .and .i64 p2 1)) = false := List.any_eq_false.2 fun j hj => by simp [e2 j (List.mem_range.1 hj)]
    rw [e1, this]; rfl
   ·have : (List.range c.Vols.length).any (okB c (bitsV .and .i64 p2 1)) = true := List.any_eq_true.2 ⟨k, List.mem_range.2 k1, k3⟩
    have h2 : ((k : Int) == -1) = false := by simp
    rw [k2, this, h2]; rfl
  refine .of (a := true) ?_ rfl
  simp only [after_brk, hs, if_true, m23, Option.bind_some]
 obtain ⟨b, hb, rfl⟩ := key
 exact hb
theorem pools_sparse3 {q : List Int} {l : List TAct} {p2 : Int} (gq : gL gI q) (gl : gL g_Act l) (_ : gI p2) : M12 1000 q l p2 = some true := pools_sparse gq gl
end Go.Proofs.Ytoomgangpjcaoaa
