import Derived.Test.YtbbifdfldpfphaaGreatK3P9
import Derived.Test.YtbbifdfldpfphaaGreatK3P5
import Derived.Test.YtbbifdfldpfphaaGreatK3P6
import Derived.Test.YtbbifdfldpfphaaGreatK3P3
import Derived.Test.YtbbifdfldpfphaaGreatK3P4
import Derived.Test.YtbbifdfldpfphaaGreatK3P7
set_option linter.unusedSimpArgs false
set_option linter.unusedVariables false
set_option maxHeartbeats 4000000
set_option maxRecDepth 100000
namespace Go.Proofs.YtbbifdfldpfphaaGreat
open Go.Vm
theorem wI {α : Type} {l : List α} {P : α → Prop} {i : Int} {x : α} (h0 : 0 ≤ i) (hx : l[i.toNat]? = some x) (h : ∀ y ∈ l.take i.toNat, P y) (hP : P x) : ∀ y ∈ l.take (i + 1).toNat, P y := by
 intro y hy
 obtain ⟨hlt, he⟩ := List.getElem?_eq_some_iff.1 hx
 rw [show (i + 1).toNat = i.toNat + 1 from by omega, List.take_succ_eq_append_getElem hlt] at hy
 rcases List.mem_append.1 hy with h1 | h1
 ·exact h y h1
 ·rw [List.mem_singleton, he] at h1
  exact h1 ▸ hP
theorem H4 {α : Type} {l : List α} {i n : Nat} {x : α} (hx : l[i]? = some x) (hi : i < n) : x ∈ l.take n := by
 refine List.mem_of_getElem? (i := i) ?_
 rw [List.getElem?_take_of_lt hi, hx]
theorem t67 {F : Nat} {c : aB} {d : a8} (hF : 1000 ≤ F) (h : Sm c) (hg : iO c = true) (hd : KX d) : T (R4 F c d) fun r => r.2 = 0 → Sm r.1 ∧ iO r.1 = true := by
  unfold R4
  refine .after (.bindEq (XV hF h) (.ite (fun hc => ?_) fun _ => ?_))
  · rw [hg] at hc; cases hc
  · have rest : T (if (false : Bool) = true then (some (({ Seq := 0, Snaps := [], Chunks := [], Exps := [], Vols := [] } : aB), 1)) else (HO F c).bind fun y27 => (OI F d).bind fun y47 => (OJ F ({ Seq := y27.Seq, Snaps := y27.Snaps, Chunks := y27.Chunks, Exps := y27.Exps, Vols := y27.Vols } : aB) y47).bind fun y49 => if (y49.1 != 0) = true then (some (({ Seq := 0, Snaps := [], Chunks := [], Exps := [], Vols := [] } : aB), y49.1)) else (MO F ({ Seq := y49.2.1, Snaps := y49.2.2.1, Chunks := y49.2.2.2.1, Exps := y49.2.2.2.2.1, Vols := y49.2.2.2.2.2 } : aB)).bind fun y69 => if (!y69) = true then (some (({ Seq := 0, Snaps := [], Chunks := [], Exps := [], Vols := [] } : aB), 1)) else some (({ Seq := y49.2.1, Snaps := y49.2.2.1, Chunks := y49.2.2.2.1, Exps := y49.2.2.2.2.1, Vols := y49.2.2.2.2.2 } : aB), 0))
        fun r => r.2 = 0 → Sm r.1 ∧ iO r.1 = true := by
      refine .ite (fun h => by cases h) fun _ => .bindEq (V7 hF h) (.bind _ (WW hF hd) fun d' hd' => .bind _ (WX hF ⟨h, YB hg⟩ hd') fun y hy => .ite (fun h0 => .some fun h1 => ?_) fun h0 => ?_)
      · simp only at h1
        rw [h1] at h0
        cases h0
      · have M := hy (by simpa using h0)
        have S := M.sm (by omega) (by omega)
        refine .bindEq (XV hF S) (.ite (fun _ => .some fun h => by simp at h) fun hq => .some fun _ => ⟨S, ?_⟩)
        simpa using hq
    refine .ite (fun _ => .brk (T.ite (fun _ => .some fun h => by simp at h) fun h => absurd rfl h)) fun _ => .brk ?_
    cases decide (5 < d.Kind)
    · exact rest
    · exact T.ite (fun _ => .some fun h => by simp at h) fun h => absurd rfl h
def BC (a : lM) : Prop := ∀ f ∈ a.Tree, f.Path.size ≤ 100
theorem t27 {F : Nat} {l : List lM} (hF : 1000 ≤ F) : T (SG F l) fun b => b = false → ∀ a ∈ l.take 30, BC a := by
 unfold SG
 refine .ite (fun _ => .some fun h => by cases h) fun hl => ?_
 have hl : l.length ≤ 120 := by simp at hl; omega
 refine .loop (fun i => 0 ≤ i ∧ i ≤ l.length ∧ i ≤ 30 ∧ ∀ a ∈ l.take i.toNat, BC a) (fun i => (l.length - i).toNat) (fun _ => ∀ a ∈ l.take 30, BC a) (by omega) (by simp) (fun i hi => ?_) (fun i hi => .some fun _ => hi)
 obtain ⟨i0, i1, i2, i3⟩ := hi
 unfold zB
 refine .after (.ite (fun hc => .brk (T.ite (fun hc2 => ?_) fun hc2 => .brk fun a ha => ?_)) fun hc => .brk (T.ite (fun h => by cases h) fun _ => .brk fun a ha => ?_))
 ·have hc := of_decide_eq_true hc
  have hc2 := of_decide_eq_true hc2
  rw [wr (n := i + 1) (by omega) (by omega)]
  refine .after (.ix (by omega) (by omega) fun x e hx => .ite (fun _ => .brk (T.ite (fun _ => .ret fun h => by cases h) fun h => absurd rfl h)) fun _ => .ix (by omega) (by omega) fun y e2 hy => .brk (T.ite (fun _ => .ret fun h => by cases h) fun ht => ?_))
  have ht : y.Tree.length ≤ 10 := by simp at ht; omega
  refine .loop (fun j => 0 ≤ j ∧ j ≤ y.Tree.length ∧ ∀ f ∈ y.Tree.take j.toNat, f.Path.size ≤ 100) (fun j => (y.Tree.length - j).toNat) (fun _ => BC y) (by omega) (by simp) (fun j hj => ?_) (fun j hj => .go ⟨⟨by omega, by omega, by omega, wI i0 e2 i3 hj⟩, by omega⟩)
  obtain ⟨j0, j1, j2⟩ := hj
  have same : ∀ z, l[i.toNat]? = some z → z = y := fun z hz => by rw [e2] at hz; exact (Option.some.inj hz).symm
  unfold zA
  refine .ix (by omega) (by omega) fun z ez _ => ?_
  obtain rfl := same z ez
  refine .ite (fun hc => ?_) fun hc => .brk fun f hf => j2 f ?_
  ·have hc := of_decide_eq_true hc
   rw [wr (n := j + 1) (by omega) (by omega)]
   refine .after (.ix (by omega) (by omega) fun z2 ez2 _ => ?_)
   obtain rfl := same z2 ez2
   refine .ix (by omega) (by omega) fun f ef hf => .ite (fun _ => .brk (T.ite (fun _ => .ret (show (_ : Bool) = false → _ from fun h => by cases h)) fun h => absurd rfl h)) fun _ => .ix (by omega) (by omega) fun z3 ez3 _ => ?_
   obtain rfl := same z3 ez3
   refine .ix (by omega) (by omega) fun f ef hf => .brk (T.ite (fun _ => .ret (show (_ : Bool) = false → _ from fun h => by cases h)) fun hp => .go ⟨⟨by omega, by omega, wI j0 ef j2 ?_⟩, by omega⟩)
   simp at hp
   omega
  ·have hc : ¬ (j < z.Tree.length) := by simpa using hc
   rw [List.take_of_length_le (by omega)]
   exact hf
 ·have hc2 : ¬ (i < 30) := by simpa using hc2
  have : i.toNat = 30 := by omega
  rw [this] at i3
  exact i3 a ha
 ·have hc : ¬ (i < l.length) := by simpa using hc
  refine i3 a ?_
  rw [List.take_of_length_le (by omega)]
  exact List.mem_of_mem_take ha
theorem WY (x : Int) (hx : gI x) : bW .and .i64 x 1 = 0 ∨ bW .and .i64 x 1 = 1 := by
 have e : bW .and .i64 x 1 = IntKind.wrap .i64 ((BitVec.ofInt 64 x &&& BitVec.ofInt 64 1).toNat : Int) := rfl
 have e1 : (BitVec.ofInt 64 1).toNat = 1 := by decide
 rw [e, BitVec.toNat_and, e1, Nat.and_one_is_mod]
 rcases Nat.mod_two_eq_zero_or_one (BitVec.ofInt 64 x).toNat with h | h <;> rw [h]
 ·exact .inl rfl
 ·exact .inr rfl
theorem t29 {F : Nat} {l : List Int} (hF : 1000 ≤ F) (gl : gL gI l) : T (SH F l) fun r => gJ r.length 1 8 = true ∧ r.all AY = true ∧ gL gI r := by
 unfold SH
 refine .loop (fun s => 0 ≤ s.2 ∧ s.2 ≤ l.length ∧ s.2 ≤ 8 ∧ (s.1.length : Int) = s.2 ∧ ∀ x ∈ s.1, x = 0 ∨ x = 1) (fun s => (8 - s.2).toNat) (fun s => s.1.length ≤ 8 ∧ ∀ x ∈ s.1, x = 0 ∨ x = 1) (by simp; omega) (by simp) (fun s hs => ?_) (fun s hs => ?_)
 ·obtain ⟨q, i⟩ := s
  simp only at hs
  unfold zC
  refine .after (.ite (fun hc => .brk (T.ite (fun hc2 => ?_) fun hc2 => .brk ⟨by first | omega | (simp only; omega), hs.2.2.2.2⟩)) fun hc => .brk (T.ite (fun h => by cases h) fun _ => .brk ⟨by first | omega | (simp only; omega), hs.2.2.2.2⟩))
  have hc := of_decide_eq_true hc
  have hc2 := of_decide_eq_true hc2
  simp only at hc hc2
  rw [wr (n := i + 1) (by omega) (by omega)]
  refine .ix (by omega) (by omega) fun x _ hx => .app (by simp; omega) (.go ⟨⟨by first | omega | (simp only; omega), by first | omega | (simp only; omega), by first | omega | (simp only; omega), by simp; omega, fun y hy => ?_⟩, by first | omega | (simp only; omega)⟩)
  rcases List.mem_append.1 hy with h | h
  ·exact hs.2.2.2.2 y h
  ·rw [List.mem_singleton] at h
   exact h ▸ WY x (gl x hx)
 ·obtain ⟨q, i⟩ := s
  simp only at hs
  have fin : ∀ r : List Int, 0 < r.length → r.length ≤ 8 → (∀ x ∈ r, x = 0 ∨ x = 1) → gJ r.length 1 8 = true ∧ r.all AY = true ∧ gL gI r := fun r h1 h2 h3 => by
   refine ⟨by unfold gJ; simp; omega, ?_, fun x hx => ?_⟩
   ·rw [List.all_eq_true]
    intro x hx
    rcases h3 x hx with rfl | rfl <;> rfl
   ·rcases h3 x hx with rfl | rfl <;> simp [gI]
  refine .after (.ite (fun _ => .brk (.some (fin _ (by simp) (by simp) (by simp)))) fun hc => .brk (.some (fin _ ?_ hs.1 hs.2)))
  have : ¬ ((q.length : Int) = 0) := by simpa using hc
  omega
theorem t28 {F : Nat} {q : List Int} {l : List lM} (hF : 1000 ≤ F) (h1 : gJ q.length 1 8 = true) (h2 : q.all AY = true) (h3 : gL gI q) (gl : gL DJ l) (ho : ∀ a ∈ l.take 30, BC a) : T (SI F q l) fun c => Sm c ∧ iO c = true := by
 have h8 : q.length ≤ 8 := by unfold gJ at h1; simp at h1; omega
 unfold SI
 refine .bindEq (ZU hF (by omega)) ?_
 refine .loop (fun s => 0 ≤ s.2 ∧ s.2 ≤ 30 ∧ Sm s.1 ∧ iO s.1 = true) (fun s => (30 - s.2).toNat) (fun s => Sm s.1 ∧ iO s.1 = true) (by simp; omega) ⟨by simp, by simp, JL h8 h3, EU h1 h2⟩ (fun s hs => ?_) (fun s hs => .some hs)
 obtain ⟨c, i⟩ := s
 simp only at hs
 obtain ⟨s1, s2, s3, s4⟩ := hs
 unfold zD
 refine .after (.ite (fun hc => .brk (T.ite (fun hc2 => ?_) fun hc2 => .brk ⟨s3, s4⟩)) fun hc => .brk (T.ite (fun h => by cases h) fun _ => .brk ⟨s3, s4⟩))
 have hc := of_decide_eq_true hc
 have hc2 := of_decide_eq_true hc2
 simp only at hc hc2
 rw [wr (n := i + 1) (by omega) (by omega)]
 have go : ∀ c' : aB, Sm c' → iO c' = true → T (some (.go (c', i + 1)) : Option (Lp (aB × Int) aB)) (L3 (fun s' => (0 ≤ s'.2 ∧ s'.2 ≤ 30 ∧ Sm s'.1 ∧ iO s'.1 = true) ∧ (30 - s'.2).toNat < (30 - i).toNat) (fun s => Sm s.1 ∧ iO s.1 = true) (fun c => Sm c ∧ iO c = true)) := fun c' h5 h6 => .go ⟨⟨by first | omega | (simp only; omega), by first | omega | (simp only; omega), h5, h6⟩, by first | omega | (simp only; omega)⟩
 refine .ix (by omega) (by omega) fun a ea ha => .bind _ (t66 hF ⟨s3, YB s4⟩ fun f hf => ⟨ho a (H4 ea (by omega)) f hf, ((gl a ha).2.2.2.1 f hf).2⟩) fun y hy => .after (.ite (fun _ => .bind _ (t67 hF s3 s4 hy) fun z hz => .after (.ite (fun h0 => ?_) fun _ => .brk (.brk (go _ s3 s4)))) fun _ => .brk (go _ s3 s4))
 have := hz (by simpa using h0)
 exact .brk (.brk (go _ this.1 this.2))
open Go.Vm
def uL (m : Nat) (p0 : List Int) (p1 : Int) (p2 : Int) : Option ((List Int)) :=
 (DH m [] p1 p2).bind fun y3 => (app p0 y3.1).bind fun z0 => some z0
theorem zF {w : Nat} {p0 : List Int} {p1 : Int} {p2 : Int} {o : (List Int)} (h : aH) {t_p0 : Option bZ} (ot_p0 : t_p0 = none → p0 = []) (K0 : bS h [(t_p0, .tok 5 1 ((p0 : List Int).length * 1))]) (m : uL w p0 p1 p2 = some o) :
 aP Tryz.prog 95 [ow t_p0 1 (List.map cZ p0), nZ p1, nZ p2] (hp h [(t_p0, .tok 5 1 ((p0 : List Int).length * 1))]) (fun r h' => ∃ t, (t = none → o = []) ∧ bS h [(t, .tok 5 1 (o.length * 1))] ∧ r = ow t 1 (List.map cZ o) ∧ h' = hp h [(t, .tok 5 1 (o.length * 1))]) := by
 refine AE K0 18 [.tmp 6] Tryz.func95 rfl rfl rfl rfl ?_
 unfold uL at m
 refine v (v ?_)
 obtain ⟨_, Y4, m⟩ := aC m
 refine ve fun u => cV (lI (.cons (aS _) (.k2 .nil)) (KF _ Y4)) rfl KG rfl ?_
 rintro x h' ⟨tg5, t6, K7, rfl, rfl⟩
 refine qk (bS.co u K7) (gO _ _ _) ?_
 refine v ?_
 obtain ⟨z0, Z0, m⟩ := aC m
 refine ve fun u => eS (c := cZ) 1 Z0 hU rfl rfl rfl ot_p0 u (lL t6) fun tg0 t0 K1 => qk K1 rfl ?_
 refine v ?_
 injection m with m; subst m
 exact vr fun u => dY.one (.inl rfl) (aV (.cons _ (.cons_cons _ (List.nil_sublist _))) u).1 (aX.refl _ _) ⟨tg0, t0, (aV (.cons _ (.cons_cons _ (List.nil_sublist _))) u).2, rfl, rfl⟩
theorem zG : aU Tryz.prog 95 = true := by kernel_rfl
def vG (m : Nat) (p0 : Int) (p1 : Int) : Option (Bool) :=
 after (if (decide (0 ≤ p0)) = true then (some (.brk (decide (p0 ≤ p1)))) else some (.brk false) : Option (Lp (Bool) (Bool))) fun j4 => some j4
theorem BD {u : Nat} {p0 : Int} {p1 : Int} {o : Bool} (h : aH) (m : vG u p0 p1 = some o) :
 aP Tryz.prog 161 [nZ p0, nZ p1] h (fun r h' => r = .sc (.bool o) ∧ h' = h) := by
 refine fW 12 [.tmp 4] Tryz.func161 rfl rfl rfl rfl ?_
 unfold vG at m
 refine v (vs ?_)
 refine cW m (σ := Bool) (τ := Unit) (fun g s => []) (fun g s => .c 4 (.sc (.bool s)) .nil) (fun x m => ?_) ?_
 refine v ?_
 refine vi m (fun b5 m => ?_) fun b5 m => ?_
 rw [b5]
 exact bD m (lx (.cons (aX.refl _ _) .nil))
 rw [b5]
 exact bD m (lx (.cons (aX.refl _ _) .nil))
 rintro _ j4 m
 refine v ?_
 injection m with m; subst m
 exact eM rfl
theorem rC : aU Tryz.prog 161 = true := by kernel_rfl
def NZ (m : Nat) (p0 : bQ) : Option (Bool) :=
 after ((vG m p0.Seq 4294967295).bind fun y0 => if (!y0) = true then (some (.brk true)) else (vG m p0.Of 4294967295).bind fun y1 => if (!y1) = true then (some (.brk true)) else (vG m p0.Off 16777215).bind fun y2 => if (!y2) = true then (some (.brk true)) else (vG m p0.Len 65535).bind fun y3 => some (.brk (!y3)) : Option (Lp (Bool) (Bool))) fun j0 => if j0 = true then (some false) else if (p0.Kind == 1) = true then (after (if (p0.Seq == 0) = true then (some (.brk (p0.Of == 0))) else some (.brk false) : Option (Lp (Bool) (Bool))) fun j1 => some j1) else if (p0.Kind == 2) = true then (after (if (decide (p0.Id = iY)) = true then (some (.brk (p0.Of == 0))) else some (.brk false) : Option (Lp (Bool) (Bool))) fun j2 => some j2) else after (if (p0.Kind == 3) = true then (some (.brk (decide (p0.Id = iY)))) else some (.brk false) : Option (Lp (Bool) (Bool))) fun j3 => some j3
theorem WZ {w : Nat} {p0 : bQ} {o : Bool} (h : aH) (m : NZ w p0 = some o) :
 aP Tryz.prog 163 [.agg (bM p0)] h (fun r h' => r = .sc (.bool o) ∧ h' = h) := by
 refine fW 57 [.tmp 2] Tryz.func163 rfl rfl rfl rfl ?_
 unfold NZ at m
 refine v ?_
 refine ve fun u => cQ u rfl rfl fun k2 K3 => qk K3 rfl ?_
 refine vs (vs ?_)
 refine cW m (σ := Bool) (τ := Unit) (fun g s => [(some k2, .obj 38 (bM p0))]) (fun g s => .c 1 (.ptr k2 0) (.c 24 (.sc (.bool s)) .nil)) (fun x m => ?_) ?_
 refine v (vl 0 _ cG rfl rfl rfl ?_)
 refine vk BD rC m rfl rfl fun _ m => ?_
 refine vi m (fun b0 m => ?_) fun b0 m => ?_
 rw [b0]
 exact bD m (lx (.k2 .nil))
 rw [b0]
 refine vl 0 _ cG rfl rfl rfl ?_
 refine vk BD rC m rfl rfl fun _ m => ?_
 refine vi m (fun b1 m => ?_) fun b1 m => ?_
 rw [b1]
 exact bD m (lx (.k2 .nil))
 rw [b1]
 refine vl 0 _ cG rfl rfl rfl ?_
 refine vk BD rC m rfl rfl fun _ m => ?_
 refine vi m (fun b2 m => ?_) fun b2 m => ?_
 rw [b2]
 exact bD m (lx (.k2 .nil))
 rw [b2]
 refine vl 0 _ cG rfl rfl rfl ?_
 refine vk BD rC m rfl rfl fun _ m => ?_
 exact bD m (lx (.k2 .nil))
 rintro _ j0 m
 refine v ?_
 refine vi m (fun c0 m => ?_) fun c0 m => ?_
 refine v (v ?_)
 injection m with m; subst m
 exact eM rfl
 refine v (v (vl 0 _ cG rfl rfl rfl (v (v (v ?_)))))
 refine vi m (fun c1 m => ?_) fun c1 m => ?_
 refine vs ?_
 refine cW m (σ := Bool) (τ := Unit) (fun g s => [(some k2, .obj 38 (bM p0))]) (fun g s => .c 2 (.sc (.bool s)) .nil) (fun x m => ?_) ?_
 refine v (vl 0 _ cG rfl rfl rfl ?_)
 refine vi m (fun b3 m => ?_) fun b3 m => ?_
 rw [b3]
 refine vl 0 _ cG rfl rfl rfl ?_
 exact bD m (lx (.cons (aX.refl _ _) .nil))
 rw [b3]
 exact bD m (lx (.cons (aX.refl _ _) .nil))
 rintro _ j1 m
 refine v ?_
 injection m with m; subst m
 exact eM rfl
 refine v (v ?_)
 refine vi m (fun c2 m => ?_) fun c2 m => ?_
 refine vs ?_
 refine cW m (σ := Bool) (τ := Unit) (fun g s => [(some k2, .obj 38 (bM p0))]) (fun g s => .c 2 (.sc (.bool s)) .nil) (fun x m => ?_) ?_
 refine v (vl 0 (.agg (bF p0.Id)) fV rfl rfl rfl (vn (fun _ => BZ (bF iY) (show sY Tryz.prog 36 = some (List.replicate 32 (.int .u8 0), (List.range 32).map fun i => (i, 1)) from by kernel_rfl) rfl) (vn (fun _ => vU EG OB u5 B9 rfl rfl) ?_)))
 refine vi m (fun b4 m => ?_) fun b4 m => ?_
 rw [b4]
 refine vl 0 _ cG rfl rfl rfl ?_
 exact bD m (lx (.cons (aX.refl _ _) .nil))
 rw [b4]
 exact bD m (lx (.cons (aX.refl _ _) .nil))
 rintro _ j2 m
 refine v ?_
 injection m with m; subst m
 exact eM rfl
 refine v (vs ?_)
 refine cW m (σ := Bool) (τ := Unit) (fun g s => [(some k2, .obj 38 (bM p0))]) (fun g s => .c 2 (.sc (.bool s)) .nil) (fun x m => ?_) ?_
 refine v (vl 0 _ cG rfl rfl rfl ?_)
 refine vi m (fun b5 m => ?_) fun b5 m => ?_
 rw [b5]
 refine vl 0 (.agg (bF p0.Id)) fV rfl rfl rfl (vn (fun _ => BZ (bF iY) (show sY Tryz.prog 36 = some (List.replicate 32 (.int .u8 0), (List.range 32).map fun i => (i, 1)) from by kernel_rfl) rfl) (vn (fun _ => vU EG OB u5 B9 rfl rfl) ?_))
 exact bD m (lx (.cons (aX.refl _ _) .nil))
 rw [b5]
 exact bD m (lx (.cons (aX.refl _ _) .nil))
 rintro _ j3 m
 refine v ?_
 injection m with m; subst m
 exact eM rfl
theorem SO : aU Tryz.prog 163 = true := by kernel_rfl
def N0 (m : Nat) (p0 : bQ) : Option (Bool) :=
 (NZ m p0).bind fun y6 => some (!y6)
theorem W0 {w : Nat} {p0 : bQ} {o : Bool} (h : aH) (m : N0 w p0 = some o) :
 aP Tryz.prog 162 [.agg (bM p0)] h (fun r h' => r = .sc (.bool o) ∧ h' = h) := by
 refine fW 6 [.tmp 2] Tryz.func162 rfl rfl rfl rfl ?_
 unfold N0 at m
 refine v ?_
 refine ve fun u => cQ u rfl rfl fun k2 K3 => qk K3 rfl ?_
 refine v (vl 0 (.agg (bM p0)) F4 rfl rfl rfl ?_)
 refine vk WZ SO m rfl rfl fun _ m => ?_
 refine v ?_
 cases m
 exact eM rfl
theorem SP : aU Tryz.prog 162 = true := by kernel_rfl
def N1 (m : Nat) (p0 : a8) : Option (Bool) :=
 after (if (p0.Snap.Seq == 0) = true then (if (p0.Snap.Man.Name.toList == (ByteArray.mk #[]).toList) = true then (some (.brk ((IntKind.wrap .i64 ((p0.Snap.Man.Parts.length : Int) + (p0.Snap.Locs.length : Int))) == 0))) else some (.brk false)) else some (.brk false) : Option (Lp (Bool) (Bool))) fun j8 => if (p0.Kind == 1) = true then (after (if (p0.Seq == 0) = true then (if (p0.Vol == 0) = true then (some (.brk ((p0.Items.length : Int) == 0))) else some (.brk false)) else some (.brk false) : Option (Lp (Bool) (Bool))) fun j0 => some j0) else if (p0.Kind == 2) = true then (after (if j8 = true then (if ((p0.Chunks.length : Int) == 0) = true then (if (p0.Vol == 0) = true then (some (.brk ((p0.Items.length : Int) == 0))) else some (.brk false)) else some (.brk false)) else some (.brk false) : Option (Lp (Bool) (Bool))) fun j1 => some j1) else if (p0.Kind == 3) = true then (after (if j8 = true then (if ((p0.Chunks.length : Int) == 0) = true then (some (.brk (p0.Seq == 0))) else some (.brk false)) else some (.brk false) : Option (Lp (Bool) (Bool))) fun j2 => some j2) else after (if j8 = true then (if ((p0.Chunks.length : Int) == 0) = true then (if (p0.Seq == 0) = true then (some (.brk ((p0.Items.length : Int) == 0))) else some (.brk false)) else some (.brk false)) else some (.brk false) : Option (Lp (Bool) (Bool))) fun j3 => some j3
theorem W1 {w : Nat} {p0 : a8} {o : Bool} (h : aH) (m : N1 w p0 = some o) :
 aP Tryz.prog 158 [.agg (aG p0)] h (fun r h' => r = .sc (.bool o) ∧ h' = h) := by
 refine fW 98 [.tmp 2] Tryz.func158 rfl rfl rfl rfl ?_
 unfold N1 at m
 refine v ?_
 refine ve fun u => cQ u rfl rfl fun k2 K3 => qk K3 rfl ?_
 refine vs ?_
 refine cW m (σ := Bool) (τ := Unit) (fun g s => [(some k2, .obj 62 (aG p0))]) (fun g s => .c 1 (.ptr k2 0) (.c 3 (.sc (.bool s)) .nil)) (fun x m => ?_) ?_
 refine v (vl 0 _ cG rfl rfl rfl ?_)
 refine vi m (fun b9 m => ?_) fun b9 m => ?_
 rw [b9]
 refine vl 0 _ uP rfl rfl rfl (vn (fun _ => wV rfl rfl rfl trivial) ?_)
 refine vi m (fun b0 m => ?_) fun b0 m => ?_
 rw [b0]
 refine vl 0 _ lG rfl rfl rfl (dH rK rfl (vl 0 _ fE rfl rfl rfl (dH iF rfl ?_)))
 exact bD m (lx (.k2 .nil))
 rw [b0]
 exact bD m (lx (.k2 .nil))
 rw [b9]
 exact bD m (lx (.k2 .nil))
 rintro _ j8 m
 refine v (vl 0 _ cG rfl rfl rfl (v (v (v ?_))))
 refine vi m (fun c0 m => ?_) fun c0 m => ?_
 refine vs ?_
 refine cW m (σ := Bool) (τ := Unit) (fun g s => [(some k2, .obj 62 (aG p0))]) (fun g s => .c 2 (.sc (.bool s)) .nil) (fun x m => ?_) ?_
 refine v (vl 0 _ cG rfl rfl rfl ?_)
 refine vi m (fun b1 m => ?_) fun b1 m => ?_
 rw [b1]
 refine vl 0 _ cG rfl rfl rfl ?_
 refine vi m (fun b2 m => ?_) fun b2 m => ?_
 rw [b2]
 refine vl 0 _ kK rfl rfl rfl (dH oI rfl ?_)
 exact bD m (lx (.cons (aX.refl _ _) .nil))
 rw [b2]
 exact bD m (lx (.cons (aX.refl _ _) .nil))
 rw [b1]
 exact bD m (lx (.cons (aX.refl _ _) .nil))
 rintro _ j0 m
 refine v ?_
 injection m with m; subst m
 exact eM rfl
 refine v (v ?_)
 refine vi m (fun c1 m => ?_) fun c1 m => ?_
 refine vs ?_
 refine cW m (σ := Bool) (τ := Unit) (fun g s => [(some k2, .obj 62 (aG p0))]) (fun g s => .c 2 (.sc (.bool s)) .nil) (fun x m => ?_) ?_
 refine v ?_
 refine vi m (fun b3 m => ?_) fun b3 m => ?_
 rw [b3]
 refine vl 0 _ eF rfl rfl rfl (dH hS rfl ?_)
 refine vi m (fun b4 m => ?_) fun b4 m => ?_
 rw [b4]
 refine vl 0 _ cG rfl rfl rfl ?_
 refine vi m (fun b5 m => ?_) fun b5 m => ?_
 rw [b5]
 refine vl 0 _ kK rfl rfl rfl (dH oI rfl ?_)
 exact bD m (lx (.cons (aX.refl _ _) .nil))
 rw [b5]
 exact bD m (lx (.cons (aX.refl _ _) .nil))
 rw [b4]
 exact bD m (lx (.cons (aX.refl _ _) .nil))
 rw [b3]
 exact bD m (lx (.cons (aX.refl _ _) .nil))
 rintro _ j1 m
 refine v ?_
 injection m with m; subst m
 exact eM rfl
 refine v (v ?_)
 refine vi m (fun c2 m => ?_) fun c2 m => ?_
 refine vs ?_
 refine cW m (σ := Bool) (τ := Unit) (fun g s => [(some k2, .obj 62 (aG p0))]) (fun g s => .c 2 (.sc (.bool s)) .nil) (fun x m => ?_) ?_
 refine v ?_
 refine vi m (fun b6 m => ?_) fun b6 m => ?_
 rw [b6]
 refine vl 0 _ eF rfl rfl rfl (dH hS rfl ?_)
 refine vi m (fun b7 m => ?_) fun b7 m => ?_
 rw [b7]
 refine vl 0 _ cG rfl rfl rfl ?_
 exact bD m (lx (.cons (aX.refl _ _) .nil))
 rw [b7]
 exact bD m (lx (.cons (aX.refl _ _) .nil))
 rw [b6]
 exact bD m (lx (.cons (aX.refl _ _) .nil))
 rintro _ j2 m
 refine v ?_
 injection m with m; subst m
 exact eM rfl
 refine v (vs ?_)
 refine cW m (σ := Bool) (τ := Unit) (fun g s => [(some k2, .obj 62 (aG p0))]) (fun g s => .c 2 (.sc (.bool s)) .nil) (fun x m => ?_) ?_
 refine v ?_
 refine vi m (fun b8 m => ?_) fun b8 m => ?_
 rw [b8]
 refine vl 0 _ eF rfl rfl rfl (dH hS rfl ?_)
 refine vi m (fun b49 m => ?_) fun b49 m => ?_
 rw [b49]
 refine vl 0 _ cG rfl rfl rfl ?_
 refine vi m (fun b50 m => ?_) fun b50 m => ?_
 rw [b50]
 refine vl 0 _ kK rfl rfl rfl (dH oI rfl ?_)
 exact bD m (lx (.cons (aX.refl _ _) .nil))
 rw [b50]
 exact bD m (lx (.cons (aX.refl _ _) .nil))
 rw [b49]
 exact bD m (lx (.cons (aX.refl _ _) .nil))
 rw [b8]
 exact bD m (lx (.cons (aX.refl _ _) .nil))
 rintro _ j3 m
 refine v ?_
 injection m with m; subst m
 exact eM rfl
theorem SQ : aU Tryz.prog 158 = true := by kernel_rfl
def N2 (m : Nat) (p0 : aA) : Option (Bool) :=
 some (decide (255 < (p0.Data.length : Int)))
theorem W2 {w : Nat} {p0 : aA} {o : Bool} (h : aH) (m : N2 w p0 = some o) :
 aP Tryz.prog 160 [.agg (aD p0)] h (fun r h' => r = .sc (.bool o) ∧ h' = h) := by
 refine fW 7 [.tmp 2] Tryz.func160 rfl rfl rfl rfl ?_
 unfold N2 at m
 refine v ?_
 refine ve fun u => cQ u rfl rfl fun k2 K3 => qk K3 rfl ?_
 refine v (vl 0 _ jR rfl rfl rfl (dH jJ rfl (v ?_)))
 cases m
 exact eM rfl
theorem SR : aU Tryz.prog 160 = true := by kernel_rfl
def W3 (m : Nat) (p0 : a8) : Option (Bool) :=
 (N1 m p0).bind fun y7 => if (!y7) = true then (some false) else if (p0.Kind == 1) = true then ((JV m p0.Chunks (fun x0 => N2 m x0)).bind fun y0 => after ((vG m p0.Snap.Seq 4294967295).bind fun y1 => if y1 = true then (if ((p0.Snap.Locs.length : Int) == 0) = true then ((AL m p0.Snap.Man).bind fun y2 => if (y2 == 0) = true then (if (decide ((p0.Chunks.length : Int) ≤ 65535)) = true then ((JW m p0.Chunks).bind fun y3 => if y3 = true then (some (.brk (!y0))) else some (.brk false)) else some (.brk false)) else some (.brk false)) else some (.brk false)) else some (.brk false) : Option (Lp (Bool) (Bool))) fun j0 => some j0) else if (p0.Kind == 2) = true then ((vG m p0.Seq 4294967295).bind fun y4 => some y4) else if (p0.Kind == 3) = true then (after ((vG m p0.Vol 255).bind fun y5 => if y5 = true then (if (decide ((p0.Items.length : Int) ≤ 255)) = true then ((NI m p0.Items (fun x0 => N0 m x0)).bind fun y6 => some (.brk (!y6))) else some (.brk false)) else some (.brk false) : Option (Lp (Bool) (Bool))) fun j1 => some j1) else after (if (p0.Kind == 4) = true then (some (.brk (p0.Kind == 4))) else some (.brk (p0.Kind == 5)) : Option (Lp (Bool) (Bool))) fun j2 => if j2 = true then ((vG m p0.Vol 255).bind fun y8 => some y8) else some false
theorem W94 {w : Nat} {p0 : a8} {o : Bool} (h : aH) (m : W3 w p0 = some o) :
 aP Tryz.prog 94 [.agg (aG p0)] h (fun r h' => r = .sc (.bool o) ∧ h' = h) := by
 refine fW 75 [.tmp 2] Tryz.func94 rfl rfl rfl rfl ?_
 unfold W3 at m
 refine v ?_
 refine ve fun u => cQ u rfl rfl fun k2 K3 => qk K3 rfl ?_
 refine v (vl 0 (.agg (aG p0)) mP rfl rfl rfl ?_)
 refine vk W1 SQ m rfl rfl fun _ m => ?_
 refine v ?_
 refine vi m (fun c9 m => ?_) fun c9 m => ?_
 refine v (v ?_)
 injection m with m; subst m
 exact eM rfl
 refine v (v (vl 0 _ cG rfl rfl rfl (v (v (v ?_)))))
 refine vi m (fun c0 m => ?_) fun c0 m => ?_
 refine v (vl 0 _ eF rfl rfl rfl ?_)
 obtain ⟨_, Y0, m⟩ := aC m
 refine vn (fun _ => cE (RJ _ SR (fun x0 o h0 hs ho => W2 _ ho) Y0) rfl KR rfl) (vs ?_)
 refine cW m (σ := Bool) (τ := Unit) (fun g s => [(some k2, .obj 62 (aG p0))]) (fun g s => .c 2 (.sc (.bool s)) .nil) (fun x m => ?_) ?_
 refine v (vl 0 _ cG rfl rfl rfl ?_)
 refine vk BD rC m rfl rfl fun _ m => ?_
 refine vi m (fun b0 m => ?_) fun b0 m => ?_
 rw [b0]
 refine vl 0 _ fE rfl rfl rfl (dH iF rfl ?_)
 refine vi m (fun b1 m => ?_) fun b1 m => ?_
 rw [b1]
 refine vl 0 (.agg (bC p0.Snap.Man)) lH rfl rfl rfl ?_
 refine vk I9 DG m rfl rfl fun _ m => ?_
 refine vi m (fun b2 m => ?_) fun b2 m => ?_
 rw [b2]
 refine vl 0 _ eF rfl rfl rfl (dH hS rfl ?_)
 refine vi m (fun b3 m => ?_) fun b3 m => ?_
 rw [b3]
 refine vl 0 _ eF rfl rfl rfl ?_
 refine vk RK KS m rfl rfl fun _ m => ?_
 refine vi m (fun b4 m => ?_) fun b4 m => ?_
 rw [b4]
 exact bD m (lx (.cons (aX.refl _ _) .nil))
 rw [b4]
 exact bD m (lx (.cons (aX.refl _ _) .nil))
 rw [b3]
 exact bD m (lx (.cons (aX.refl _ _) .nil))
 rw [b2]
 exact bD m (lx (.cons (aX.refl _ _) .nil))
 rw [b1]
 exact bD m (lx (.cons (aX.refl _ _) .nil))
 rw [b0]
 exact bD m (lx (.cons (aX.refl _ _) .nil))
 rintro _ j0 m
 refine v ?_
 injection m with m; subst m
 exact eM rfl
 refine v (v ?_)
 refine vi m (fun c1 m => ?_) fun c1 m => ?_
 refine v (vl 0 _ cG rfl rfl rfl ?_)
 refine vk BD rC m rfl rfl fun _ m => ?_
 refine v ?_
 injection m with m; subst m
 exact eM rfl
 refine v (v ?_)
 refine vi m (fun c2 m => ?_) fun c2 m => ?_
 refine vs ?_
 refine cW m (σ := Bool) (τ := Unit) (fun g s => [(some k2, .obj 62 (aG p0))]) (fun g s => .c 2 (.sc (.bool s)) .nil) (fun x m => ?_) ?_
 refine v (vl 0 _ cG rfl rfl rfl ?_)
 refine vk BD rC m rfl rfl fun _ m => ?_
 refine vi m (fun b5 m => ?_) fun b5 m => ?_
 rw [b5]
 refine vl 0 _ kK rfl rfl rfl (dH oI rfl ?_)
 refine vi m (fun b6 m => ?_) fun b6 m => ?_
 rw [b6]
 refine vl 0 _ kK rfl rfl rfl ?_
 obtain ⟨_, Y1, m⟩ := aC m
 refine vn (fun _ => cE (VK _ SP (fun x0 o h0 hs ho => W0 _ ho) Y1) rfl Q3 rfl) ?_
 exact bD m (lx (.cons (aX.refl _ _) .nil))
 rw [b6]
 exact bD m (lx (.cons (aX.refl _ _) .nil))
 rw [b5]
 exact bD m (lx (.cons (aX.refl _ _) .nil))
 rintro _ j1 m
 refine v ?_
 injection m with m; subst m
 exact eM rfl
 refine v ?_
 refine cW m (σ := Bool) (τ := Unit) (fun g s => [(some k2, .obj 62 (aG p0))]) (fun g s => .c 1 (.ptr k2 0) (.c 69 (.sc (.bool s)) .nil)) (fun x m => ?_) ?_
 refine v ?_
 refine vi m (fun c3 m => ?_) fun c3 m => ?_
 refine v ?_
 exact bD m (lx (.k2 .nil))
 refine v ?_
 exact bD m (lx (.k2 .nil))
 rintro _ j2 m
 refine v ?_
 refine vi m (fun c4 m => ?_) fun c4 m => ?_
 refine v (vl 0 _ cG rfl rfl rfl ?_)
 refine vk BD rC m rfl rfl fun _ m => ?_
 refine v ?_
 injection m with m; subst m
 exact eM rfl
 refine v (v (v ?_))
 injection m with m; subst m
 exact eM rfl
theorem W4 : aU Tryz.prog 94 = true := by kernel_rfl
def C1 (m : Nat) (p0 : a8) (q0 : List Int) (q1 : Int) : Option (Lp ((List Int) × Int) (Lp ((List Int)) ((List Int) × Int))) :=
 if (decide (q1 < (p0.Chunks.length : Int))) = true then ((ix p0.Chunks q1).bind fun x0 => (app q0 x0.Id.1).bind fun z0 => (uL m z0 (x0.Data.length : Int) 1).bind fun y0 => (app y0 x0.Data).bind fun z1 => some (.go (z1, IntKind.wrap .i64 (q1 + 1)))) else some (.brk (q0, q1))
def C2 (m : Nat) (p0 : a8) (q0 : List Int) (q1 : Int) : Option (Lp ((List Int) × Int) (Lp ((List Int)) (Lp ((List Int)) (Lp ((List Int)) ((List Int) × Int))))) :=
 if (decide (q1 < (p0.Items.length : Int))) = true then ((ix p0.Items q1).bind fun x0 => (app q0 ([IntKind.wrap .u8 x0.Kind] : List Int)).bind fun z0 => (app z0 x0.Id.1).bind fun z1 => (uL m z1 x0.Seq 4).bind fun y0 => (uL m y0 x0.Of 4).bind fun y1 => (uL m y1 x0.Off 3).bind fun y2 => (uL m y2 x0.Len 2).bind fun y3 => some (.go (y3, IntKind.wrap .i64 (q1 + 1)))) else some (.brk (q0, q1))
def W5 (m : Nat) (p0 : a8) : Option ((List Int) × Int) :=
 (W3 m p0).bind fun y7 => if (!y7) = true then (some ([], 1)) else after (if (p0.Kind == 1) = true then ((T7 m p0.Snap.Man).bind fun y0 => (uL m ([IntKind.wrap .u8 p0.Kind] : List Int) p0.Snap.Seq 4).bind fun y1 => (uL m y1 (y0.1.length : Int) 4).bind fun y2 => (app y2 y0.1).bind fun z0 => (uL m z0 (p0.Chunks.length : Int) 2).bind fun y3 => after (aY (fun s => C1 m p0 s.1 s.2) m (y3, 0)) fun ⟨r0, r1⟩ => some (.brk r0)) else after (if (p0.Kind == 2) = true then ((uL m ([IntKind.wrap .u8 p0.Kind] : List Int) p0.Seq 4).bind fun y4 => some (.brk y4)) else after (if (p0.Kind == 3) = true then ((app ([IntKind.wrap .u8 p0.Kind] : List Int) ([IntKind.wrap .u8 p0.Vol, IntKind.wrap .u8 (p0.Items.length : Int)] : List Int)).bind fun z1 => after (aY (fun s => C2 m p0 s.1 s.2) m (z1, 0)) fun ⟨r2, r3⟩ => some (.brk r2)) else (app ([IntKind.wrap .u8 p0.Kind] : List Int) ([IntKind.wrap .u8 p0.Vol] : List Int)).bind fun z2 => some (.brk z2) : Option (Lp ((List Int)) (Lp ((List Int)) (Lp ((List Int)) ((List Int) × Int))))) fun j0 => some (.brk j0) : Option (Lp ((List Int)) (Lp ((List Int)) ((List Int) × Int)))) fun j1 => some (.brk j1) : Option (Lp ((List Int)) ((List Int) × Int))) fun j2 => (MJ m j2).bind fun y5 => some (y5, 0)
theorem W40 {w : Nat} {p0 : a8} {o : (List Int) × Int} (h : aH) (m : W5 w p0 = some o) :
 aP Tryz.prog 40 [.agg (aG p0)] h (fun r h' => r = .tup [.sl none 1 (List.map cZ o.1), nZ o.2] ∧ h' = h) := by
 refine fW 120 [.tmp 2, .tmp 3] Tryz.func40 rfl rfl rfl rfl ?_
 unfold W5 at m
 refine v ?_
 refine ve fun u => cQ u rfl rfl fun k2 K3 => qk K3 rfl ?_
 refine v (vl 0 (.agg (aG p0)) mP rfl rfl rfl ?_)
 refine vk W94 W4 m rfl rfl fun _ m => ?_
 refine v ?_
 refine vi m (fun c9 m => ?_) fun c9 m => ?_
 refine v (v ?_)
 cases m
 exact vr fun u => dY.of2 (.inl rfl) (fL _ _ (.sc (.slice _ _ _)) rfl) (fL _ _ (.sc (.int _ _)) rfl) (aV (List.nil_sublist _) u).1 (aS _) (aX.refl _ _) ⟨rfl, rfl⟩
 refine v (v (vl 0 _ cG rfl rfl rfl ?_))
 refine ve fun u => BT (c := cZ) ([IntKind.wrap .u8 p0.Kind] : List Int) u hU rfl rfl rfl rfl fun tg0 t0 K0 => qk K0 rfl ?_
 refine v (vl 1 _ cG rfl rfl rfl (v (v ?_)))
 refine pX m (σ := (List Int)) (τ := Option bZ) (fun g s => [(g, .tok 5 1 ((s : List Int).length * 1)), (some k2, .obj 62 (aG p0))]) (fun g s => (g = none → s = [])) (fun g s => .c 4 (ow g 1 (List.map cZ s)) .nil) (fun x m => ?_) ?_
 refine v ?_
 refine vi m (fun c0 m => ?_) fun c0 m => ?_
 refine v (vl 1 (.agg (bC p0.Snap.Man)) lH rfl rfl rfl ?_)
 refine vk YR T8 m rfl rfl fun _ m => ?_
 refine v (vl 1 _ cG rfl rfl rfl ?_)
 obtain ⟨y0, Y0, m⟩ := aC m
 refine ve fun u => ?_
 have ho0 := nG (A := [(tg0, .tok 5 1 ((([IntKind.wrap .u8 p0.Kind] : List Int) : List Int).length * 1))]) (R := [(some k2, .obj 62 (aG p0))]) u [[_], [_]] rfl [0] [1] rfl rfl rfl
 refine dX ho0.1 (cV (zF _ t0 ho0.2.2 Y0) rfl zG rfl ?_)
 rintro x h' ⟨tg1, t1, K1, rfl, rfl⟩
 have K2 := mK (L' := [(tg1, .tok 5 1 ((y0 : List Int).length * 1)), (some k2, .obj 62 (aG p0))]) ho0.2.1 K1 [[_]] [[_]] rfl rfl [0, 1] rfl rfl
 refine qk K2.2 K2.1 ?_
 refine dH jJ rfl ?_
 obtain ⟨y1, Y1, m⟩ := aC m
 refine ve fun u => ?_
 have ho1 := nG (A := [(tg1, .tok 5 1 ((y0 : List Int).length * 1))]) (R := [(some k2, .obj 62 (aG p0))]) u [[_], [_]] rfl [0] [1] rfl rfl rfl
 refine dX ho1.1 (cV (zF _ t1 ho1.2.2 Y1) rfl zG rfl ?_)
 rintro x h' ⟨tg2, t2, K4, rfl, rfl⟩
 have K5 := mK (L' := [(tg2, .tok 5 1 ((y1 : List Int).length * 1)), (some k2, .obj 62 (aG p0))]) ho1.2.1 K4 [[_]] [[_]] rfl rfl [0, 1] rfl rfl
 refine qk K5.2 K5.1 ?_
 obtain ⟨z0, Z0, m⟩ := aC m
 refine ve fun u => eS (c := cZ) 0 Z0 hU rfl rfl rfl t2 u rfl fun tg3 t3 K6 => qk K6 rfl ?_
 refine v (vl 1 _ eF rfl rfl rfl (dH hS rfl ?_))
 obtain ⟨y2, Y2, m⟩ := aC m
 refine ve fun u => ?_
 have ho2 := nG (A := [(tg3, .tok 5 1 ((z0 : List Int).length * 1))]) (R := [(some k2, .obj 62 (aG p0))]) u [[_], [_]] rfl [0] [1] rfl rfl rfl
 refine dX ho2.1 (cV (zF _ t3 ho2.2.2 Y2) rfl zG rfl ?_)
 rintro x h' ⟨tg4, t4, K7, rfl, rfl⟩
 have K8 := mK (L' := [(tg4, .tok 5 1 ((y2 : List Int).length * 1)), (some k2, .obj 62 (aG p0))]) ho2.2.1 K7 [[_]] [[_]] rfl rfl [0, 1] rfl rfl
 refine qk K8.2 K8.1 ?_
 refine v (vl 1 _ eF rfl rfl rfl (dH hS rfl ?_))
 refine lT m (σ := (List Int) × Int) (τ := Option bZ) (fun g s => [(g, .tok 5 1 ((s.1 : List Int).length * 1)), (some k2, .obj 62 (aG p0))]) (fun g s => (g = none → s.1 = [])) (fun g s => .c 4 (ow g 1 (List.map cZ s.1)) (.c 51 (.sl none 35 (List.map aD p0.Chunks)) (.c 52 (nZ (p0.Chunks.length : Int)) (.c 53 (nZ s.2) .nil)))) tg4 t4 (lx (.k4 .nil)) ?_ ?_
 rintro tg5 ⟨q0, q1⟩ x t5 m
 replace m : C1 w p0 q0 q1 = some x := m
 unfold C1 at m
 refine v (v ?_)
 refine vi m (fun c1 m => ?_) fun c1 m => ?_
 refine v (v (v ?_))
 refine vx m eW rfl rfl fun x0 _ m => ?_
 refine va (.agg (aD x0)) lF rfl rfl ?_
 refine ve fun u => bE (bF iY ++ ([.sc (.bool false), sZ, sZ] : List AV)) u l6 rfl rfl fun k1507 K9 => qk K9 rfl ?_
 refine ve fun u => aL 0 (aD x0) u rfl rfl rfl rfl uV rfl rfl fun K10 => qk K10 rfl ?_
 refine v (vn (fun _ => z8 o8 rfl) ?_)
 obtain ⟨z1, Z1, m⟩ := aC m
 refine ve fun u => eS (c := cZ) 1 Z1 hU rfl rfl rfl t5 u (sU (bB 0 u rfl) rfl rfl) fun tg6 t6 K11 => qk K11 rfl ?_
 refine v ?_
 refine vz [(1000000, some k1507, .obj 44 (aD x0))] mixed (fun u => ⟨fun _ => aO 0 u rfl, trivial⟩) fun u => ?_
 refine aM 0 rfl (fun _ _ _ _ => bN (ow _ _ _) rfl) ?_
 refine aM 1 rfl (fun _ _ _ _ => aJ iU rfl rfl) ?_
 refine aM 2 rfl (fun _ _ hi hB => bH (.sl none 1 (List.map cZ x0.Data)) jR rfl (At.s (bR.get 0 hi rfl (hB 1000000 (by kernel_rfl)))) rfl) ?_
 refine aM 3 rfl (fun _ _ _ _ => qB jJ rfl) ?_
 refine aM 5 rfl (fun _ _ _ _ => aJ iU rfl rfl) ?_
 refine aM 6 rfl (fun _ _ hi hB => bH (.sl none 1 (List.map cZ x0.Data)) jR rfl (At.s (bR.get 0 hi rfl (hB 1000000 (by kernel_rfl)))) rfl) ?_
 obtain ⟨y3, Y3, m⟩ := aC m
 refine eX 4 rfl (by kernel_rfl) ?_
 have ho3 := nG (A := [(tg6, .tok 5 1 ((z1 : List Int).length * 1))]) (R := [(some k1507, .obj 44 (aD x0)), (some k2, .obj 62 (aG p0))]) u [[_], [_], [_]] rfl [1] [0, 2] rfl rfl rfl
 refine dX ho3.1 (cV (zF _ t6 ho3.2.2 Y3) rfl zG rfl ?_)
 rintro x h' ⟨tg7, t7, K12, rfl, rfl⟩
 have K13 := mK (L' := [(some k1507, .obj 44 (aD x0)), (tg7, .tok 5 1 ((y3 : List Int).length * 1)), (some k2, .obj 62 (aG p0))]) ho3.2.1 K12 [[_]] [[_], [_]] rfl rfl [1, 0, 2] rfl rfl
 refine mN K13.1 ?_
 refine ⟨⟨fun _ => aO 0 K13.2 rfl, trivial⟩, ?_⟩
 obtain ⟨z2, Z2, m⟩ := aC m
 refine eX 7 rfl (by kernel_rfl) (eS (c := cZ) 1 Z2 hU rfl rfl rfl t7 K13.2 rfl fun tg8 t8 K15 => ⟨⟨fun _ => aO 0 K15 rfl, trivial⟩, ?_⟩)
 refine aM 8 rfl (fun _ _ _ _ => gU (ow _ _ _) rfl) ?_
 refine dL (by kernel_rfl) (qk (f := .c 4 _ (.c 68 _ (.c 65 _ (.c 67 _ (.c 66 _ (.c 64 _ (.c 63 _ (.c 62 _ (.c 61 _ _))))))))) K15 rfl ?_)
 refine v ?_
 exact fH m tg8 t8 (kR [1, 2] rfl rfl (.k4 .nil))
 refine v ?_
 exact lD m tg5 t5 (lx (.k4 .nil))
 rintro tg9 ⟨r0, r1⟩ t9 m
 exact fH m tg9 t9 (lx (.cons (aX.refl _ _) .nil))
 refine v ?_
 refine pX m (σ := (List Int)) (τ := Option bZ) (fun g s => [(g, .tok 5 1 ((s : List Int).length * 1)), (some k2, .obj 62 (aG p0))]) (fun g s => (g = none → s = [])) (fun g s => .c 4 (ow g 1 (List.map cZ s)) .nil) (fun x m => ?_) ?_
 refine v ?_
 refine vi m (fun c2 m => ?_) fun c2 m => ?_
 refine v (vl 1 _ cG rfl rfl rfl ?_)
 obtain ⟨y4, Y4, m⟩ := aC m
 refine ve fun u => ?_
 have ho4 := nG (A := [(tg0, .tok 5 1 ((([IntKind.wrap .u8 p0.Kind] : List Int) : List Int).length * 1))]) (R := [(some k2, .obj 62 (aG p0))]) u [[_], [_]] rfl [0] [1] rfl rfl rfl
 refine dX ho4.1 (cV (zF _ t0 ho4.2.2 Y4) rfl zG rfl ?_)
 rintro x h' ⟨tg10, t10, K16, rfl, rfl⟩
 have K17 := mK (L' := [(tg10, .tok 5 1 ((y4 : List Int).length * 1)), (some k2, .obj 62 (aG p0))]) ho4.2.1 K16 [[_]] [[_]] rfl rfl [0, 1] rfl rfl
 refine qk K17.2 K17.1 ?_
 exact fH m tg10 t10 (lx (.cons (aX.refl _ _) .nil))
 refine v ?_
 refine pX m (σ := (List Int)) (τ := Option bZ) (fun g s => [(g, .tok 5 1 ((s : List Int).length * 1)), (some k2, .obj 62 (aG p0))]) (fun g s => (g = none → s = [])) (fun g s => .c 4 (ow g 1 (List.map cZ s)) .nil) (fun x m => ?_) ?_
 refine v ?_
 refine vi m (fun c3 m => ?_) fun c3 m => ?_
 refine v (vl 1 _ cG rfl rfl rfl (vl 1 _ kK rfl rfl rfl (dH oI rfl (vn (fun _ => eH (List.map cZ ([IntKind.wrap .u8 p0.Vol, IntKind.wrap .u8 (p0.Items.length : Int)] : List Int)) hU rfl rfl rfl rfl) ?_))))
 obtain ⟨z3, Z3, m⟩ := aC m
 refine ve fun u => eS (c := cZ) 0 Z3 hU rfl rfl rfl t0 u rfl fun tg11 t11 K18 => qk K18 rfl ?_
 refine v (vl 1 _ kK rfl rfl rfl (dH oI rfl ?_))
 refine lT m (σ := (List Int) × Int) (τ := Option bZ) (fun g s => [(g, .tok 5 1 ((s.1 : List Int).length * 1)), (some k2, .obj 62 (aG p0))]) (fun g s => (g = none → s.1 = [])) (fun g s => .c 4 (ow g 1 (List.map cZ s.1)) (.c 89 (.sl none 37 (List.map bM p0.Items)) (.c 90 (nZ (p0.Items.length : Int)) (.c 91 (nZ s.2) .nil)))) tg11 t11 (lx (.k4 .nil)) ?_ ?_
 rintro tg13 ⟨q2, q3⟩ x t12 m
 replace m : C2 w p0 q2 q3 = some x := m
 unfold C2 at m
 refine v (v ?_)
 refine vi m (fun c4 m => ?_) fun c4 m => ?_
 refine v (v (v ?_))
 refine vx m s9 rfl rfl fun x1 _ m => ?_
 refine va (.agg (bM x1)) F4 rfl rfl ?_
 refine ve fun u => bE (([nZ 0] : List AV) ++ bF iY ++ ([nZ 0, nZ 0, nZ 0, nZ 0] : List AV)) u PO rfl rfl fun k2640 K19 => qk K19 rfl ?_
 refine ve fun u => aL 0 (bM x1) u rfl rfl rfl rfl PM rfl rfl fun K20 => qk K20 rfl ?_
 refine v ?_
 refine vz [(1000000, some k2640, .obj 38 (bM x1))] mixed (fun u => ⟨fun _ => aO 0 u rfl, trivial⟩) fun u => ?_
 refine aM 0 rfl (fun _ _ _ _ => bN (ow _ _ _) rfl) ?_
 refine aM 1 rfl (fun _ _ _ _ => aJ l4 rfl rfl) ?_
 refine aM 2 rfl (fun _ _ hi hB => bH (nZ x1.Kind) cG rfl (At.s (bR.get 0 hi rfl (hB 1000000 (by kernel_rfl)))) rfl) ?_
 refine aM 3 rfl (fun _ _ _ _ => EA PK TK rfl) ?_
 refine aM 4 rfl (fun _ _ _ _ => eH (List.map cZ ([IntKind.wrap .u8 x1.Kind] : List Int)) hU rfl rfl rfl rfl) ?_
 refine aM 6 rfl (fun _ _ _ _ => aJ xQ rfl rfl) ?_
 refine aM 7 rfl (fun _ _ _ _ => z8 o8 rfl) ?_
 obtain ⟨z4, Z4, m⟩ := aC m
 refine eX 5 rfl (by kernel_rfl) (eS (c := cZ) 1 Z4 hU rfl rfl rfl t12 u rfl fun tg14 t14 K21 => ⟨⟨fun _ => aO 0 K21 rfl, trivial⟩, ?_⟩)
 obtain ⟨z5, Z5, m⟩ := aC m
 refine eX 8 rfl (by kernel_rfl) (eS (c := cZ) 1 Z5 hU rfl rfl rfl t14 K21 (sU (bB 0 K21 rfl) rfl rfl) fun tg15 t15 K22 => ⟨⟨fun _ => aO 0 K22 rfl, trivial⟩, ?_⟩)
 refine aM 9 rfl (fun _ _ _ _ => gU (ow _ _ _) rfl) ?_
 refine dL (by kernel_rfl) (qk (f := .c 4 _ (.c 103 _ (.c 100 _ (.c 102 _ (.c 101 _ (.c 99 _ (.c 98 _ (.c 97 _ (.c 96 _ (.c 95 _ _)))))))))) K22 rfl ?_)
 refine v ?_
 refine vz [(1000000, some k2640, .obj 38 (bM x1))] mixed (fun u => ⟨fun _ => aO 0 u rfl, trivial⟩) fun u => ?_
 refine aM 0 rfl (fun _ _ _ _ => bN (ow _ _ _) rfl) ?_
 refine aM 1 rfl (fun _ _ _ _ => aJ lE rfl rfl) ?_
 refine aM 2 rfl (fun _ _ hi hB => bH (nZ x1.Seq) cG rfl (At.s (bR.get 0 hi rfl (hB 1000000 (by kernel_rfl)))) rfl) ?_
 refine aM 4 rfl (fun _ _ _ _ => aJ xR rfl rfl) ?_
 refine aM 5 rfl (fun _ _ hi hB => bH (nZ x1.Of) cG rfl (At.s (bR.get 0 hi rfl (hB 1000000 (by kernel_rfl)))) rfl) ?_
 refine aM 7 rfl (fun _ _ _ _ => aJ F5 rfl rfl) ?_
 refine aM 8 rfl (fun _ _ hi hB => bH (nZ x1.Off) cG rfl (At.s (bR.get 0 hi rfl (hB 1000000 (by kernel_rfl)))) rfl) ?_
 refine aM 10 rfl (fun _ _ _ _ => aJ F6 rfl rfl) ?_
 refine aM 11 rfl (fun _ _ hi hB => bH (nZ x1.Len) cG rfl (At.s (bR.get 0 hi rfl (hB 1000000 (by kernel_rfl)))) rfl) ?_
 obtain ⟨y5, Y5, m⟩ := aC m
 refine eX 3 rfl (by kernel_rfl) ?_
 have ho5 := nG (A := [(tg15, .tok 5 1 ((z5 : List Int).length * 1))]) (R := [(some k2640, .obj 38 (bM x1)), (some k2, .obj 62 (aG p0))]) u [[_], [_], [_]] rfl [1] [0, 2] rfl rfl rfl
 refine dX ho5.1 (cV (zF _ t15 ho5.2.2 Y5) rfl zG rfl ?_)
 rintro x h' ⟨tg16, t16, K23, rfl, rfl⟩
 have K24 := mK (L' := [(some k2640, .obj 38 (bM x1)), (tg16, .tok 5 1 ((y5 : List Int).length * 1)), (some k2, .obj 62 (aG p0))]) ho5.2.1 K23 [[_]] [[_], [_]] rfl rfl [1, 0, 2] rfl rfl
 refine mN K24.1 ?_
 refine ⟨⟨fun _ => aO 0 K24.2 rfl, trivial⟩, ?_⟩
 obtain ⟨y6, Y6, m⟩ := aC m
 refine eX 6 rfl (by kernel_rfl) ?_
 have ho6 := nG (A := [(tg16, .tok 5 1 ((y5 : List Int).length * 1))]) (R := [(some k2640, .obj 38 (bM x1)), (some k2, .obj 62 (aG p0))]) K24.2 [[_], [_], [_]] rfl [1] [0, 2] rfl rfl rfl
 refine dX ho6.1 (cV (zF _ t16 ho6.2.2 Y6) rfl zG rfl ?_)
 rintro x h' ⟨tg17, t17, K25, rfl, rfl⟩
 have K26 := mK (L' := [(some k2640, .obj 38 (bM x1)), (tg17, .tok 5 1 ((y6 : List Int).length * 1)), (some k2, .obj 62 (aG p0))]) ho6.2.1 K25 [[_]] [[_], [_]] rfl rfl [1, 0, 2] rfl rfl
 refine mN K26.1 ?_
 refine ⟨⟨fun _ => aO 0 K26.2 rfl, trivial⟩, ?_⟩
 obtain ⟨y7, Y7, m⟩ := aC m
 refine eX 9 rfl (by kernel_rfl) ?_
 have ho7 := nG (A := [(tg17, .tok 5 1 ((y6 : List Int).length * 1))]) (R := [(some k2640, .obj 38 (bM x1)), (some k2, .obj 62 (aG p0))]) K26.2 [[_], [_], [_]] rfl [1] [0, 2] rfl rfl rfl
 refine dX ho7.1 (cV (zF _ t17 ho7.2.2 Y7) rfl zG rfl ?_)
 rintro x h' ⟨tg18, t18, K27, rfl, rfl⟩
 have K28 := mK (L' := [(some k2640, .obj 38 (bM x1)), (tg18, .tok 5 1 ((y7 : List Int).length * 1)), (some k2, .obj 62 (aG p0))]) ho7.2.1 K27 [[_]] [[_], [_]] rfl rfl [1, 0, 2] rfl rfl
 refine mN K28.1 ?_
 refine ⟨⟨fun _ => aO 0 K28.2 rfl, trivial⟩, ?_⟩
 obtain ⟨y8, Y8, m⟩ := aC m
 refine eX 12 rfl (by kernel_rfl) ?_
 have ho8 := nG (A := [(tg18, .tok 5 1 ((y7 : List Int).length * 1))]) (R := [(some k2640, .obj 38 (bM x1)), (some k2, .obj 62 (aG p0))]) K28.2 [[_], [_], [_]] rfl [1] [0, 2] rfl rfl rfl
 refine dX ho8.1 (cV (zF _ t18 ho8.2.2 Y8) rfl zG rfl ?_)
 rintro x h' ⟨tg19, t19, K29, rfl, rfl⟩
 have K30 := mK (L' := [(some k2640, .obj 38 (bM x1)), (tg19, .tok 5 1 ((y8 : List Int).length * 1)), (some k2, .obj 62 (aG p0))]) ho8.2.1 K29 [[_]] [[_], [_]] rfl rfl [1, 0, 2] rfl rfl
 refine mN K30.1 ?_
 refine ⟨⟨fun _ => aO 0 K30.2 rfl, trivial⟩, ?_⟩
 refine aM 13 rfl (fun _ _ _ _ => gU (ow _ _ _) rfl) ?_
 refine dL (by kernel_rfl) (qk (f := .c 4 _ (.c 116 _ (.c 113 _ (.c 110 _ (.c 107 _ (.c 115 _ (.c 114 _ (.c 112 _ (.c 111 _ (.c 109 _ (.c 108 _ (.c 106 _ (.c 105 _ (.c 104 _ _)))))))))))))) K30.2 rfl ?_)
 refine v ?_
 exact fH m tg19 t19 (kR [1, 2] rfl rfl (.k4 .nil))
 refine v ?_
 exact lD m tg13 t12 (lx (.k4 .nil))
 rintro tg20 ⟨r2, r3⟩ t20 m
 exact fH m tg20 t20 (lx (.cons (aX.refl _ _) .nil))
 refine v (vl 1 _ cG rfl rfl rfl (vn (fun _ => eH (List.map cZ ([IntKind.wrap .u8 p0.Vol] : List Int)) hU rfl rfl rfl rfl) ?_))
 obtain ⟨z6, Z6, m⟩ := aC m
 refine ve fun u => eS (c := cZ) 0 Z6 hU rfl rfl rfl t0 u rfl fun tg21 t21 K31 => qk K31 rfl ?_
 exact fH m tg21 t21 (lx (.cons (aX.refl _ _) .nil))
 rintro tg22 j0 t22 m
 exact fH m tg22 t22 (lx (.cons (aX.refl _ _) .nil))
 rintro tg23 j1 t23 m
 exact fH m tg23 t23 (lx (.cons (aX.refl _ _) .nil))
 rintro tg24 j2 t24 m
 refine v ?_
 obtain ⟨_, Y9, m⟩ := aC m
 refine ve fun u => xM (t := 118) (.sl none 1 (List.map cZ j2)) (aV (List.eraseIdx_sublist _ 0) u).1 (kF _ 0 t24 u rfl (.refl _)) (cV (S1 _ Y9) rfl JD rfl ?_)
 rintro x h' ⟨tg25, t25, K32, rfl, rfl⟩
 refine qk (bS.co ((aV (List.eraseIdx_sublist _ 0) u).2) K32) (gO _ _ _) ?_
 refine v ?_
 cases m
 exact vr fun u => dY.of2 (.inl rfl) (fL _ _ (ow _ _ _) rfl) (fL _ _ (.sc (.int _ _)) rfl) (aV (List.nil_sublist _) u).1 ((eG _ 0 t25 u rfl)) (aX.refl _ _) ⟨rfl, rfl⟩
theorem W6 : aU Tryz.prog 40 = true := by kernel_rfl
def N3 (m : Nat) : Option (Bool) :=
 (U7 m ([0] : List Int)).bind fun y3 => (NK m y3.1 ({ Kind := 1, Snap := ({ Seq := 0, Man := ({ Name := (ByteArray.mk #[97]), Parts := [] } : a9), Locs := [] } : aE), Chunks := [], Seq := 0, Vol := 0, Items := [] } : a8)).bind fun y0 => (W5 m ({ Kind := 1, Snap := ({ Seq := 0, Man := ({ Name := (ByteArray.mk #[97]), Parts := [] } : a9), Locs := [] } : aE), Chunks := [], Seq := 0, Vol := 0, Items := [] } : a8)).bind fun y1 => after (if (y3.2 == 0) = true then (if (y0.2 == 0) = true then (if (y1.2 == 0) = true then (if ((y0.1.Snaps.length : Int) == 1) = true then (if (y0.1.Seq == 1) = true then (some (.brk ((y1.1.length : Int) == 14))) else some (.brk false)) else some (.brk false)) else some (.brk false)) else some (.brk false)) else some (.brk false) : Option (Lp (Bool) (Bool))) fun j0 => some j0
theorem W7 {w : Nat} {o : Bool} (h : aH) (m : N3 w = some o) :
 aP Tryz.prog 37 [] h (fun r h' => r = .sc (.bool o) ∧ h' = h) := by
 refine fW 53 [.tmp 0] Tryz.func37 rfl rfl rfl rfl ?_
 unfold N3 at m
 refine v (v (vn (fun _ => eH (List.map gQ ([0] : List Int)) I3 rfl rfl rfl rfl) ?_))
 refine vk ZN U8 m rfl rfl fun y3 m => ?_
 refine ve fun u => bE ([nZ 0, sZ, sZ, sZ, sZ]) u mO rfl rfl fun k5 K6 => qk K6 rfl ?_
 refine ve fun u => aL 0 (aF y3.1) u rfl rfl rfl rfl jF rfl rfl fun K8 => qk K8 rfl ?_
 refine v (vn (fun _ => eV ([.sc (.string (ByteArray.mk #[97])), sZ]) I6 rfl) (vn (fun _ => eV ([nZ 0, .sc (.string (ByteArray.mk #[97])), sZ, sZ]) L0 rfl) (vn (fun _ => eV ([nZ 1, nZ 0, .sc (.string (ByteArray.mk #[97])), sZ, sZ, sZ, nZ 0, nZ 0, sZ]) tC rfl) ?_)))
 refine ve fun u => bE ([nZ 0, nZ 0, .sc (.string ByteArray.empty), sZ, sZ, sZ, nZ 0, nZ 0, sZ]) u GB rfl rfl fun k10 K0 => qk K0 rfl ?_
 refine ve fun u => aL 0 ([nZ 1, nZ 0, .sc (.string (ByteArray.mk #[97])), sZ, sZ, sZ, nZ 0, nZ 0, sZ]) u rfl rfl rfl rfl rL rfl rfl fun K1 => qk K1 rfl ?_
 refine v (vl 1 (.agg (aF y3.1)) eK rfl rfl rfl (vl 0 (.agg ([nZ 1, nZ 0, .sc (.string (ByteArray.mk #[97])), sZ, sZ, sZ, nZ 0, nZ 0, sZ])) mP rfl rfl rfl ?_))
 obtain ⟨y0, Y0, m⟩ := aC m
 refine vn (fun _ => cE (lI (.cons (aX.refl _ _) (.cons (aX.agg (.k3 (.cons (aS _) (.cons (aS _) (.cons (aS _) (.k2 (.cons (aS _) .nil))))))) .nil)) (VZ _ Y0)) rfl NM rfl) ?_
 refine ve fun u => bE ([nZ 0, sZ, sZ, sZ, sZ]) u mO rfl rfl fun k17 K2 => qk K2 rfl ?_
 refine ve fun u => aL 0 (aF y0.1) u rfl rfl rfl rfl jF rfl rfl fun K3 => qk K3 rfl ?_
 refine v (vl 1 (.agg ([nZ 1, nZ 0, .sc (.string (ByteArray.mk #[97])), sZ, sZ, sZ, nZ 0, nZ 0, sZ])) mP rfl rfl rfl ?_)
 obtain ⟨_, Y1, m⟩ := aC m
 refine vn (fun _ => cE (lI (.cons (aX.agg (.k3 (.cons (aS _) (.cons (aS _) (.cons (aS _) (.k2 (.cons (aS _) .nil))))))) .nil) (W40 _ Y1)) rfl W6 rfl) (vs ?_)
 refine cW m (σ := Bool) (τ := Unit) (fun g s => [(some k17, .obj 30 (aF y0.1)), (some k10, .obj 62 ([nZ 1, nZ 0, .sc (.string (ByteArray.mk #[97])), sZ, sZ, sZ, nZ 0, nZ 0, sZ])), (some k5, .obj 30 (aF y3.1))]) (fun g s => .c 0 (.sc (.bool s)) .nil) (fun x m => ?_) ?_
 refine v ?_
 refine vi m (fun b0 m => ?_) fun b0 m => ?_
 rw [b0]
 refine vi m (fun b1 m => ?_) fun b1 m => ?_
 rw [b1]
 refine vi m (fun b2 m => ?_) fun b2 m => ?_
 rw [b2]
 refine vl 0 _ fK rfl rfl rfl (dH kH rfl ?_)
 refine vi m (fun b3 m => ?_) fun b3 m => ?_
 rw [b3]
 refine vl 0 _ cG rfl rfl rfl ?_
 refine vi m (fun b4 m => ?_) fun b4 m => ?_
 rw [b4]
 refine dH jJ rfl ?_
 exact bD m (lx (.cons (aX.refl _ _) .nil))
 rw [b4]
 exact bD m (lx (.cons (aX.refl _ _) .nil))
 rw [b3]
 exact bD m (lx (.cons (aX.refl _ _) .nil))
 rw [b2]
 exact bD m (lx (.cons (aX.refl _ _) .nil))
 rw [b1]
 exact bD m (lx (.cons (aX.refl _ _) .nil))
 rw [b0]
 exact bD m (lx (.cons (aX.refl _ _) .nil))
 rintro _ j0 m
 refine v ?_
 injection m with m; subst m
 exact eM rfl
theorem N4 : aU Tryz.prog 37 = true := by kernel_rfl
open Go.Vm
def uM (m : Nat) (p2 : Int) (y0 : aB) (q0 : Int) (q1 : Bool) (q2 : Int) : Option (Lp (Bool × Int) (Lp (Int) (Bool))) :=
 (ix y0.Chunks q0).bind fun x0 => if (decide (q2 < (x0.Locs.length : Int))) = true then (after (if q1 = true then ((ix y0.Chunks q0).bind fun x1 => (ix x1.Locs q2).bind fun x2 => some (.brk (x2.Vol == (IntKind.wrap .i64 ((IntKind.wrap .u64 p2).tmod (IntKind.wrap .u64 (y0.Vols.length : Int))))))) else some (.brk false) : Option (Lp (Bool) (Lp (Bool × Int) (Lp (Int) (Bool))))) fun j0 => some (.go (j0, IntKind.wrap .i64 (q2 + 1)))) else some (.brk (q1, q2))
def wJ (m : Nat) (p2 : Int) (y0 : aB) (y1 : aB × Int) (q0 : Int) : Option (Lp (Int) (Bool)) :=
 if (decide (q0 < (y0.Chunks.length : Int))) = true then (after ((ix y0.Chunks q0).bind fun x0 => if (!x0.Staged) = true then ((ix y0.Chunks q0).bind fun x1 => if (decide (0 < (x1.Locs.length : Int))) = true then ((ix y0.Chunks q0).bind fun x2 => (OH m y0 x2.Id).bind fun y2 => some (.brk y2)) else some (.brk false)) else some (.brk false) : Option (Lp (Bool) (Lp (Int) (Bool)))) fun j0 => after (aY (fun s => uM m p2 y0 q0 s.1 s.2) m (j0, 0)) fun ⟨r0, r1⟩ => if r0 = true then (after (if (y1.2 == 1) = true then ((N3 m).bind fun y3 => some (.brk y3)) else some (.brk false) : Option (Lp (Bool) (Lp (Int) (Bool)))) fun j1 => some (.ret j1)) else some (.go (IntKind.wrap .i64 (q0 + 1)))) else some (.brk q0)
def wK (m : Nat) (p2 : Int) (y0 : aB) (y1 : aB × Int) (q0 : Int) (q1 : Int) : Option (Lp (Int) (Lp (Int) (Bool))) :=
 (ix y1.1.Chunks q0).bind fun x0 => if (decide (q1 < (x0.Locs.length : Int))) = true then ((ix y1.1.Chunks q0).bind fun x1 => (ix x1.Locs q1).bind fun x2 => if (x2.Vol == (IntKind.wrap .i64 ((IntKind.wrap .u64 p2).tmod (IntKind.wrap .u64 (y0.Vols.length : Int))))) = true then (some (.ret (.ret false))) else some (.go (IntKind.wrap .i64 (q1 + 1)))) else some (.brk q1)
def wL (m : Nat) (p2 : Int) (y0 : aB) (y1 : aB × Int) (q0 : Int) : Option (Lp (Int) (Bool)) :=
 if (decide (q0 < (y1.1.Chunks.length : Int))) = true then (after (aY (fun s => wK m p2 y0 y1 q0 s) m 0) fun r0 => some (.go (IntKind.wrap .i64 (q0 + 1)))) else some (.brk q0)
def M9 (m : Nat) (p0 : List Int) (p1 : List lM) (p2 : Int) : Option (Bool) :=
 after (if (decide (30 < (p0.length : Int))) = true then (some (.brk true)) else (SG m p1).bind fun y9 => some (.brk y9) : Option (Lp (Bool) (Bool))) fun j7 => if j7 = true then (some true) else (SH m p0).bind fun y0 => (SI m y0 p1).bind fun y1 => grd ((IntKind.wrap .u64 (y1.Vols.length : Int)) != 0) <| (ix y1.Vols (IntKind.wrap .i64 ((IntKind.wrap .u64 p2).tmod (IntKind.wrap .u64 (y1.Vols.length : Int))))).bind fun x0 => after (if (x0.State != 2) = true then (some (.brk true)) else some (.brk (decide (1048576 ≤ x0.Epoch))) : Option (Lp (Bool) (Bool))) fun j0 => if j0 = true then ((N3 m).bind fun y2 => some y2) else (NK m y1 ({ Kind := 4, Snap := ({ Seq := 0, Man := ({ Name := ByteArray.empty, Parts := [] } : a9), Locs := [] } : aE), Chunks := [], Seq := 0, Vol := IntKind.wrap .i64 ((IntKind.wrap .u64 p2).tmod (IntKind.wrap .u64 (y1.Vols.length : Int))), Items := [] } : a8)).bind fun y3 => if (y3.2 != 0) = true then (after (aY (fun s => wJ m p2 y1 y3 s) m 0) fun r0 => some false) else (NK m y3.1 ({ Kind := 5, Snap := ({ Seq := 0, Man := ({ Name := ByteArray.empty, Parts := [] } : a9), Locs := [] } : aE), Chunks := [], Seq := 0, Vol := IntKind.wrap .i64 ((IntKind.wrap .u64 p2).tmod (IntKind.wrap .u64 (y1.Vols.length : Int))), Items := [] } : a8)).bind fun y4 => after (if (y4.2 != 0) = true then (some (.brk true)) else if (decide ((y4.1.Vols.length : Int) ≤ (IntKind.wrap .i64 ((IntKind.wrap .u64 p2).tmod (IntKind.wrap .u64 (y1.Vols.length : Int)))))) = true then (some (.brk true)) else (ix y4.1.Vols (IntKind.wrap .i64 ((IntKind.wrap .u64 p2).tmod (IntKind.wrap .u64 (y1.Vols.length : Int))))).bind fun x1 => if (x1.State != 1) = true then (some (.brk true)) else (ix y4.1.Vols (IntKind.wrap .i64 ((IntKind.wrap .u64 p2).tmod (IntKind.wrap .u64 (y1.Vols.length : Int))))).bind fun x2 => if (x2.Epoch != (IntKind.wrap .i64 (x0.Epoch + 1))) = true then (some (.brk true)) else (ix y4.1.Vols (IntKind.wrap .i64 ((IntKind.wrap .u64 p2).tmod (IntKind.wrap .u64 (y1.Vols.length : Int))))).bind fun x3 => if (x3.Files != 0) = true then (some (.brk true)) else (ix y4.1.Vols (IntKind.wrap .i64 ((IntKind.wrap .u64 p2).tmod (IntKind.wrap .u64 (y1.Vols.length : Int))))).bind fun x4 => if (x4.Pool != x0.Pool) = true then (some (.brk true)) else (MK m y4.1).bind fun y5 => some (.brk (y5 != 0)) : Option (Lp (Bool) (Bool))) fun j1 => if j1 = true then (some false) else after (aY (fun s => wL m p2 y1 y4 s) m 0) fun r1 => after (if ((y4.1.Snaps.length : Int) == (y1.Snaps.length : Int)) = true then (if (y4.1.Seq == y1.Seq) = true then ((N3 m).bind fun y6 => some (.brk y6)) else some (.brk false)) else some (.brk false) : Option (Lp (Bool) (Bool))) fun j2 => some j2
theorem W9 {w : Nat} {p0 : List Int} {p1 : List lM} {p2 : Int} {o : Bool} (h : aH) (m : M9 w p0 p1 p2 = some o) :
 aP Tryz.prog 9 [.sl none 1 (List.map gQ p0), .sl none 5 (List.map fG p1), nZ p2] h (fun r h' => r = .sc (.bool o) ∧ h' = h) := by
 refine fW 236 [.tmp 6] Tryz.func9 rfl rfl rfl rfl ?_
 unfold M9 at m
 refine v (vs (vs ?_))
 refine cW m (σ := Bool) (τ := Unit) (fun g s => []) (fun g s => .c 0 (.sl none 1 (List.map gQ p0)) (.c 1 (.sl none 5 (List.map fG p1)) (.c 2 (nZ p2) (.c 25 (.sc (.bool s)) .nil)))) (fun x m => ?_) ?_
 refine v (dH ED rfl ?_)
 refine vi m (fun b8 m => ?_) fun b8 m => ?_
 rw [b8]
 exact bD m (lx (.k4 .nil))
 rw [b8]
 refine vk W14 WJ m rfl rfl fun _ m => ?_
 exact bD m (lx (.k4 .nil))
 rintro _ j7 m
 refine v ?_
 refine vi m (fun c0 m => ?_) fun c0 m => ?_
 refine v (v ?_)
 injection m with m; subst m
 exact eM rfl
 refine v (v ?_)
 refine vk W16 WK m rfl rfl fun _ m => ?_
 refine vk W15 WL m rfl rfl fun y0 m => ?_
 refine ve fun u => bE ([nZ 0, sZ, sZ, sZ, sZ]) u mO rfl rfl fun k19 K0 => qk K0 rfl ?_
 refine ve fun u => aL 0 (aF y0) u rfl rfl rfl rfl jF rfl rfl fun K1 => qk K1 rfl ?_
 refine v (vl 0 _ fZ rfl rfl rfl (dH qG rfl ?_))
 refine J7 m fun _ m => ?_
 refine v (vl 0 _ fZ rfl rfl rfl ?_)
 refine vx m i9 rfl rfl fun x0 _ m => ?_
 refine va (.agg (aT x0)) LV rfl rfl ?_
 refine ve fun u => bE ([nZ 0, nZ 0, nZ 0, nZ 0]) u F8 rfl rfl fun k28 K2 => qk K2 rfl ?_
 refine ve fun u => aL 0 (aT x0) u rfl rfl rfl rfl LW rfl rfl fun K3 => qk K3 rfl ?_
 refine vs (vs ?_)
 refine cW m (σ := Bool) (τ := Unit) (fun g s => [(some k28, .obj 49 (aT x0)), (some k19, .obj 30 (aF y0))]) (fun g s => .c 7 (.ptr k19 0) (.c 8 (nZ (IntKind.wrap .i64 ((IntKind.wrap .u64 p2).tmod (IntKind.wrap .u64 (y0.Vols.length : Int))))) (.c 9 (.ptr k28 0) (.c 50 (.sc (.bool s)) .nil)))) (fun x m => ?_) ?_
 refine v (vl 0 _ cG rfl rfl rfl ?_)
 refine vi m (fun b0 m => ?_) fun b0 m => ?_
 rw [b0]
 exact bD m (lx (.k4 .nil))
 rw [b0]
 refine vl 0 _ cG rfl rfl rfl ?_
 exact bD m (lx (.k4 .nil))
 rintro _ j0 m
 refine v ?_
 refine vi m (fun c1 m => ?_) fun c1 m => ?_
 refine v ?_
 refine vk W7 N4 m rfl rfl fun _ m => ?_
 refine v ?_
 injection m with m; subst m
 exact eM rfl
 refine v (v (vl 1 (.agg (aF y0)) eK rfl rfl rfl (vn (fun _ => eV ([nZ 4, nZ 0, .sc (.string ByteArray.empty), sZ, sZ, sZ, nZ 0, nZ (IntKind.wrap .i64 ((IntKind.wrap .u64 p2).tmod (IntKind.wrap .u64 (y0.Vols.length : Int)))), sZ]) tC rfl) ?_)))
 obtain ⟨y1, Y0, m⟩ := aC m
 refine vn (fun _ => cE (lI (.cons (aX.refl _ _) (.cons (aX.agg (.k3 (.cons (aS _) (.cons (aS _) (.cons (aS _) (.k2 (.cons (aS _) .nil))))))) .nil)) (VZ _ Y0)) rfl NM rfl) ?_
 refine ve fun u => bE ([nZ 0, sZ, sZ, sZ, sZ]) u mO rfl rfl fun k45 K4 => qk K4 rfl ?_
 refine ve fun u => aL 0 (aF y1.1) u rfl rfl rfl rfl jF rfl rfl fun K5 => qk K5 rfl ?_
 refine v (v ?_)
 refine vi m (fun c2 m => ?_) fun c2 m => ?_
 refine v ?_
 refine eO m (σ := Int) (τ := Unit) (fun g s => [(some k45, .obj 30 (aF y1.1)), (some k28, .obj 49 (aT x0)), (some k19, .obj 30 (aF y0))]) (fun g s => .c 7 (.ptr k19 0) (.c 8 (nZ (IntKind.wrap .i64 ((IntKind.wrap .u64 p2).tmod (IntKind.wrap .u64 (y0.Vols.length : Int))))) (.c 11 (nZ y1.2) (.c 12 (nZ s) .nil)))) () (lx (.k4 .nil)) ?_ ?_
 rintro _ q0 x m
 replace m : wJ w p2 y0 y1 q0 = some x := m
 unfold wJ at m
 refine v (vl 2 _ eF rfl rfl rfl (dH hS rfl (v ?_)))
 refine vi m (fun c3 m => ?_) fun c3 m => ?_
 refine v (v (vs ?_))
 refine cW m (σ := Bool) (τ := Unit) (fun g s => [(some k45, .obj 30 (aF y1.1)), (some k28, .obj 49 (aT x0)), (some k19, .obj 30 (aF y0))]) (fun g s => .c 7 (.ptr k19 0) (.c 8 (nZ (IntKind.wrap .i64 ((IntKind.wrap .u64 p2).tmod (IntKind.wrap .u64 (y0.Vols.length : Int))))) (.c 11 (nZ y1.2) (.c 12 (nZ q0) (.c 13 (.sc (.bool s)) .nil))))) (fun x m => ?_) ?_
 refine v (vq (by kernel_rfl) (vl 2 _ eF rfl rfl rfl ?_))
 refine vx m eW rfl rfl fun _ _ m => ?_
 refine vi m (fun b1 m => ?_) fun b1 m => ?_
 rw [b1]
 refine vl 2 _ eF rfl rfl rfl ?_
 refine vx m eW rfl rfl fun _ _ m => ?_
 refine dH iF rfl ?_
 refine vi m (fun b2 m => ?_) fun b2 m => ?_
 rw [b2]
 refine vl 2 (.agg (aF y0)) eK rfl rfl rfl (vl 2 _ eF rfl rfl rfl ?_)
 refine vx m eW rfl rfl fun x1 _ m => ?_
 refine va (.agg (bF x1.Id)) fV rfl rfl ?_
 refine vk XY QW m rfl rfl fun _ m => ?_
 exact bD m (lx (.k5 .nil))
 rw [b2]
 exact bD m (lx (.k5 .nil))
 rw [b1]
 exact bD m (lx (.k5 .nil))
 rintro _ j1 m
 refine v ?_
 refine eO m (σ := Bool × Int) (τ := Unit) (fun g s => [(some k45, .obj 30 (aF y1.1)), (some k28, .obj 49 (aT x0)), (some k19, .obj 30 (aF y0))]) (fun g s => .c 7 (.ptr k19 0) (.c 8 (nZ (IntKind.wrap .i64 ((IntKind.wrap .u64 p2).tmod (IntKind.wrap .u64 (y0.Vols.length : Int))))) (.c 11 (nZ y1.2) (.c 12 (nZ q0) (.c 13 (.sc (.bool s.1)) (.c 14 (nZ s.2) .nil)))))) () (lx (.k6 .nil)) ?_ ?_
 rintro _ ⟨q1, q2⟩ x m
 replace m : uM w p2 y0 q0 q1 q2 = some x := m
 unfold uM at m
 refine v (vl 2 _ eF rfl rfl rfl ?_)
 refine vx m eW rfl rfl fun _ _ m => ?_
 refine dH iF rfl (v ?_)
 refine vi m (fun c4 m => ?_) fun c4 m => ?_
 refine v (v ?_)
 refine cW m (σ := Bool) (τ := Unit) (fun g s => [(some k45, .obj 30 (aF y1.1)), (some k28, .obj 49 (aT x0)), (some k19, .obj 30 (aF y0))]) (fun g s => .c 7 (.ptr k19 0) (.c 8 (nZ (IntKind.wrap .i64 ((IntKind.wrap .u64 p2).tmod (IntKind.wrap .u64 (y0.Vols.length : Int))))) (.c 11 (nZ y1.2) (.c 12 (nZ q0) (.c 13 (.sc (.bool s)) (.c 14 (nZ q2) .nil)))))) (fun x m => ?_) ?_
 refine v ?_
 refine vi m (fun b3 m => ?_) fun b3 m => ?_
 rw [b3]
 refine vl 2 _ eF rfl rfl rfl ?_
 refine vx m eW rfl rfl fun _ _ m => ?_
 refine vx m m7 rfl rfl fun _ _ m => ?_
 exact bD m (lx (.k6 .nil))
 rw [b3]
 exact bD m (lx (.k6 .nil))
 rintro _ j2 m
 refine v ?_
 exact bD m (lx (.k6 .nil))
 refine v ?_
 exact iS m (lx (.k6 .nil))
 rintro _ ⟨r0, r1⟩ m
 refine v (v ?_)
 refine vi m (fun c5 m => ?_) fun c5 m => ?_
 refine vs ?_
 refine cW m (σ := Bool) (τ := Unit) (fun g s => [(some k45, .obj 30 (aF y1.1)), (some k28, .obj 49 (aT x0)), (some k19, .obj 30 (aF y0))]) (fun g s => .c 6 (.sc (.bool s)) .nil) (fun x m => ?_) ?_
 refine v ?_
 refine vi m (fun b4 m => ?_) fun b4 m => ?_
 rw [b4]
 refine vk W7 N4 m rfl rfl fun _ m => ?_
 exact bD m (lx (.cons (aX.refl _ _) .nil))
 rw [b4]
 exact bD m (lx (.cons (aX.refl _ _) .nil))
 rintro _ j3 m
 refine v ?_
 refine gA m fun m => ?_
 injection m with m; subst m
 exact eM rfl
 refine v (v ?_)
 exact bD m (lx (.k4 .nil))
 refine v ?_
 exact iS m (lx (.k4 .nil))
 rintro _ r2 m
 refine v (v ?_)
 injection m with m; subst m
 exact eM rfl
 refine v (v (vl 0 (.agg (aF y1.1)) eK rfl rfl rfl (vn (fun _ => eV ([nZ 5, nZ 0, .sc (.string ByteArray.empty), sZ, sZ, sZ, nZ 0, nZ (IntKind.wrap .i64 ((IntKind.wrap .u64 p2).tmod (IntKind.wrap .u64 (y0.Vols.length : Int)))), sZ]) tC rfl) ?_)))
 obtain ⟨y2, Y1, m⟩ := aC m
 refine vn (fun _ => cE (lI (.cons (aX.refl _ _) (.cons (aX.agg (.k3 (.cons (aS _) (.cons (aS _) (.cons (aS _) (.k2 (.cons (aS _) .nil))))))) .nil)) (VZ _ Y1)) rfl NM rfl) ?_
 refine ve fun u => bE ([nZ 0, sZ, sZ, sZ, sZ]) u mO rfl rfl fun k361 K6 => qk K6 rfl ?_
 refine ve fun u => aL 0 (aF y2.1) u rfl rfl rfl rfl jF rfl rfl fun K7 => qk K7 rfl ?_
 refine vs (vs ?_)
 refine cW m (σ := Bool) (τ := Unit) (fun g s => [(some k361, .obj 30 (aF y2.1)), (some k45, .obj 30 (aF y1.1)), (some k28, .obj 49 (aT x0)), (some k19, .obj 30 (aF y0))]) (fun g s => .c 7 (.ptr k19 0) (.c 8 (nZ (IntKind.wrap .i64 ((IntKind.wrap .u64 p2).tmod (IntKind.wrap .u64 (y0.Vols.length : Int))))) (.c 15 (.ptr k361 0) (.c 188 (.sc (.bool s)) .nil)))) (fun x m => ?_) ?_
 refine v (vq (by kernel_rfl) ?_)
 refine vi m (fun b5 m => ?_) fun b5 m => ?_
 rw [b5]
 exact bD m (lx (.k4 .nil))
 rw [b5]
 refine vl 0 _ fZ rfl rfl rfl (dH qG rfl ?_)
 refine vi m (fun b6 m => ?_) fun b6 m => ?_
 rw [b6]
 exact bD m (lx (.k4 .nil))
 rw [b6]
 refine vl 0 _ fZ rfl rfl rfl ?_
 refine vx m i9 rfl rfl fun _ _ m => ?_
 refine vi m (fun b7 m => ?_) fun b7 m => ?_
 rw [b7]
 exact bD m (lx (.k4 .nil))
 rw [b7]
 refine vl 0 _ fZ rfl rfl rfl ?_
 refine vx m i9 rfl rfl fun _ _ m => ?_
 refine vl 2 _ cG rfl rfl rfl ?_
 refine vi m (fun b9 m => ?_) fun b9 m => ?_
 rw [b9]
 exact bD m (lx (.k4 .nil))
 rw [b9]
 refine vl 0 _ fZ rfl rfl rfl ?_
 refine vx m i9 rfl rfl fun _ _ m => ?_
 refine vi m (fun b10 m => ?_) fun b10 m => ?_
 rw [b10]
 exact bD m (lx (.k4 .nil))
 rw [b10]
 refine vl 0 _ fZ rfl rfl rfl ?_
 refine vx m i9 rfl rfl fun _ _ m => ?_
 refine vl 2 _ cG rfl rfl rfl ?_
 refine vi m (fun b11 m => ?_) fun b11 m => ?_
 rw [b11]
 exact bD m (lx (.k4 .nil))
 rw [b11]
 refine vl 0 (.agg (aF y2.1)) eK rfl rfl rfl ?_
 refine vk T5 ML m rfl rfl fun _ m => ?_
 exact bD m (lx (.k4 .nil))
 rintro _ j4 m
 refine v ?_
 refine vi m (fun c6 m => ?_) fun c6 m => ?_
 refine v (v ?_)
 injection m with m; subst m
 exact eM rfl
 refine v (v ?_)
 refine eO m (σ := Int) (τ := Unit) (fun g s => [(some k361, .obj 30 (aF y2.1)), (some k45, .obj 30 (aF y1.1)), (some k28, .obj 49 (aT x0)), (some k19, .obj 30 (aF y0))]) (fun g s => .c 7 (.ptr k19 0) (.c 8 (nZ (IntKind.wrap .i64 ((IntKind.wrap .u64 p2).tmod (IntKind.wrap .u64 (y0.Vols.length : Int))))) (.c 15 (.ptr k361 0) (.c 17 (nZ s) .nil)))) () (lx (.k4 .nil)) ?_ ?_
 rintro _ q3 x m
 replace m : wL w p2 y0 y2 q3 = some x := m
 unfold wL at m
 refine v (vl 0 _ eF rfl rfl rfl (dH hS rfl (v ?_)))
 refine vi m (fun c7 m => ?_) fun c7 m => ?_
 refine v (v (v ?_))
 refine eO m (σ := Int) (τ := Unit) (fun g s => [(some k361, .obj 30 (aF y2.1)), (some k45, .obj 30 (aF y1.1)), (some k28, .obj 49 (aT x0)), (some k19, .obj 30 (aF y0))]) (fun g s => .c 7 (.ptr k19 0) (.c 8 (nZ (IntKind.wrap .i64 ((IntKind.wrap .u64 p2).tmod (IntKind.wrap .u64 (y0.Vols.length : Int))))) (.c 15 (.ptr k361 0) (.c 17 (nZ q3) (.c 18 (nZ s) .nil))))) () (lx (.k5 .nil)) ?_ ?_
 rintro _ q4 x m
 replace m : wK w p2 y0 y2 q3 q4 = some x := m
 unfold wK at m
 refine v (vl 0 _ eF rfl rfl rfl ?_)
 refine vx m eW rfl rfl fun _ _ m => ?_
 refine dH iF rfl (v ?_)
 refine vi m (fun c8 m => ?_) fun c8 m => ?_
 refine v (v (v (vl 0 _ eF rfl rfl rfl ?_)))
 refine vx m eW rfl rfl fun _ _ m => ?_
 refine vx m m7 rfl rfl fun _ _ m => ?_
 refine v ?_
 refine vi m (fun c9 m => ?_) fun c9 m => ?_
 refine v (v ?_)
 refine gA m fun m => ?_
 refine gA m fun m => ?_
 injection m with m; subst m
 exact eM rfl
 refine v (v ?_)
 exact bD m (lx (.k5 .nil))
 refine v ?_
 exact iS m (lx (.k5 .nil))
 rintro _ r3 m
 refine v ?_
 exact bD m (lx (.k4 .nil))
 refine v ?_
 exact iS m (lx (.k4 .nil))
 rintro _ r4 m
 refine vs ?_
 refine cW m (σ := Bool) (τ := Unit) (fun g s => [(some k361, .obj 30 (aF y2.1)), (some k45, .obj 30 (aF y1.1)), (some k28, .obj 49 (aT x0)), (some k19, .obj 30 (aF y0))]) (fun g s => .c 6 (.sc (.bool s)) .nil) (fun x m => ?_) ?_
 refine v (vl 0 _ fK rfl rfl rfl (dH kH rfl (vl 3 _ fK rfl rfl rfl (dH kH rfl ?_))))
 refine vi m (fun b12 m => ?_) fun b12 m => ?_
 rw [b12]
 refine vl 0 _ cG rfl rfl rfl (vl 3 _ cG rfl rfl rfl ?_)
 refine vi m (fun b13 m => ?_) fun b13 m => ?_
 rw [b13]
 refine vk W7 N4 m rfl rfl fun _ m => ?_
 exact bD m (lx (.cons (aX.refl _ _) .nil))
 rw [b13]
 exact bD m (lx (.cons (aX.refl _ _) .nil))
 rw [b12]
 exact bD m (lx (.cons (aX.refl _ _) .nil))
 rintro _ j5 m
 refine v ?_
 injection m with m; subst m
 exact eM rfl
open Go.Vm
theorem J0 : N3 1000 = some true := by decide +kernel
theorem Lk.filt {vs : List aK} {l : List bI} (h : Lk vs l) (q : bI → Bool) : Lk vs (l.filter q) :=
 ⟨Nat.le_trans (List.length_filter_le _ _) h.n, fun x hx => h.a x (List.mem_filter.1 hx).1, h.o.sublist (List.filter_sublist)⟩
theorem J1 {vs : List aK} {x : bI} {v : Nat} {z : aK} (h : AZ vs x = true) (hv : x.Vol.toNat ≠ v) : AZ (vs.set v z) x = true := by
 unfold AZ at *
 rw [List.length_set, List.getElem?_set_ne (fun e => hv e.symm)]
 exact h
theorem DX {vs : List aK} {x : bI} (h : AZ vs x = true) : 0 ≤ x.Vol ∧ ∃ v, vs[x.Vol.toNat]? = some v ∧ v.State = 2 ∧ 1 ≤ x.File ∧ x.File ≤ v.Files := by
 unfold AZ at h
 simp only [Bool.and_eq_true, gJ, decide_eq_true_eq] at h
 obtain ⟨⟨⟨h1, h2⟩, -⟩, -⟩ := h
 refine ⟨h1.1, ?_⟩
 cases e : vs[x.Vol.toNat]? with
 | none => rw [e] at h2; cases h2
 | some v =>
  rw [e] at h2
  simp only [Bool.and_eq_true, beq_iff_eq, decide_eq_true_eq] at h2
  exact ⟨v, rfl, h2.1, h2.2.1, h2.2.2⟩
theorem Lk.set {vs : List aK} {l : List bI} {v : Int} {z : aK} (h : Lk vs l) (h0 : 0 ≤ v) (hv : ∀ x ∈ l, x.Vol ≠ v) : Lk (vs.set v.toNat z) l :=
 ⟨h.n, fun x hx => J1 (h.a x hx) (by have := (DX (h.a x hx)).1; have := hv x hx; omega), h.o⟩
theorem Lk.lf {vs : List aK} {l : List bI} {v : Int} {z : aK} (h : Lk vs l) (h0 : 0 ≤ v) : Lk (vs.set v.toNat z) (lf v l) :=
 Lk.set (h.filt _) h0 fun x hx => by
  have := (List.mem_filter.1 hx).2
  simpa using this
theorem Lk.off {vs : List aK} {l : List bI} {v : Int} {z : aK} (h : Lk vs l) (hz : vs[v.toNat]? = some z) (hs : z.State ≠ 2) : ∀ x ∈ l, x.Vol ≠ v := fun x hx e => by
 obtain ⟨-, y, hy, h2, -⟩ := DX (h.a x hx)
 rw [e, hz] at hy
 obtain rfl := Option.some.inj hy
 exact hs h2
theorem N5 {c : aB} {v : Int} {x : aK} (h : Sm c) (hx : c.Vols[v.toNat]? = some x) : Sm (ret c v x) := by
 obtain ⟨g0, g1, g2, g3, g4⟩ := h.g
 have lfm : ∀ {l : List bI} {y}, y ∈ lf v l → y ∈ l := fun hy => (List.mem_filter.1 hy).1
 have lfl : ∀ (l : List bI), (lf v l).length ≤ l.length := fun l => List.length_filter_le _ _
 refine ⟨⟨g0, ?_, ?_, ?_, ?_⟩, ?_, ?_, ?_, ?_, ?_, ?_, ?_, ?_⟩
 ·intro s hs
  obtain ⟨s0, h0, rfl⟩ := List.mem_map.1 hs
  exact ⟨(g1 s0 h0).1, (g1 s0 h0).2.1, fun y hy => (g1 s0 h0).2.2 y (lfm hy)⟩
 ·intro s hs
  obtain ⟨s0, h0, rfl⟩ := List.mem_map.1 (List.mem_filter.1 hs).1
  exact ⟨(g2 s0 h0).1, (g2 s0 h0).2.1, (g2 s0 h0).2.2.1, fun y hy => (g2 s0 h0).2.2.2 y (lfm hy)⟩
 ·intro s hs
  obtain ⟨s0, h0, rfl⟩ := List.mem_map.1 (List.mem_filter.1 hs).1
  exact ⟨(g3 s0 h0).1, (g3 s0 h0).2.1, fun y hy => (g3 s0 h0).2.2 y (lfm hy)⟩
 ·intro s hs
  rcases List.mem_or_eq_of_mem_set hs with h1 | rfl
  ·exact g4 s h1
  ·have := g4 x (List.mem_of_getElem? hx)
   exact ⟨this.1, this.2.1, (⟨by decide, by decide⟩ : gI 3), (⟨by decide, by decide⟩ : gI 0)⟩
 ·simpa [ret] using h.sn
 ·exact Nat.le_trans (List.length_filter_le _ _) (by simpa using h.ch)
 ·exact Nat.le_trans (List.length_filter_le _ _) (by simpa using h.ex)
 ·simpa [ret] using h.vo
 ·intro s hs
  obtain ⟨s0, h0, rfl⟩ := List.mem_map.1 hs
  exact Nat.le_trans (lfl _) (h.sl s0 h0)
 ·intro s hs
  obtain ⟨s0, h0, rfl⟩ := List.mem_map.1 (List.mem_filter.1 hs).1
  exact ⟨Nat.le_trans (lfl _) (h.cl s0 h0).1, (h.cl s0 h0).2⟩
 ·intro s hs
  obtain ⟨s0, h0, rfl⟩ := List.mem_map.1 (List.mem_filter.1 hs).1
  exact Nat.le_trans (lfl _) (h.el s0 h0)
 ·intro s hs
  obtain ⟨s0, h0, rfl⟩ := List.mem_map.1 hs
  exact h.man s0 h0
theorem N6 {c : aB} {v : Int} {x : aK} (h : Gd c) (h0 : 0 ≤ v) (hx : c.Vols[v.toNat]? = some x) (hp : ∀ s ∈ c.Snaps, E6 (ret c v x) s.Man = true) : Gd (ret c v x) where
 q := h.q
 v := fun y hy => by
  rcases List.mem_or_eq_of_mem_set hy with h1 | rfl
  ·exact h.v y h1
  ·have := h.v x (List.mem_of_getElem? hx)
   unfold mR at this ⊢
   simp only [Bool.and_eq_true] at this
   rw [this.1.1, this.1.2]
   rfl
 vn := by simpa [ret] using h.vn
 cn := Nat.le_trans (List.length_filter_le _ _) (by simpa using h.cn)
 co := ((List.pairwise_map (R := fun y x : aA => ky y.Id < ky x.Id) (f := yG v)).2 h.co).sublist List.filter_sublist
 cl := fun y hy => by
  obtain ⟨s0, h1, rfl⟩ := List.mem_map.1 (List.mem_filter.1 hy).1
  exact (h.cl s0 h1).lf h0
 cs := fun y hy => by
  obtain ⟨h1, h2⟩ := List.mem_filter.1 hy
  obtain ⟨s0, h3, rfl⟩ := List.mem_map.1 h1
  have := h.cs s0 h3
  cases e : s0.Staged with
  | true => rw [e] at this; simpa [yG, e] using this
  | false =>
   rw [e] at this
   simp only [yG, wH, e, Bool.not_false, Bool.true_and, Bool.not_eq_true', beq_eq_false_iff_ne, ne_eq] at h2
   simp only [yG, e]
   refine ⟨this.1, fun e2 => h2 ?_⟩
   rw [e2]; rfl
 sn := by simpa [ret] using h.sn
 so := List.pairwise_map.2 h.so
 sq := fun s hs => by
  obtain ⟨s0, h1, rfl⟩ := List.mem_map.1 hs
  exact h.sq s0 h1
 sm := List.pairwise_map.2 h.sm
 sb := fun s hs => by
  obtain ⟨s0, h1, rfl⟩ := List.mem_map.1 hs
  exact h.sb s0 h1
 sl := fun s hs => by
  obtain ⟨s0, h1, rfl⟩ := List.mem_map.1 hs
  exact (h.sl s0 h1).lf h0
 sp := fun s hs => by
  obtain ⟨s0, h1, rfl⟩ := List.mem_map.1 hs
  exact hp s0 h1
 en := Nat.le_trans (List.length_filter_le _ _) (by simpa using h.en)
 eo := ((List.pairwise_map (R := fun y x : aI => y.Seq < x.Seq) (f := NN v)).2 h.eo).sublist List.filter_sublist
 eq := fun y hy => by
  obtain ⟨s0, h1, rfl⟩ := List.mem_map.1 (List.mem_filter.1 hy).1
  exact h.eq s0 h1
 el := fun y hy => by
  obtain ⟨s0, h1, rfl⟩ := List.mem_map.1 (List.mem_filter.1 hy).1
  exact (h.el s0 h1).lf h0
 ee := fun y hy e => by
  have := (List.mem_filter.1 hy).2
  rw [e] at this
  simp at this
 ex := fun y hy s hs => by
  obtain ⟨s0, h1, rfl⟩ := List.mem_map.1 (List.mem_filter.1 hy).1
  obtain ⟨s1, h2, rfl⟩ := List.mem_map.1 hs
  exact h.ex s0 h1 s1 h2
def C3 (c : aB) (v : Int) (y : aA) : Bool := !y.Staged && decide (0 < (y.Locs.length : Int)) && wD c y.Id && y.Locs.all fun l => l.Vol == v
theorem H5 {c : aB} {v : Int} {x : aK} (h : Gd c) (h0 : 0 ≤ v) (hx : c.Vols[v.toNat]? = some x) (hn : c.Chunks.any (C3 c v) = false) : Gd (ret c v x) := by
 refine N6 h h0 hx fun s hs => ?_
 have hp := h.sp s hs
 unfold E6 at hp ⊢
 refine List.all_eq_true.2 fun p hp1 => List.all_eq_true.2 fun d hd => ?_
 have h1 := List.all_eq_true.1 (List.all_eq_true.1 hp p hp1) d hd
 obtain ⟨y, hy, e⟩ := List.any_eq_true.1 h1
 obtain rfl := of_decide_eq_true e
 refine List.any_eq_true.2 ⟨yG v y, List.mem_filter.2 ⟨List.mem_map_of_mem hy, ?_⟩, decide_eq_true rfl⟩
 have hu : wD c y.Id = true := List.any_eq_true.2 ⟨s, hs, List.any_eq_true.2 ⟨p, hp1, List.any_eq_true.2 ⟨_, hd, decide_eq_true rfl⟩⟩⟩
 have := List.any_eq_false.1 hn y hy
 unfold C3 at this
 rw [hu] at this
 have cs := h.cs y hy
 cases e : y.Staged with
 | true => simp [wH, yG, e]
 | false =>
  rw [e] at cs this
  obtain ⟨-, ne⟩ := cs
  have hl : 0 < y.Locs.length := List.length_pos_iff.2 ne
  have this : ¬ (∀ z ∈ y.Locs, z.Vol = v) := by simpa [hl] using this
  have : lf v y.Locs ≠ [] := fun e2 => this fun z hz => by
   have := List.filter_eq_nil_iff.1 e2 z hz
   simpa using this
  have : 0 < (lf v y.Locs).length := List.length_pos_iff.2 this
  simp only [wH, yG, e, Bool.not_false, Bool.true_and, Bool.not_eq_true', beq_eq_false_iff_ne, ne_eq]
  omega
theorem N7 {c : aB} {v : Int} {x : aK} (h : Gd c) (h0 : 0 ≤ v) (hx : c.Vols[v.toNat]? = some x) (h3 : x.State = 3) (he : x.Epoch < 1048576) : Gd (zT c v x) := by
 have lk : ∀ {l}, Lk c.Vols l → Lk (zT c v x).Vols l := fun hl => hl.set h0 (hl.off hx (by omega))
 refine { h with v := fun y hy => ?_, vn := by simpa [zT] using h.vn, cl := fun y hy => lk (h.cl y hy), sl := fun y hy => lk (h.sl y hy), el := fun y hy => lk (h.el y hy), sp := h.sp }
 rcases List.mem_or_eq_of_mem_set hy with h1 | rfl
 ·exact h.v y h1
 ·have := h.v x (List.mem_of_getElem? hx)
  unfold mR gJ at this ⊢
  simp only [Bool.and_eq_true, Bool.or_eq_true, decide_eq_true_eq, beq_iff_eq] at this ⊢
  obtain ⟨⟨a, b⟩, c⟩ := this
  refine ⟨⟨a, by omega, by omega⟩, .inr ⟨.inl trivial, ?_⟩⟩
  rcases c with c | c
  ·omega
  ·exact c.2
theorem N8 {c : aB} {v : Int} {x : aK} (h : Sm c) (hx : c.Vols[v.toNat]? = some x) (he : x.Epoch < 1048576 ∧ 0 ≤ x.Epoch) : Sm (zT c v x) := by
 obtain ⟨g0, g1, g2, g3, g4⟩ := h.g
 refine { h with g := ⟨g0, g1, g2, g3, ?_⟩, vo := by simpa [zT] using h.vo }
 intro s hs
 rcases List.mem_or_eq_of_mem_set hs with h1 | rfl
 ·exact g4 s h1
 ·have := g4 x (List.mem_of_getElem? hx)
  exact ⟨this.1, ⟨by simp only; omega, by simp only; omega⟩, (⟨by decide, by decide⟩ : gI 1), this.2.2.2⟩
open Go.Vm
theorem H6 {F : Nat} {c : aB} {p : Int} {w i : Nat} {y : aA} {b : Bool} (hF : 1000 ≤ F) (h : Sm c) (hy : c.Chunks[i]? = some y) (hw : IntKind.wrap .i64 ((IntKind.wrap .u64 p).tmod (IntKind.wrap .u64 (c.Vols.length : Int))) = (w : Int)) :
    aY (fun s : Bool × Int => uM F p c (i : Int) s.1 s.2) F (b, 0) = some (.brk (b && y.Locs.all fun l => l.Vol == (w : Int), (y.Locs.length : Int))) := by
  have hl := (h.cl y (List.mem_of_getElem? hy)).1
  have := nO (body := fun s : Bool × Int => uM F p c (i : Int) s.1 s.2) (s0 := (b, (0 : Int))) (n := y.Locs.length) (F := F) (fun k : Nat => (b && (y.Locs.take k).all fun l => l.Vol == (w : Int), (k : Int))) (by omega) (by simp) (fun k hk => by
    unfold uM
    simp only
    have hx : y.Locs[k]? = some y.Locs[k] := List.getElem?_eq_getElem hk
    rw [iW (by omega), hw, List.take_succ_eq_append_getElem hk]
    simp only [bT, hy, hx, Option.bind_some, Int.ofNat_lt, hk, decide_true, if_true, List.all_append, List.all_cons, List.all_nil, Bool.and_true]
    rw [← Bool.and_assoc]
    cases (b && (y.Locs.take k).all fun l => l.Vol == (w : Int)) <;> simp [aW]) (by
    unfold uM
    simp only [bT, hy, Option.bind_some, Int.lt_irrefl, decide_false, Bool.false_eq_true, if_false])
  rw [this, List.take_length]
theorem H7 {F : Nat} {c : aB} {p : Int} {w : Nat} {z : aB × Int} (hF : 1000 ≤ F) (h : Sm c) (hw : IntKind.wrap .i64 ((IntKind.wrap .u64 p).tmod (IntKind.wrap .u64 (c.Vols.length : Int))) = (w : Int)) (hz : z.2 = 1) (hm : N3 F = some true) :
    aY (fun s : Int => wJ F p c z s) F 0 = some (if c.Chunks.any (C3 c w) then .ret true else .brk (c.Chunks.length : Int)) := by
  have hch := h.ch
  refine nD (C3 c w) true (by omega) (fun i y hy hm' hi => ?_) (by unfold wJ; simp)
  unfold wJ
  rw [iW (by omega)]
  simp only [bT, hy, Option.bind_some, Int.ofNat_lt, hi, decide_true, if_true, XZ hF h, hz, hm, aW, cH]
  have L2 := fun b => H6 (b := b) hF h hy hw
  unfold C3
  generalize (y.Locs.all fun l => l.Vol == (w : Int)) = al at L2 ⊢
  generalize decide (0 < (y.Locs.length : Int)) = dl
  generalize wD c y.Id = ub
  cases y.Staged <;> cases dl <;> cases ub <;> cases al <;> simp [L2, aW, cY]
theorem H8 {F : Nat} {f : aB} {c : aB} {p : Int} {w : Nat} {n : Int} (hF : 1000 ≤ F) (h : Sm f) (hw : IntKind.wrap .i64 ((IntKind.wrap .u64 p).tmod (IntKind.wrap .u64 (c.Vols.length : Int))) = (w : Int)) (hn : ∀ y ∈ f.Chunks, ∀ l ∈ y.Locs, l.Vol ≠ (w : Int)) :
    aY (fun s : Int => wL F p c (f, n) s) F 0 = some (.brk (f.Chunks.length : Int)) := by
  have hch := h.ch
  refine nO (fun i : Nat => (i : Int)) (by omega) rfl (fun i hi => ?_) (by unfold wL; simp)
  have hy : f.Chunks[i]? = some f.Chunks[i] := List.getElem?_eq_getElem hi
  have hm := List.getElem_mem hi
  generalize f.Chunks[i] = y at hy hm
  have hl := (h.cl y hm).1
  have L6 : aY (fun s : Int => wK F p c (f, n) (i : Int) s) F 0 = some (.brk (y.Locs.length : Int)) := by
    refine nO (fun i : Nat => (i : Int)) (by omega) rfl (fun k hk => ?_) (by unfold wK; simp [bT, hy])
    have hx : y.Locs[k]? = some y.Locs[k] := List.getElem?_eq_getElem hk
    have hne := hn y hm _ (List.getElem_mem hk)
    unfold wK
    rw [iW (by omega), hw]
    simp only [bT, hy, hx, Option.bind_some, Int.ofNat_lt, hk, decide_true, if_true]
    rw [if_neg (by simpa using hne)]
  unfold wL
  rw [iW (by omega), L6]
  simp only [Int.ofNat_lt, hi, decide_true, if_true, aW]
theorem zH {q : List Int} {l : List lM} {p : Int} (gq : gL gI q) (gl : gL DJ l) (gp : gI p) : M9 1000 q l p = some true := by
 have hF : 1000 ≤ 1000 := Nat.le_refl _
 have key : T (M9 1000 q l p) fun b => b = true := by
  unfold M9
  refine .after (.ite (fun _ => .brk (T.ite (fun _ => .some rfl) fun h => absurd rfl h)) fun _ => .bind _ (t27 hF) fun b hb => .brk (T.ite (fun _ => .some rfl) fun hb0 => ?_))
  have ho := hb (by simpa using hb0)
  refine .bind _ (t29 hF gq) fun q hq => .bind _ (t28 hF hq.1 hq.2.1 hq.2.2 gl ho) fun c hc => ?_
  obtain ⟨h, hg⟩ := hc
  have G := pO.1 hg
  have hvn := G.vn
  simp only [gJ, Bool.and_eq_true, decide_eq_true_eq] at hvn
  obtain ⟨w, hw1, hw⟩ := RY p (n := c.Vols.length) (by omega) (by omega)
  rw [← S7 (n := c.Vols.length) (by omega)] at hw
  have hx : c.Vols[w]? = some c.Vols[w] := List.getElem?_eq_getElem hw1
  have hm := List.getElem_mem hw1
  generalize c.Vols[w] = x at hx hm
  have hxb := G.v x hm
  have hep : 0 ≤ x.Epoch ∧ x.Epoch ≤ 1048576 := by
   unfold mR gJ at hxb
   simp only [Bool.and_eq_true, decide_eq_true_eq] at hxb
   exact hxb.1.2
  refine .grd (by rw [S7 (by omega)]; exact bne_iff_ne.2 (by omega)) ?_
  have hw' := hw
  rw [hw]
  refine .bindEq (by rw [bT, hx]) ?_
  refine .after (.ite (fun _ => .brk (T.ite (fun _ => .bindEq J0 (.some rfl)) fun h => absurd rfl h)) fun hs => .brk (T.ite (fun he => .bindEq J0 (.some rfl)) fun he => ?_))
  have hs : x.State = 2 := by simpa using hs
  have he : x.Epoch < 1048576 := Int.not_le.1 fun h => he (decide_eq_true h)
  have hx' : c.Vols[((w : Int)).toNat]? = some x := by simpa using hx
  have hR := N5 h hx'
  refine .bindEq (YD (k := 75) (e := ret c w x) (n := 0) hF h hg rfl (by
   unfold nK
   simp only [if_neg (show ¬ (75 : Nat) = 72 by decide), if_neg (show ¬ (75 : Nat) = 73 by decide), if_neg (show ¬ (75 : Nat) = 74 by decide), if_true]
   rw [ZZ hF h (show (0 : Int) ≤ (w : Int) by omega) hx', if_pos hs]
   rfl) fun _ => hR) ?_
  rw [if_pos rfl]
  by_cases hgr : iO (ret c w x) = true
  ·rw [if_pos hgr]
   refine .ite (fun h => by simp at h) fun _ => ?_
   have GR := pO.1 hgr
   have hx2 : (ret c w x).Vols[((w : Int)).toNat]? = some { x with State := 3, Files := 0 } := by
    show (c.Vols.set _ _)[_]? = _
    rw [List.getElem?_set_self (by simpa using hw1)]
   have GF := N7 GR (show (0 : Int) ≤ (w : Int) by omega) hx2 rfl he
   have hgf := pO.2 GF
   have SF := N8 hR hx2 ⟨he, hep.1⟩
   refine .bindEq (YD (k := 76) (e := zT (ret c w x) w { x with State := 3, Files := 0 }) (n := 0) hF hR hgr rfl (by
    unfold nK
    simp only [if_neg (show ¬ (76 : Nat) = 72 by decide), if_neg (show ¬ (76 : Nat) = 73 by decide), if_neg (show ¬ (76 : Nat) = 74 by decide), if_neg (show ¬ (76 : Nat) = 75 by decide), if_true]
    rw [Z7 (x := { x with State := 3, Files := 0 }) (show (0 : Int) ≤ (w : Int) by omega) hx2 hep, if_pos rfl]
    rfl) fun _ => SF) ?_
   rw [if_pos rfl, if_pos hgf]
   have hx3 : (zT (ret c w x) w { x with State := 3, Files := 0 }).Vols[w]? = some { x with State := 1, Files := 0, Epoch := x.Epoch + 1 } := by
    show ((ret c w x).Vols.set _ _)[_]? = _
    rw [show ((w : Int)).toNat = w from by simp] at hx2 ⊢
    rw [List.getElem?_set_self (List.getElem?_eq_some_iff.1 hx2).1]
   have hlen : ((zT (ret c w x) w { x with State := 3, Files := 0 }).Vols.length : Int) = c.Vols.length := by simp [zT, ret]
   have hoff : ∀ y ∈ (zT (ret c w x) w { x with State := 3, Files := 0 }).Chunks, ∀ l ∈ y.Locs, l.Vol ≠ (w : Int) := fun y hy => (GR.cl y hy).off hx2 (show (3 : Int) ≠ 2 by decide)
   have hsn : ((zT (ret c w x) w { x with State := 3, Files := 0 }).Snaps.length : Int) = c.Snaps.length := by simp [zT, ret]
   have hsq : (zT (ret c w x) w { x with State := 3, Files := 0 }).Seq = c.Seq := rfl
   have L4 := H8 (n := 0) (c := c) (p := p) hF SF hw' hoff
   generalize zT (ret c w x) w { x with State := 3, Files := 0 } = f at SF hgf hx3 hlen hoff hsn hsq L4 ⊢
   refine .of (a := true) ?_ rfl
   simp only [bT, hx3, Option.bind_some, U3 hF SF, hgf, L4, hsn, hsq, hlen, J0, aW, wr (n := x.Epoch + 1) (by omega) (by omega)]
   rw [show decide ((c.Vols.length : Int) ≤ (w : Int)) = false from decide_eq_false (by omega)]
   simp [aW]
  ·rw [if_neg hgr]
   refine .ite (fun _ => ?_) fun h => by simp at h
   refine .of (a := true) ?_ rfl
   rw [H7 (z := (i8, 1)) hF h hw' rfl J0]
   have : c.Chunks.any (C3 c w) = true := by
    cases e : c.Chunks.any (C3 c w) with
    | true => rfl
    | false => exact absurd (pO.2 (H5 G (show (0 : Int) ≤ (w : Int) by omega) hx' e)) hgr
   rw [this]
   rfl
 obtain ⟨b, hb, rfl⟩ := key
 exact hb
end Go.Proofs.YtbbifdfldpfphaaGreat
