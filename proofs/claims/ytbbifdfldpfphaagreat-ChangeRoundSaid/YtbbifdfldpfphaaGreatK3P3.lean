import Derived.Test.YtbbifdfldpfphaaGreatK3P2
import Derived.Test.YtbbifdfldpfphaaGreatProg
set_option linter.unusedSimpArgs false
set_option linter.unusedVariables false
set_option maxHeartbeats 4000000
set_option maxRecDepth 100000
namespace Go.Vm
section
variable {P : Program} {h : aH} {n : Nat}
def LX (h : aH) (n : Nat) (f : FR) (L : HL) (g : FR) (L' : HL) : Prop := bS h L → bS h L' ∧ gY (fm n g.k) (hp h L') (fm n f.k) (hp h L)
theorem lx {f g : FR} {L : HL} (hf : FT (hp h L) n f.k g.k) : LX h n f L g L := fun hk => ⟨hk, gY.s hf⟩
theorem kR {f g : FR} {L L' : HL} (σ : List Nat) (hL : pick σ L = L') (ho : (σ ++ rA σ L.length).isPerm (List.range L.length) = true) (hf : FT (hp h L') n f.k g.k) : LX h n f L g L' := fun hk => by
 subst hL
 obtain ⟨h1, h2⟩ := bO hk σ ho
 exact ⟨h1, gY.fm h2 hf⟩
structure GN {τ σ ρ : Type} (h : aH) (n : Nat) (J : τ → σ → Prop) (sl : τ → σ → FR) (Lg : τ → σ → HL) (w : σ → Lp σ ρ) (x : Lp σ ρ) (f : FR) (L : HL) : Prop where
 g : ∃ s g, x = w s ∧ J g s ∧ LX h n f L (sl g s) (Lg g s)
inductive GE {τ σ ρ : Type} (h : aH) (n : Nat) (J : τ → σ → Prop) (sl : τ → σ → FR) (Lg : τ → σ → HL) (id : Option Nat) (ke : Exit → FR → HL → Prop) (o : ρ) (x : Lp σ ρ) (e : Exit) (f : FR) (L : HL) : Prop
 | b (i : Nat) (hi : id = some i) (he : e = .exit i) (q : GN h n J sl Lg .brk x f L)
 | r (y : ρ) (hx : x = .ret y) (h1 : e ≠ .normal) (h2 : ∀ i, id = some i → e ≠ .exit i) (k : y = o → ke e f L)
theorem fH {τ σ ρ : Type} {J : τ → σ → Prop} {sl : τ → σ → FR} {Lg : τ → σ → HL} {w : σ → Lp σ ρ} {x : Lp σ ρ} {f : FR} {L : HL} {s : σ} (hm : some (w s) = some x) (g : τ) (j : J g s) (le : LX h n f L (sl g s) (Lg g s)) : GN h n J sl Lg w x f L :=
 ⟨s, g, (Option.some.inj hm).symm, j, le⟩
theorem lD {τ σ ρ : Type} {J : τ → σ → Prop} {sl : τ → σ → FR} {Lg : τ → σ → HL} {i : Nat} {ke : Exit → FR → HL → Prop} {o : ρ} {x : Lp σ ρ} {f : FR} {L : HL} {s : σ} (hm : some (.brk s) = some x) (g : τ) (j : J g s) (le : LX h n f L (sl g s) (Lg g s)) : GE h n J sl Lg (some i) ke o x (.exit i) f L :=
 .b i rfl rfl (fH hm g j le)
theorem bD {σ ρ : Type} {sl : Unit → σ → FR} {Lg : Unit → σ → HL} {w : σ → Lp σ ρ} {x : Lp σ ρ} {f : FR} {L : HL} {s : σ} (hm : some (w s) = some x) (le : LX h n f L (sl () s) (Lg () s)) : GN h n (fun _ _ => True) sl Lg w x f L := fH hm () trivial le
theorem iS {σ ρ : Type} {sl : Unit → σ → FR} {Lg : Unit → σ → HL} {i : Nat} {ke : Exit → FR → HL → Prop} {o : ρ} {x : Lp σ ρ} {f : FR} {L : HL} {s : σ} (hm : some (.brk s) = some x) (le : LX h n f L (sl () s) (Lg () s)) : GE h n (fun _ _ => True) sl Lg (some i) ke o x (.exit i) f L := lD hm () trivial le
theorem gA {τ σ ρ : Type} {J : τ → σ → Prop} {sl : τ → σ → FR} {Lg : τ → σ → HL} {id : Option Nat} {ke : Exit → FR → HL → Prop} {o y : ρ} {x : Lp σ ρ} {f : FR} {L : HL} (hm : some (.ret y) = some x) (k : some y = some o → ke .ret f L) : GE h n J sl Lg id ke o x .ret f L :=
 .r y (Option.some.inj hm).symm nofun (fun _ _ => nofun) fun e => k (by rw [e])
theorem YH {τ σ ρ : Type} {J : τ → σ → Prop} {sl : τ → σ → FR} {Lg : τ → σ → HL} {id : Option Nat} {i : Nat} {ke : Exit → FR → HL → Prop} {o y : ρ} {x : Lp σ ρ} {f : FR} {L : HL} (hm : some (.ret y) = some x) (hi : (match id with | some j => Nat.beq i j | none => false) = false) (k : some y = some o → ke (.exit i) f L) : GE h n J sl Lg id ke o x (.exit i) f L :=
 .r y (Option.some.inj hm).symm nofun (fun j hj e => by subst hj; cases e; simp only [Nat.beq_refl] at hi; cases hi) fun e => k (by rw [e])
theorem LX.le {f g : FR} {L L' : HL} {fr : Fr} {hh : aH} (le : LX h n f L g L') (hk : bS h L) (l0 : gY (fm n f.k) (hp h L) fr hh) : bS h L' ∧ gY (fm n g.k) (hp h L') fr hh :=
 let ⟨h1, h2⟩ := le hk; ⟨h1, l0.trans h2⟩
theorem lT {τ σ ρ : Type} {id : Nat} {c : Code} {kn : FR → HL → Prop} {ke : Exit → FR → HL → Prop} {f : FR} {L : HL} {step : σ → Option (Lp σ ρ)} {fuel : Nat} {s0 : σ} {k : σ → Option ρ} {o : ρ} (hm : after (aY step fuel s0) k = some o)
    (Lg : τ → σ → HL) (J : τ → σ → Prop) (sl : τ → σ → FR) (g0 : τ) (i0 : J g0 s0) (h0 : LX h n f L (sl g0 s0) (Lg g0 s0))
    (round : ∀ g s x, J g s → step s = some x → VC P h n c (GN h n J sl Lg .go x) (GE h n J sl Lg (some id) ke o x) (sl g s) (Lg g s))
    (next : ∀ g s, J g s → k s = some o → kn (sl g s) (Lg g s)) : VC P h n (.block id (.loop c)) kn ke f L := by
  refine ⟨fun hkL => sJ ?_⟩
  obtain ⟨out, hout, hk⟩ : ∃ out, aY step fuel s0 = some out ∧ ((∃ s, out = .brk s ∧ k s = some o) ∨ ∃ r, out = .ret r ∧ r = o) := by
    cases e : aY step fuel s0 with
    | none => rw [e] at hm; cases hm
    | some out =>
      rw [e] at hm
      cases out with
      | go s => cases hm
      | brk s => exact ⟨_, rfl, .inl ⟨s, rfl, hm⟩⟩
      | ret r => exact ⟨_, rfl, .inr ⟨r, rfl, Option.some.inj hm⟩⟩
  obtain ⟨hk1, le1⟩ := h0 hkL
  refine C5 (fun m fr' h' => ∃ s, aY step m s = some out ∧ ∃ g, J g s ∧ bS h (Lg g s) ∧ gY (fm n (sl g s).k) (hp h (Lg g s)) fr' h') fuel ⟨s0, hout, g0, i0, hk1, le1⟩ ?_
  rintro m fr' h' ⟨s, hs, g, hj, hk2, hle⟩
  cases m with
  | zero => cases hs
  | succ m =>
    simp only [aY] at hs
    cases e : step s with
    | none => rw [e] at hs; cases hs
    | some x =>
      rw [e] at hs
      refine hle.aw (((round g s x hj e).r hk2).mono ?_)
      rintro ex fr'' h'' ⟨f1, L1, hk3, le3, q⟩
      cases ex with
      | normal =>
        obtain ⟨s', g', rfl, j', le4⟩ := q.g
        obtain ⟨hk5, le5⟩ := le4.le hk3 le3
        exact ⟨m, Nat.lt_succ_self m, s', hs, g', j', hk5, le5⟩
      | exit i =>
        cases q with
        | b i' hi he q =>
          cases hi; cases he
          obtain ⟨s', g', rfl, j', le4⟩ := q.g
          obtain ⟨hk5, le5⟩ := le4.le hk3 le3
          cases hs
          simp only [Seq, E8, if_true]
          rcases hk with ⟨s2, e2, hk⟩ | ⟨r, e2, _⟩
          · cases e2; exact ⟨_, _, hk5, le5, next _ _ j' hk⟩
          · cases e2
        | r y hx h1 h2 k2 =>
          subst hx
          have : i ≠ id := fun e => h2 id rfl (by rw [e])
          cases hs
          simp only [Seq, E8, this, if_false]
          rcases hk with ⟨s2, e2, _⟩ | ⟨r', e2, e3⟩
          · cases e2
          · cases e2; exact ⟨_, _, hk3, le3, k2 e3⟩
      | goto l =>
        cases q with
        | b i' hi he q => cases he
        | r y hx h1 h2 k2 =>
          subst hx; cases hs
          rcases hk with ⟨s2, e2, _⟩ | ⟨r', e2, e3⟩
          · cases e2
          · cases e2; exact ⟨_, _, hk3, le3, k2 e3⟩
      | ret =>
        cases q with
        | b i' hi he q => cases he
        | r y hx h1 h2 k2 =>
          subst hx; cases hs
          rcases hk with ⟨s2, e2, _⟩ | ⟨r', e2, e3⟩
          · cases e2
          · cases e2; exact ⟨_, _, hk3, le3, k2 e3⟩
      | panic c =>
        cases q with
        | b i' hi he q => cases he
        | r y hx h1 h2 k2 =>
          subst hx; cases hs
          rcases hk with ⟨s2, e2, _⟩ | ⟨r', e2, e3⟩
          · cases e2
          · cases e2; exact ⟨_, _, hk3, le3, k2 e3⟩
      | outgrown =>
        cases q with
        | b i' hi he q => cases he
        | r y hx h1 h2 k2 =>
          subst hx; cases hs
          rcases hk with ⟨s2, e2, _⟩ | ⟨r', e2, e3⟩
          · cases e2
          · cases e2; exact ⟨_, _, hk3, le3, k2 e3⟩
theorem pX {τ σ ρ : Type} {c : Code} {kn : FR → HL → Prop} {ke : Exit → FR → HL → Prop} {f : FR} {L : HL} {m : Option (Lp σ ρ)} {k : σ → Option ρ} {o : ρ} (hm : after m k = some o)
    (Lg : τ → σ → HL) (J : τ → σ → Prop) (sl : τ → σ → FR)
    (hc : ∀ x, m = some x → VC P h n c (GN h n J sl Lg .brk x) (GE h n J sl Lg none ke o x) f L)
    (next : ∀ g s, J g s → k s = some o → kn (sl g s) (Lg g s)) : VC P h n c kn ke f L := by
  refine ⟨fun hkL => ?_⟩
  cases e : m with
  | none => rw [e] at hm; cases hm
  | some x =>
    rw [e] at hm
    refine ((hc x e).r hkL).mono ?_
    have fin : ∀ {ex : Exit} {f1 : FR} {L1 : HL}, GE h n J sl Lg none ke o x ex f1 L1 → ex ≠ .normal ∧ ke ex f1 L1 := by
      intro ex f1 L1 q
      cases q with
      | b i hi he q => cases hi
      | r y hx h1 h2 k2 => subst hx; exact ⟨h1, k2 (Option.some.inj hm)⟩
    rintro ex fr'' h'' ⟨f1, L1, hk3, le3, q⟩
    cases ex with
    | normal =>
      obtain ⟨s', g', rfl, j', le4⟩ := q.g
      obtain ⟨hk5, le5⟩ := le4.le hk3 le3
      exact ⟨_, _, hk5, le5, next _ _ j' hm⟩
    | exit i => exact ⟨_, _, hk3, le3, (fin q).2⟩
    | goto l => exact ⟨_, _, hk3, le3, (fin q).2⟩
    | ret => exact ⟨_, _, hk3, le3, (fin q).2⟩
    | panic c => exact ⟨_, _, hk3, le3, (fin q).2⟩
    | outgrown => exact ⟨_, _, hk3, le3, (fin q).2⟩
theorem eO {τ σ ρ : Type} {id : Nat} {c : Code} {kn : FR → HL → Prop} {ke : Exit → FR → HL → Prop} {f : FR} {L : HL} {step : σ → Option (Lp σ ρ)} {fuel : Nat} {s0 : σ} {k : σ → Option ρ} {o : ρ} (hm : after (aY step fuel s0) k = some o)
    (Lg : τ → σ → HL) (sl : τ → σ → FR) (g0 : τ) (h0 : LX h n f L (sl g0 s0) (Lg g0 s0))
    (round : ∀ g s x, step s = some x → VC P h n c (GN h n (fun _ _ => True) sl Lg .go x) (GE h n (fun _ _ => True) sl Lg (some id) ke o x) (sl g s) (Lg g s))
    (next : ∀ g s, k s = some o → kn (sl g s) (Lg g s)) : VC P h n (.block id (.loop c)) kn ke f L :=
  lT hm Lg (fun _ _ => True) sl g0 trivial h0 (fun g s x _ => round g s x) (fun g s _ => next g s)
theorem cW {τ σ ρ : Type} {c : Code} {kn : FR → HL → Prop} {ke : Exit → FR → HL → Prop} {f : FR} {L : HL} {m : Option (Lp σ ρ)} {k : σ → Option ρ} {o : ρ} (hm : after m k = some o)
    (Lg : τ → σ → HL) (sl : τ → σ → FR)
    (hc : ∀ x, m = some x → VC P h n c (GN h n (fun _ _ => True) sl Lg .brk x) (GE h n (fun _ _ => True) sl Lg none ke o x) f L)
    (next : ∀ g s, k s = some o → kn (sl g s) (Lg g s)) : VC P h n c kn ke f L :=
  pX hm Lg (fun _ _ => True) sl hc (fun g s _ => next g s)
theorem B4 {f : FR} {L : HL} (e : iH) (t : Nat) (v : AV) (hv : aX (hp h L) (lk n f.k t) v) (hk : bS h L) : bS h ((none, e) :: L) ∧ gY (fm n (FR.c t v f).k) (hp h ((none, e) :: L)) (fm n f.k) (hp h L) := ⟨bS.none hk, gY.put (gX.refl _) hv⟩
theorem PJ {f : FR} {L : HL} {k : bZ} {ty : TypeId} {cs : List AV} (e : iH) (i : Nat) (cs' : List AV) (hi : ((none, e) :: L)[i]? = some (some k, .obj ty cs)) (hl : cO (hp h L) cs cs') (hk : bS h L) :
    bS h (((none, e) :: L).set i (some k, .obj ty cs')) ∧ gY (fm n f.k) (hp h (((none, e) :: L).set i (some k, .obj ty cs'))) (fm n f.k) (hp h L) := gY.obj (L := (none, e) :: L) i cs' (bS.none hk) hi hl
def xL : Nat → List AV → FR
 | _, [] => .nil
 | i, x :: xs => .c i x (xL (i + 1) xs)
theorem B5 : ∀ (i : Nat) (xs : List AV), (xL i xs).k = wU i xs
 | _, [] => rfl
 | i, x :: xs => by simp only [xL, wU, FR.k, B5 (i + 1) xs]
structure RV (P : Program) (rs : List ResultVar) (Q : AV → aH → Prop) (h : aH) (n : Nat) (e : Exit) (f : FR) (L : HL) : Prop where
 r : bS h L → IB (dY P rs Q) e (fm n f.k) (hp h L)
theorem AE {f : FuncId} {fn : Func} {c : Code} {args : List AV} {Q : AV → aH → Prop} {L : HL} (hk : bS h L) (n : Nat) (rs : List ResultVar) (hf : P.funcs[f]? = some fn) (hb : fn.body = some c) (hn : fn.ntmps = n) (hr : fn.results.toList = rs) (hle : Nat.ble args.length n = true)
    (hc : VC P h n c (RV P rs Q h n .normal) (RV P rs Q h n) (xL 0 args) L) : aP P f args (hp h L) Q := by
  have hc := hc.r hk
  rw [B5] at hc
  refine vS n rs hf hb hn hr hle (PE (hc.mono ?_))
  rintro e fr hh ⟨f', L', hk, le, q⟩
  have fin : RV P rs Q h n e f' L' → IB (dY P rs Q) e fr hh := fun q => let ⟨fr2, h2, le2, q2⟩ := q.r hk; ⟨fr2, h2, le.trans le2, q2⟩
  cases e with
  | normal => exact fin q
  | exit i => exact fin q
  | goto l => exact fin q
  | ret => exact fin q
  | panic c => exact fin q
  | outgrown => exact fin q
theorem fW {f : FuncId} {fn : Func} {c : Code} {args : List AV} {Q : AV → aH → Prop} (n : Nat) (rs : List ResultVar) (hf : P.funcs[f]? = some fn) (hb : fn.body = some c) (hn : fn.ntmps = n) (hr : fn.results.toList = rs) (hle : Nat.ble args.length n = true)
    (hc : VC P h n c (RV P rs Q h n .normal) (RV P rs Q h n) (xL 0 args) []) : aP P f args h Q := AE (L := []) trivial n rs hf hb hn hr hle hc
theorem vr {rs : List ResultVar} {Q : AV → aH → Prop} {e : Exit} {f : FR} {L : HL} (k : bS h L → dY P rs Q e (fm n f.k) (hp h L)) : RV P rs Q h n e f L := ⟨fun hk => IB.mk gY.rfl' (k hk)⟩
theorem TJ {rs : List ResultVar} {Q : AV → aH → Prop} {e : Exit} {f : FR} {L : HL} (k : bS h L → IB (dY P rs Q) e (fm n f.k) (hp h L)) : RV P rs Q h n e f L := ⟨k⟩
theorem FZ {L : HL} (hk : bS h L) : gX h (hp h L) := (aV (List.nil_sublist _) hk).1
theorem eM {t : Nat} {y : AV} {f : FR} {L : HL} {e : Exit} (hx : lk n f.k t = y) (he : e = .ret ∨ e = .normal := by first | exact .inl rfl | exact .inr rfl) : RV P [.tmp t] (fun r h' => r = y ∧ h' = h) h n e f L :=
 vr fun hk => dY.of1 he (fL _ _ y hx) (FZ hk) (aX.refl _ _) ⟨rfl, rfl⟩
theorem XL {t u : Nat} {y z : AV} {f : FR} {L : HL} {e : Exit} (hx : lk n f.k t = y) (hz : lk n f.k u = z) (he : e = .ret ∨ e = .normal := by first | exact .inl rfl | exact .inr rfl) : RV P [.tmp t, .tmp u] (fun r h' => r = .tup [y, z] ∧ h' = h) h n e f L :=
 vr fun hk => dY.of2 he (fL _ _ y hx) (fL _ _ z hz) (FZ hk) (aX.refl _ _) (aX.refl _ _) ⟨rfl, rfl⟩
theorem AG.mono {ops : Array Oper} {fs : List (Nat × Option bZ × iH)} {K K' : Fr → aH → Prop} (hk : ∀ fr h, K fr h → K' fr h) : ∀ {m : Nat} {S : Array Bool} {fr : Fr} {h : aH}, AG P ops fs K m S fr h → AG P ops fs K' m S fr h
  | 0, _, _, _, ⟨h1, h2⟩ => ⟨h1, hk _ _ h2⟩
  | m + 1, S, fr, h, ⟨h1, h2⟩ => ⟨fun e => hk _ _ (h1 e), fun i hi o ho => by
      rcases h2 i hi o ho with ⟨x, a, b⟩ | ⟨a, b⟩
      · exact .inl ⟨x, a, AG.mono hk b⟩
      · exact .inr ⟨a, b.mono fun x h' q => ⟨q.1, AG.mono hk q.2⟩⟩⟩
variable {q : Bool} {K : FR → HL → Prop} {f : FR} {L : HL} {dst : Option Tmp} {ty : TypeId} {pos : String} {dP : Array Edge} {ρ : Type} {r : ρ}
theorem qk {K : FR → HL → Prop} {f : FR} {L : HL} {hh : aH} (hk : bS h L) (e : hh = hp h L) (k : K f L) : QK h n K (fm n f.k) hh := by subst e; exact QK.of hk k
theorem vn {op : Op} {x : AV} (ho : bS h L → eI P ⟨dst, op, ty, pos, dP, none⟩ x (fm n f.k) (hp h L)) (k : K (f.put dst x) L) : VN q P h n ⟨dst, op, ty, pos, dP, none⟩ K f L :=
 ⟨fun _ hk => ⟨x, ho hk, k⟩, fun _ hk => (ho hk).mono fun x' h' e => by obtain ⟨rfl, rfl⟩ := e; exact QK.of hk k⟩
theorem ve {o : Oper} (ho : bS h L → iB P o (fun x h' => QK h n K (fm n (f.put o.dst x).k) h') (fm n f.k) (hp h L)) : VN false P h n o K f L := ⟨nofun, fun _ => ho⟩
theorem XM {K : AV → aH → Prop} {o : Oper} {x : AV} {fr : Fr} {hh : aH} (ho : eI P o x fr hh) (k : K x hh) : iB P o K fr hh := ho.mono fun x' h' e => by obtain ⟨rfl, rfl⟩ := e; exact k
theorem xM {K : AV → aH → Prop} {o : Oper} {h1 h2 : aH} {t : Nat} (v : AV) (hs : gX h2 h1) (hv : aX h2 (lk n f.k t) v) (ho : iB P o K (fm n (kp f.k t v)) h2) : iB P o K (fm n f.k) h1 := by
 intro E w a r hva Nx Qx hn
 obtain ⟨E', k, r'⟩ := r.drop hs
 refine ho E' w a r' (fun y hy => ?_) Nx Qx fun x u w' E'' h' k' => hn x u w' E'' h' (k.trans k')
 have h1 := jL k _ _ (hva y hy)
 rw [bG] at h1 ⊢
 cases y with
 | tmp s =>
  simp only [dN] at h1 ⊢
  by_cases e : t = s
  ·subst e
   have h3 := hv E' w _ r' h1
   rw [jK]
   split
   ·rw [jN]; exact h3
   ·simp only [VR]
  ·rw [jK] at h1 ⊢
   rw [nY _ _ e]; exact h1
 | const v => exact h1
 | global g => exact h1
 | func g => exact h1
theorem vz {id : Nat} {l : List Oper} {kn : FR → HL → Prop} (fs : List (Nat × Option bZ × iH)) (hm : P.follows .mixedOrders = true) (hI : bS h L → bR fs (Array.replicate l.length false) (hp h L))
    (hl : bS h L → FO P l.toArray fs (QK h n kn) l.length (Array.replicate l.length false) (fm n f.k) (hp h L)) : VD P h n id l.toArray kn f L :=
  ⟨fun hk => IT (Q := fun e fr hh => e = .normal ∧ QK h n kn fr hh) fs hm (hI hk) fun hi => (AG.mono fun _ _ q => ⟨rfl, q⟩) (hl hk hi)⟩
theorem vi {b : Bool} {X Y : Prop} {x y : Option ρ} (hm : (if b = true then x else y) = some r) (ht : b = true → x = some r → X) (hf : b = false → y = some r → Y) : E5 b X Y := by
 cases b
 ·exact hf rfl (by simpa using hm)
 ·exact ht rfl (by simpa using hm)
theorem vt {b : Bool} {X Y : Prop} (hb : b = true) (k : X) : E5 b X Y := by subst hb; exact k
theorem vf {b : Bool} {X Y : Prop} (hb : b = false) (k : Y) : E5 b X Y := by subst hb; exact k
theorem J7 {b : Bool} {X Y : Prop} {k : Option ρ} (hm : grd b k = some r) (hx : b = true → k = some r → X) : E5 b X Y := let ⟨h1, h2⟩ := lX hm; vt h1 (hx h1 h2)
theorem vx {α : Type} {c : α → List AV} {xs : List α} {i : Int} {kk : α → Option ρ} {a b : Operand} {t : TypeId} {tag : Option bZ} {sz : Nat} {m : IntKind} (hm : (ix xs i).bind kk = some r) (he : lS P t = some sz) (ha : dN n f.k a = .sl tag sz (xs.map c)) (hb : dN n f.k b = .sc (.int m i))
    (k : ∀ x, ix xs i = some x → kk x = some r → K (f.put dst (.rp tag (c x))) L) : VN q P h n ⟨dst, .indexAddr t a b, ty, pos, dP, none⟩ K f L :=
  let ⟨x, h1, h2⟩ := aC hm; vn (fun _ => mL h1 he ha hb) (k x h1 h2)
theorem vl {a : Operand} {t : TypeId} {p : bZ} {off : Nat} {oty : TypeId} {cs : List AV} {ag : Bool} {m : Nat} (i : Nat) (x : AV) (ht : kQ P t = some (ag, m)) (ha : dN n f.k a = .ptr p off) (hi : L[i]? = some (some p, .obj oty cs)) (hx : BM ag m (cs.drop off) = some x) (k : K (f.put dst x) L) :
    VN q P h n ⟨dst, .load t a, ty, pos, dP, none⟩ K f L := vn (fun hk => bH x ht ha (bB i hk hi) hx) k
theorem va {a : Operand} {t : TypeId} {tag : Option bZ} {cs : List AV} {ag : Bool} {m : Nat} (x : AV) (ht : kQ P t = some (ag, m)) (ha : dN n f.k a = .rp tag cs) (hx : BM ag m cs = some x) (k : K (f.put dst x) L) :
    VN q P h n ⟨dst, .load t a, ty, pos, dP, none⟩ K f L := vn (fun _ => mW x ht ha hx) k
theorem dH {α : Type} {e : α → List AV} {xs : List α} {a : Operand} {t : TypeId} {tag : Option bZ} {sz : Nat} (ht : rG P t = some true) (ha : dN n f.k a = .sl tag sz (xs.map e)) (k : K (f.put dst (.sc (.int .i64 xs.length))) L) :
    VN q P h n ⟨dst, .call { callee := .builtin .len, args := #[a], argTypes := #[t] }, ty, pos, dP, none⟩ K f L := vn (fun _ => qB ht ha) k
theorem vk {α : Type} {m : Option α} {kk : α → Option ρ} {e : α → AV} {fid : FuncId} {g : Operand} {args : Array Operand} {ts : Array TypeId} {caps az : List AV} (hc : ∀ {y : α} (h : aH), m = some y → aP P fid az h (fun r h' => r = e y ∧ h' = h)) (hb : aU P fid = true) (hm : m.bind kk = some r)
    (hg : dN n f.k g = .fn (.func fid) caps) (ha : args.toList.map (dN n f.k) ++ caps = az) (k : ∀ y, kk y = some r → K (f.put dst (e y)) L) :
    VN q P h n ⟨dst, .call { callee := .value g, args := args, argTypes := ts }, ty, pos, dP, none⟩ K f L :=
  let ⟨_, h1, h2⟩ := aC hm; vn (fun _ => cE (hc _ h1) hg hb ha) (k _ h2)
theorem val {t : TypeId} {zs : List Value} (cs : List AV) (hz : p8 P t = some zs) (ho : zs.all (·.oneCell') = true) (hcs : zs.map AV.sc = cs) (k : ∀ q : bZ, K (f.put dst (.ptr q 0)) ((some q, .obj t cs) :: L)) : VN false P h n ⟨dst, .alloc t, ty, pos, dP, none⟩ K f L :=
 ve fun hk => bE cs hk hz ho hcs fun q hk' => qk hk' rfl (k q)
end
def SY (t : Option bZ) (off n : Nat) : AV := match t with
 | none => .any
 | some k => .view k off n
section ops
variable {P : Program} {h h0 : aH} {L : HL} {n : Nat} {kvs : KV} {ty : TypeId} {pos : String} {dP : Array Edge}
theorem B6 {dst : Option Tmp} {s : Nat} {lo : Operand} {t : TypeId} {g : dD} {m sz : Nat} {q : IntKind} {i : Int} (hi : (decide (0 ≤ i) && decide (i < (m : Int))) = true) (ht : lS P t = some sz) (ok : bJ g sz m) (ha : lk n kvs s = aw g.t g.n g.cap) (hb : dN n kvs lo = .sc (.int q i)) :
    eI P ⟨dst, .slice t (.tmp s) (some lo) none none, ty, pos, dP, none⟩ (SY g.t (i.toNat * sz) (m - i.toNat)) (fm n kvs) h := by
  simp only [Bool.and_eq_true, decide_eq_true_eq] at hi
  rw [ok.eqn] at ha
  cases ht' : g.t with
  | none => have := ok.nil ht'; omega
  | some k =>
    rw [ht'] at ha
    have hT : zM P t = true := by simp [zM, ht]
    refine o1 (s := s) (.view k 0 m) (by rw [ha]; exact xB _ _ _ _) (iJ (c := 0 ≤ i ∧ i < (m : Int) ∧ (m : Int) ≤ m) ?_ ⟨hi.1, hi.2, by omega⟩)
    have e : dN n (kp kvs s (.view k 0 m)) (.tmp s) = .view k 0 m := AA ha (by simp [aw])
    have e2 : dN n (kp kvs s (.view k 0 m)) lo = .sc (.int q i) := BW ha (by simp [aw]) hb
    simp only [pv, bG, e, Option.map_some, e2, Option.map_none, wN, ht, Option.bind_some, mJ, jC, hT, if_true, SY, Nat.zero_add, Int.toNat_natCast]
theorem B7 {dst : Option Tmp} {s : Nat} {hi : Operand} {t : TypeId} {g : dD} {m sz : Nat} {q : IntKind} {i : Int} (hi' : (decide (0 ≤ i) && decide (i ≤ (m : Int))) = true) (ok : bJ g sz m) (ht : lS P t = some sz) (ha : dN n kvs (.tmp s) = aw g.t g.n g.cap) (hb : dN n kvs hi = .sc (.int q i)) :
    eI P ⟨dst, .slice t (.tmp s) none (some hi) none, ty, pos, dP, none⟩ (aw g.t i.toNat g.cap) (fm n kvs) h := by
  have hn : g.t = none → g.n = 0 := fun e => ok.eqn.trans (ok.nil e)
  have hc : g.n ≤ g.cap := by rw [ok.eqn]; exact ok.le
  rw [← ok.eqn] at hi'
  obtain ⟨tg, n0, cap, sp⟩ := g
  simp only at hn hc ha hi' ⊢
  simp only [Bool.and_eq_true, decide_eq_true_eq] at hi'
  obtain ⟨e, hu, he⟩ := fO ht
  cases tg with
  | none =>
    have := hn rfl
    have hi0 : i = 0 := by omega
    subst hi0
    have hT : zM P t = true := by simp [zM, ht]
    have ha : dN n kvs (.tmp s) = .e0 := ha
    refine iJ (c := (0 : Int) = 0 ∧ (0 : Int) = 0) ?_ ⟨rfl, rfl⟩
    simp only [pv, bG, ha, Option.map_some, hb, Option.map_none, wN, ht, Option.bind_some, mJ, jC, hT, if_true]
    rfl
  | some k =>
    have ha : dN n kvs (.tmp s) = .vw k n0 cap := ha
    refine eR (x := .vw k i.toNat cap) (fun E w ac r hv => ?_) ⟨rfl, rfl⟩
    have va := hv (.tmp s) (by simp [Op.operands])
    have vb := hv hi (by simp [Op.operands])
    rw [bG, ha] at va; rw [bG, hb] at vb
    simp only [VR] at va vb
    obtain ⟨g, hg, e1, e2, e3⟩ := va
    have hbd := fQ (P := P) (w := w) (sl := true) (len := n0) (cap := cap) (l := 0) (h := i) (lo := none) (hi := some (.sc (.int q i))) (lv := none) (hv := some (.int q i)) rfl rfl (E := E) nofun (fun _ => rfl)
      (fun x hx => by cases hx; exact ⟨_, rfl, by simp only [VR]⟩) nofun (by omega) hi'.1 (by omega)
    refine ⟨.slice (some ⟨g, 0, none⟩) i.toNat cap, ?_, by simp only [VR]; exact ⟨g, hg, rfl, by omega, e3⟩⟩
    by_cases hz : cap = 0
    · subst hz
      have hi0 : i.toNat = 0 := by omega
      simp [execOp, e1, vb, Instr.sliceAt, Instr.slice, run_underlying hu, hbd, cP he, hi0]
    · have : ¬ cap = (0 : Int).toNat := by simpa using hz
      simp [execOp, e1, vb, Instr.sliceAt, Instr.slice, run_underlying hu, hbd, cP he, hz, Addr.add]
theorem F0 {K : AV → aH → Prop} {α : Type} {c : α → List AV} {xs : List α} {dst : Option Tmp} {t e : TypeId} {x : Operand} {g : dD} {sz : Nat} {zs : List Value} {i : Int} (p : Nat) (hk : bS h0 L) (hi : (decide (0 ≤ i) && decide (i < (xs.length : Int))) = true) (hc : ∀ y, (c y).length = sz) (ok : bJ g sz xs.length)
    (hu : P.underlying t = some (.slice e)) (hz : p8 P e = some zs) (hzl : zs.length = sz) (hzo : zs.all (·.oneCell') = true) (ha : dN n kvs x = SY g.t (i.toNat * sz) (xs.length - i.toNat)) (hL : L[p]? = some (g.t, .obj e (fl c xs g.sp)))
    (k : ∀ sp : List AV, bJ ⟨g.t, i.toNat, g.cap, sp⟩ sz (xs.take i.toNat).length → bS h0 (L.set p (g.t, .obj e (fl c (xs.take i.toNat) sp))) → K (.tup []) (hp h0 (L.set p (g.t, .obj e (fl c (xs.take i.toNat) sp))))) :
    iB P ⟨dst, .call { callee := .builtin .clear, args := #[x], argTypes := #[t] }, ty, pos, dP, none⟩ K (fm n kvs) (hp h0 L) := by
  simp only [Bool.and_eq_true, decide_eq_true_eq] at hi
  obtain ⟨i1, i2⟩ := hi
  have hil : i.toNat < xs.length := by omega
  cases ht' : g.t with
  | none => have := ok.nil ht'; omega
  | some q =>
    rw [ht'] at ha hL k
    have hq := bB p hk hL
    have hfl : (fl c xs g.sp).length = xs.length * sz + g.sp.length := FU hc xs g.sp
    have hm : (xs.length - i.toNat) * sz + i.toNat * sz = xs.length * sz := by rw [← Nat.add_mul]; congr 1; omega
    have htk : (xs.take i.toNat).length = i.toNat := by rw [List.length_take]; omega
    have key := k (List.replicate ((xs.length - i.toNat) * sz) .any ++ g.sp) ⟨htk.symm, nofun, by rw [htk]; exact Nat.le_trans (Nat.le_of_lt hil) ok.le, ok.mx, by
      rw [htk, List.length_append, List.length_replicate]
      have := ok.len
      simp only
      omega⟩
    obtain ⟨h1, h2, _⟩ := iC (e' := .obj e (fl c (xs.take i.toNat) (List.replicate ((xs.length - i.toNat) * sz) .any ++ g.sp))) p hk hL (.inl rfl)
    have key := key h2
    rw [← h1] at key
    intro E w a r hv Nx Qx hn
    have vx := hv x (by simp [Op.operands, Call.operands])
    rw [bG, ha] at vx
    simp only [SY, VR] at vx
    obtain ⟨gg, cap, hg, ex, hc1, hc2⟩ := vx
    obtain ⟨g', cur, f1, f2, f3, f4⟩ := r.obj q e _ hq
    rw [hg] at f1; cases f1
    have hcl : xs.length * sz + g.sp.length = cur.size := by rw [← hfl]; simpa using cT f3
    unfold p8 at hz
    cases hinf : P.info? e with
    | none => rw [hinf] at hz; simp at hz
    | some ii =>
    cases hzz : ii.zero with
    | none => rw [hinf] at hz; simp [hzz] at hz
    | some z =>
    rw [hinf] at hz
    simp only [Option.bind_some, hzz, Option.map_some, Option.some.injEq] at hz
    subst hz
    have hzs : z.cells.size = sz := by simpa using hzl
    have hzc : ∀ v ∈ (Builtin.zeroCells z.cells (xs.length - i.toNat)).toList, v.oneCell' = true := iE (List.all_eq_true.1 hzo)
    have hzn : (Builtin.zeroCells z.cells (xs.length - i.toNat)).toList.length = (xs.length - i.toNat) * sz := by rw [Array.length_toList, size_zeroCells, hzs]
    have hst := run_storeCells_at P gg (i.toNat * sz) e (Builtin.zeroCells z.cells (xs.length - i.toNat)).toList 0 cur w f2 (by rw [hzn]; omega) hzc
    rw [hzn] at hst
    simp only [Nat.add_zero] at hst
    have hspl : fl c (xs.take i.toNat) (List.replicate ((xs.length - i.toNat) * sz) .any ++ g.sp) = (fl c xs g.sp).take (i.toNat * sz) ++ List.replicate ((xs.length - i.toNat) * sz) .any ++ (fl c xs g.sp).drop (i.toNat * sz + (xs.length - i.toNat) * sz) := by
      have e1 : (xs.map c).flatten = ((xs.take i.toNat).map c).flatten ++ ((xs.drop i.toNat).map c).flatten := by
        rw [← List.flatten_append, ← List.map_append, List.take_append_drop]
      have l1 : ((xs.take i.toNat).map c).flatten.length = i.toNat * sz := by rw [kG hc, htk]
      have l2 : (xs.map c).flatten.length = xs.length * sz := kG hc xs
      unfold fl
      rw [show i.toNat * sz + (xs.length - i.toNat) * sz = (xs.map c).flatten.length from by rw [l2]; omega, List.drop_left]
      rw [e1, ← l1]
      simp only [List.append_assoc, List.take_left']
    have hv' : cL E w (fl c (xs.take i.toNat) (List.replicate ((xs.length - i.toNat) * sz) .any ++ g.sp)) (cur.toList.take (i.toNat * sz) ++ (Builtin.zeroCells z.cells (xs.length - i.toNat)).toList ++ cur.toList.drop (i.toNat * sz + (xs.length - i.toNat) * sz)) := by
      rw [hspl]
      exact cU (cU (fN _ f3) (oR _ hzn)) (hC _ f3)
    have h1' : ∀ v ∈ cur.toList.take (i.toNat * sz) ++ (Builtin.zeroCells z.cells (xs.length - i.toNat)).toList ++ cur.toList.drop (i.toNat * sz + (xs.length - i.toNat) * sz), v.oneCell' = true := by
      intro v hv
      rcases List.mem_append.1 hv with hv | hv
      · rcases List.mem_append.1 hv with hv | hv
        · exact f4 v (List.mem_of_mem_take hv)
        · exact hzc v hv
      · exact f4 v (List.mem_of_mem_drop hv)
    obtain ⟨k1, k2⟩ := r.set_obj (cur := (cur.toList.take (i.toNat * sz) ++ (Builtin.zeroCells z.cells (xs.length - i.toNat)).toList ++ cur.toList.drop (i.toNat * sz + (xs.length - i.toNat) * sz)).toArray) hq hg
      (w' := w.setRow gg (cur.toList.take (i.toNat * sz) ++ (Builtin.zeroCells z.cells (xs.length - i.toNat)).toList ++ cur.toList.drop (i.toNat * sz + (xs.length - i.toNat) * sz)).toArray)
      (setRow_heap w gg cur _ e _ f2) (fun g' hg' => setRow_other w gg g' _ hg') (by simp) rfl rfl rfl hv' h1'
    unfold Oper.wp
    have hpos : ¬ xs.length - i.toNat = 0 := by omega
    have hzv : (zeroValue e).run P w = .ok z w := by simp [zeroValue, typeInfo, hinf, hzz]
    have hrun : (Builtin.clear_ #[t] ty #[.slice (some ⟨gg, i.toNat * sz, none⟩) (xs.length - i.toNat) cap]).run P w = .ok (.tuple #[]) (w.setRow gg (cur.toList.take (i.toNat * sz) ++ (Builtin.zeroCells z.cells (xs.length - i.toNat)).toList ++ cur.toList.drop (i.toNat * sz + (xs.length - i.toNat) * sz)).toArray) := by
      simp [Builtin.clear_, run_underlying hu, hzv, hst, hpos]
    have hex : (execOp a.eval ⟨dst, .call { callee := .builtin .clear, args := #[x], argTypes := #[t] }, ty, pos, dP, none⟩).run P w = .ok (.value (.tuple #[])) (w.setRow gg (cur.toList.take (i.toNat * sz) ++ (Builtin.zeroCells z.cells (xs.length - i.toNat)).toList ++ cur.toList.drop (i.toNat * sz + (xs.length - i.toNat) * sz)).toArray) := by
      simp only [execOp, resolve, invoke, builtin, List.map_toArray, List.map_cons, List.map_nil, ex, Sem.run_bind, Sem.run_pure, Result.andThen_ok, hrun]
    rw [hex]
    exact hn (.tup []) (.tuple #[]) _ E _ k1 k2 (by simp only [VR]; exact ⟨#[], rfl, by simp [cL]⟩) key
theorem nM {K : AV → aH → Prop} {α : Type} {c : α → List AV} {dst : Option Tmp} {t e : TypeId} {sz b : Nat} (hk : bS h0 L) (ht : jD P t e sz b)
    (k : bS h0 ((none, .obj e (fl c ([] : List α) g0.sp)) :: L) → K (aw g0.t g0.n g0.cap) (hp h0 ((none, .obj e (fl c ([] : List α) g0.sp)) :: L))) :
    iB P ⟨dst, .buildSlice t 0 #[], ty, pos, dP, none⟩ K (fm n kvs) (hp h0 L) :=
  zX rfl ht (k ⟨hk, nofun⟩)
end ops
end Go.Vm
namespace Go.Proofs.YtbbifdfldpfphaaGreat
open Go.Vm
abbrev gQ (x : Int) : List AV := [.sc (.int .i64 x)]
abbrev B8 (x : Bool) : List AV := [.sc (.bool x)]
abbrev cZ (x : Int) : List AV := [.sc (.int .u8 x)]
abbrev F1 (x : ByteArray) : List AV := [.sc (.string x)]
abbrev I0 (x : List Int) : List AV := [.sl none 1 (List.map gQ x)]
abbrev fY (x : List Int) : List AV := [.sl none 1 (List.map cZ x)]
structure dK where
 Path : ByteArray
 Data : List Int
 deriving DecidableEq
def eE (x : dK) : List AV := [.sc (.string x.Path), .sl none 1 (List.map cZ x.Data)]
abbrev AF (x : List dK) : List AV := [.sl none 2 (List.map eE x)]
abbrev AH (x : List Bool) : List AV := [.sl none 1 (List.map B8 x)]
structure lM where
 Do : Int
 N : Int
 Vol : Int
 Tree : List dK
 Pick : List Bool
 deriving DecidableEq
def fG (x : lM) : List AV := [.sc (.int .i64 x.Do), .sc (.int .i64 x.N), .sc (.int .i64 x.Vol), .sl none 2 (List.map eE x.Tree), .sl none 1 (List.map B8 x.Pick)]
abbrev I1 (x : List lM) : List AV := [.sl none 5 (List.map fG x)]
structure dV where
 Path : ByteArray
 Size : Int
 Ids : List bP
 deriving DecidableEq
def bV (x : dV) : List AV := [.sc (.string x.Path), .sc (.int .i64 x.Size), .sl none 32 (List.map bF x.Ids)]
theorem rP : ∀ y, (bV y).length = 3 := fun y => by first | rfl | simp [bV, bF, bP.len]
structure a9 where
 Name : ByteArray
 Parts : List dV
 deriving DecidableEq
def bC (x : a9) : List AV := [.sc (.string x.Name), .sl none 3 (List.map bV x.Parts)]
structure bI where
 Vol : Int
 File : Int
 Off : Int
 Len : Int
 deriving DecidableEq
def aQ (x : bI) : List AV := [.sc (.int .i64 x.Vol), .sc (.int .i64 x.File), .sc (.int .i64 x.Off), .sc (.int .i64 x.Len)]
theorem iT : ∀ y, (aQ y).length = 4 := fun y => by first | rfl | simp [aQ, bF, bP.len]
structure aE where
 Seq : Int
 Man : a9
 Locs : List bI
 deriving DecidableEq
def aN (x : aE) : List AV := [.sc (.int .i64 x.Seq), .sc (.string x.Man.Name), .sl none 3 (List.map bV x.Man.Parts), .sl none 4 (List.map aQ x.Locs)]
theorem e8 : ∀ y, (aN y).length = 4 := fun y => by first | rfl | simp [aN, bF, bP.len]
structure aA where
 Id : bP
 Staged : Bool
 Data : List Int
 Locs : List bI
 deriving DecidableEq
def aD (x : aA) : List AV := bF x.Id ++ [.sc (.bool x.Staged), .sl none 1 (List.map cZ x.Data), .sl none 4 (List.map aQ x.Locs)]
theorem cM : ∀ y, (aD y).length = 35 := fun y => by first | rfl | simp [aD, bF, bP.len]
structure aI where
 Seq : Int
 Of : Int
 Locs : List bI
 deriving DecidableEq
def aR (x : aI) : List AV := [.sc (.int .i64 x.Seq), .sc (.int .i64 x.Of), .sl none 4 (List.map aQ x.Locs)]
theorem fB : ∀ y, (aR y).length = 3 := fun y => by first | rfl | simp [aR, bF, bP.len]
structure aK where
 Pool : Int
 Epoch : Int
 State : Int
 Files : Int
 deriving DecidableEq
def aT (x : aK) : List AV := [.sc (.int .i64 x.Pool), .sc (.int .i64 x.Epoch), .sc (.int .i64 x.State), .sc (.int .i64 x.Files)]
theorem eJ : ∀ y, (aT y).length = 4 := fun y => by first | rfl | simp [aT, bF, bP.len]
structure aB where
 Seq : Int
 Snaps : List aE
 Chunks : List aA
 Exps : List aI
 Vols : List aK
 deriving DecidableEq
def aF (x : aB) : List AV := [.sc (.int .i64 x.Seq), .sl none 4 (List.map aN x.Snaps), .sl none 35 (List.map aD x.Chunks), .sl none 3 (List.map aR x.Exps), .sl none 4 (List.map aT x.Vols)]
def i8 : aB := { Seq := 0, Snaps := [], Chunks := [], Exps := [], Vols := [] }
structure bQ where
 Kind : Int
 Id : bP
 Seq : Int
 Of : Int
 Off : Int
 Len : Int
 deriving DecidableEq
def bM (x : bQ) : List AV := [.sc (.int .i64 x.Kind)] ++ bF x.Id ++ [.sc (.int .i64 x.Seq), .sc (.int .i64 x.Of), .sc (.int .i64 x.Off), .sc (.int .i64 x.Len)]
structure a8 where
 Kind : Int
 Snap : aE
 Chunks : List aA
 Seq : Int
 Vol : Int
 Items : List bQ
 deriving DecidableEq
def aG (x : a8) : List AV := [.sc (.int .i64 x.Kind), .sc (.int .i64 x.Snap.Seq), .sc (.string x.Snap.Man.Name), .sl none 3 (List.map bV x.Snap.Man.Parts), .sl none 4 (List.map aQ x.Snap.Locs), .sl none 35 (List.map aD x.Chunks), .sc (.int .i64 x.Seq), .sc (.int .i64 x.Vol), .sl none 37 (List.map bM x.Items)]
abbrev cS (x : Ar 64) : List AV := cA .u32 64 x
abbrev dQ (x : Ar 8) : List AV := cA .u32 8 x
theorem cG : kQ Tryz.prog 3 = some (false, 1) := by kernel_rfl
theorem xN : kT Tryz.prog 3 = some 1 := by kernel_rfl
theorem PK : rE Tryz.prog 3 = some .i64 := by kernel_rfl
theorem u3 : Tryz.prog.underlying 3 = some (.int .i64) := by kernel_rfl
theorem BG : kQ Tryz.prog 4 = some (false, 1) := by kernel_rfl
theorem SZ : kT Tryz.prog 4 = some 1 := by kernel_rfl
theorem u4 : Tryz.prog.underlying 4 = some .bool := by kernel_rfl
theorem XN : (Tryz.prog.info? 4).bind (·.zero) = some (.bool false) := by kernel_rfl
theorem B9 : kQ Tryz.prog 5 = some (false, 1) := by kernel_rfl
theorem YI : kT Tryz.prog 5 = some 1 := by kernel_rfl
theorem TK : rE Tryz.prog 5 = some .u8 := by kernel_rfl
theorem u5 : Tryz.prog.underlying 5 = some (.int .u8) := by kernel_rfl
theorem I2 : rG Tryz.prog 9 = some false := by kernel_rfl
theorem uP : kQ Tryz.prog 9 = some (false, 1) := by kernel_rfl
theorem u9 : Tryz.prog.underlying 9 = some .string := by kernel_rfl
theorem ED : rG Tryz.prog 22 = some true := by kernel_rfl
theorem LT : lS Tryz.prog 22 = some 1 := by kernel_rfl
theorem I3 : jD Tryz.prog 22 3 1 8 := jD.of (by kernel_rfl) (by kernel_rfl) (by decide)
theorem XO : Tryz.prog.underlying 22 = some (.slice 3) := by kernel_rfl
theorem LU : rG Tryz.prog 23 = some true := by kernel_rfl
theorem EE : lS Tryz.prog 23 = some 5 := by kernel_rfl
theorem XP : Tryz.prog.underlying 23 = some (.slice 67) := by kernel_rfl
theorem kH : rG Tryz.prog 25 = some true := by kernel_rfl
theorem kJ : lS Tryz.prog 25 = some 4 := by kernel_rfl
theorem uS : jD Tryz.prog 25 60 4 72 := jD.of (by kernel_rfl) (by kernel_rfl) (by decide)
theorem fK : kQ Tryz.prog 25 = some (false, 1) := by kernel_rfl
theorem F2 : kT Tryz.prog 25 = some 1 := by kernel_rfl
theorem hS : rG Tryz.prog 26 = some true := by kernel_rfl
theorem eW : lS Tryz.prog 26 = some 35 := by kernel_rfl
theorem jP : jD Tryz.prog 26 44 35 88 := jD.of (by kernel_rfl) (by kernel_rfl) (by decide)
theorem eF : kQ Tryz.prog 26 = some (false, 1) := by kernel_rfl
theorem xO : kT Tryz.prog 26 = some 1 := by kernel_rfl
theorem XQ : Tryz.prog.underlying 26 = some (.slice 44) := by kernel_rfl
theorem o7 : rG Tryz.prog 27 = some true := by kernel_rfl
theorem jQ : lS Tryz.prog 27 = some 3 := by kernel_rfl
theorem uT : jD Tryz.prog 27 99 3 40 := jD.of (by kernel_rfl) (by kernel_rfl) (by decide)
theorem iK : kQ Tryz.prog 27 = some (false, 1) := by kernel_rfl
theorem F3 : kT Tryz.prog 27 = some 1 := by kernel_rfl
theorem YJ : Tryz.prog.underlying 27 = some (.slice 99) := by kernel_rfl
theorem qG : rG Tryz.prog 28 = some true := by kernel_rfl
theorem i9 : lS Tryz.prog 28 = some 4 := by kernel_rfl
theorem CA : jD Tryz.prog 28 49 4 32 := jD.of (by kernel_rfl) (by kernel_rfl) (by decide)
theorem fZ : kQ Tryz.prog 28 = some (false, 1) := by kernel_rfl
theorem I4 : kT Tryz.prog 28 = some 1 := by kernel_rfl
theorem eK : kQ Tryz.prog 30 = some (true, 5) := by kernel_rfl
theorem jF : kT Tryz.prog 30 = some 5 := by kernel_rfl
theorem m6 : jT Tryz.prog 30 0 = some (0, 1) := by kernel_rfl
theorem eP : jT Tryz.prog 30 1 = some (1, 1) := by kernel_rfl
theorem eL : jT Tryz.prog 30 2 = some (2, 1) := by kernel_rfl
theorem fC : jT Tryz.prog 30 3 = some (3, 1) := by kernel_rfl
theorem fI : jT Tryz.prog 30 4 = some (4, 1) := by kernel_rfl
theorem xP : qE Tryz.prog 30 = some ([.int .i64 0, .slice none 0 0, .slice none 0 0, .slice none 0 0, .slice none 0 0], [(0, 1), (1, 1), (2, 1), (3, 1), (4, 1)]) := by kernel_rfl
theorem mO : p8 Tryz.prog 30 = some [.int .i64 0, .slice none 0 0, .slice none 0 0, .slice none 0 0, .slice none 0 0] := by kernel_rfl
theorem oI : rG Tryz.prog 33 = some true := by kernel_rfl
theorem s9 : lS Tryz.prog 33 = some 37 := by kernel_rfl
theorem I5 : jD Tryz.prog 33 38 37 72 := jD.of (by kernel_rfl) (by kernel_rfl) (by decide)
theorem kK : kQ Tryz.prog 33 = some (false, 1) := by kernel_rfl
theorem TL : kT Tryz.prog 33 = some 1 := by kernel_rfl
theorem o8 : C7 Tryz.prog 36 = some (32, 1) := by kernel_rfl
theorem fV : kQ Tryz.prog 36 = some (true, 32) := by kernel_rfl
theorem EF : kT Tryz.prog 36 = some 32 := by kernel_rfl
theorem OB : Tryz.prog.underlying 36 = some (.array 32 5) := by kernel_rfl
theorem EG : Tryz.prog.eqGuardType Tryz.prog.depth 36 = false := by kernel_rfl
theorem EH : p8 Tryz.prog 36 = some [.int .u8 0, .int .u8 0, .int .u8 0, .int .u8 0, .int .u8 0, .int .u8 0, .int .u8 0, .int .u8 0, .int .u8 0, .int .u8 0, .int .u8 0, .int .u8 0, .int .u8 0, .int .u8 0, .int .u8 0, .int .u8 0, .int .u8 0, .int .u8 0, .int .u8 0, .int .u8 0, .int .u8 0, .int .u8 0, .int .u8 0, .int .u8 0, .int .u8 0, .int .u8 0, .int .u8 0, .int .u8 0, .int .u8 0, .int .u8 0, .int .u8 0, .int .u8 0] := by kernel_rfl
theorem F4 : kQ Tryz.prog 38 = some (true, 37) := by kernel_rfl
theorem PM : kT Tryz.prog 38 = some 37 := by kernel_rfl
theorem l4 : jT Tryz.prog 38 0 = some (0, 1) := by kernel_rfl
theorem xQ : jT Tryz.prog 38 1 = some (1, 32) := by kernel_rfl
theorem lE : jT Tryz.prog 38 2 = some (33, 1) := by kernel_rfl
theorem xR : jT Tryz.prog 38 3 = some (34, 1) := by kernel_rfl
theorem F5 : jT Tryz.prog 38 4 = some (35, 1) := by kernel_rfl
theorem F6 : jT Tryz.prog 38 5 = some (36, 1) := by kernel_rfl
theorem PN : qE Tryz.prog 38 = some ([.int .i64 0, .int .u8 0, .int .u8 0, .int .u8 0, .int .u8 0, .int .u8 0, .int .u8 0, .int .u8 0, .int .u8 0, .int .u8 0, .int .u8 0, .int .u8 0, .int .u8 0, .int .u8 0, .int .u8 0, .int .u8 0, .int .u8 0, .int .u8 0, .int .u8 0, .int .u8 0, .int .u8 0, .int .u8 0, .int .u8 0, .int .u8 0, .int .u8 0, .int .u8 0, .int .u8 0, .int .u8 0, .int .u8 0, .int .u8 0, .int .u8 0, .int .u8 0, .int .u8 0, .int .i64 0, .int .i64 0, .int .i64 0, .int .i64 0], [(0, 1), (1, 32), (33, 1), (34, 1), (35, 1), (36, 1)]) := by kernel_rfl
theorem PO : p8 Tryz.prog 38 = some [.int .i64 0, .int .u8 0, .int .u8 0, .int .u8 0, .int .u8 0, .int .u8 0, .int .u8 0, .int .u8 0, .int .u8 0, .int .u8 0, .int .u8 0, .int .u8 0, .int .u8 0, .int .u8 0, .int .u8 0, .int .u8 0, .int .u8 0, .int .u8 0, .int .u8 0, .int .u8 0, .int .u8 0, .int .u8 0, .int .u8 0, .int .u8 0, .int .u8 0, .int .u8 0, .int .u8 0, .int .u8 0, .int .u8 0, .int .u8 0, .int .u8 0, .int .u8 0, .int .u8 0, .int .i64 0, .int .i64 0, .int .i64 0, .int .i64 0] := by kernel_rfl
theorem jJ : rG Tryz.prog 41 = some true := by kernel_rfl
theorem F7 : lS Tryz.prog 41 = some 1 := by kernel_rfl
theorem hU : jD Tryz.prog 41 5 1 1 := jD.of (by kernel_rfl) (by kernel_rfl) (by decide)
theorem jR : kQ Tryz.prog 41 = some (false, 1) := by kernel_rfl
theorem CB : kT Tryz.prog 41 = some 1 := by kernel_rfl
theorem XR : Tryz.prog.underlying 41 = some (.slice 5) := by kernel_rfl
theorem iF : rG Tryz.prog 42 = some true := by kernel_rfl
theorem m7 : lS Tryz.prog 42 = some 4 := by kernel_rfl
theorem uU : jD Tryz.prog 42 81 4 32 := jD.of (by kernel_rfl) (by kernel_rfl) (by decide)
theorem fE : kQ Tryz.prog 42 = some (false, 1) := by kernel_rfl
theorem m8 : kT Tryz.prog 42 = some 1 := by kernel_rfl
theorem YK : Tryz.prog.underlying 42 = some (.slice 81) := by kernel_rfl
theorem lF : kQ Tryz.prog 44 = some (true, 35) := by kernel_rfl
theorem uV : kT Tryz.prog 44 = some 35 := by kernel_rfl
theorem m9 : jT Tryz.prog 44 0 = some (0, 32) := by kernel_rfl
theorem qH : jT Tryz.prog 44 1 = some (32, 1) := by kernel_rfl
theorem iU : jT Tryz.prog 44 2 = some (33, 1) := by kernel_rfl
theorem iL : jT Tryz.prog 44 3 = some (34, 1) := by kernel_rfl
theorem PP : qE Tryz.prog 44 = some ([.int .u8 0, .int .u8 0, .int .u8 0, .int .u8 0, .int .u8 0, .int .u8 0, .int .u8 0, .int .u8 0, .int .u8 0, .int .u8 0, .int .u8 0, .int .u8 0, .int .u8 0, .int .u8 0, .int .u8 0, .int .u8 0, .int .u8 0, .int .u8 0, .int .u8 0, .int .u8 0, .int .u8 0, .int .u8 0, .int .u8 0, .int .u8 0, .int .u8 0, .int .u8 0, .int .u8 0, .int .u8 0, .int .u8 0, .int .u8 0, .int .u8 0, .int .u8 0, .bool false, .slice none 0 0, .slice none 0 0], [(0, 32), (32, 1), (33, 1), (34, 1)]) := by kernel_rfl
theorem l6 : p8 Tryz.prog 44 = some [.int .u8 0, .int .u8 0, .int .u8 0, .int .u8 0, .int .u8 0, .int .u8 0, .int .u8 0, .int .u8 0, .int .u8 0, .int .u8 0, .int .u8 0, .int .u8 0, .int .u8 0, .int .u8 0, .int .u8 0, .int .u8 0, .int .u8 0, .int .u8 0, .int .u8 0, .int .u8 0, .int .u8 0, .int .u8 0, .int .u8 0, .int .u8 0, .int .u8 0, .int .u8 0, .int .u8 0, .int .u8 0, .int .u8 0, .int .u8 0, .int .u8 0, .int .u8 0, .bool false, .slice none 0 0, .slice none 0 0] := by kernel_rfl
theorem LV : kQ Tryz.prog 49 = some (true, 4) := by kernel_rfl
theorem LW : kT Tryz.prog 49 = some 4 := by kernel_rfl
theorem LY : jT Tryz.prog 49 0 = some (0, 1) := by kernel_rfl
theorem xS : jT Tryz.prog 49 1 = some (1, 1) := by kernel_rfl
theorem l8 : jT Tryz.prog 49 2 = some (2, 1) := by kernel_rfl
theorem tA : jT Tryz.prog 49 3 = some (3, 1) := by kernel_rfl
theorem PQ : qE Tryz.prog 49 = some ([.int .i64 0, .int .i64 0, .int .i64 0, .int .i64 0], [(0, 1), (1, 1), (2, 1), (3, 1)]) := by kernel_rfl
theorem F8 : p8 Tryz.prog 49 = some [.int .i64 0, .int .i64 0, .int .i64 0, .int .i64 0] := by kernel_rfl
theorem rK : rG Tryz.prog 56 = some true := by kernel_rfl
theorem o9 : lS Tryz.prog 56 = some 3 := by kernel_rfl
theorem EI : jD Tryz.prog 56 70 3 48 := jD.of (by kernel_rfl) (by kernel_rfl) (by decide)
theorem lG : kQ Tryz.prog 56 = some (false, 1) := by kernel_rfl
theorem LZ : kT Tryz.prog 56 = some 1 := by kernel_rfl
theorem lH : kQ Tryz.prog 58 = some (true, 2) := by kernel_rfl
theorem uW : kT Tryz.prog 58 = some 2 := by kernel_rfl
theorem F9 : jT Tryz.prog 58 0 = some (0, 1) := by kernel_rfl
theorem tB : jT Tryz.prog 58 1 = some (1, 1) := by kernel_rfl
theorem I6 : qE Tryz.prog 58 = some ([.string ByteArray.empty, .slice none 0 0], [(0, 1), (1, 1)]) := by kernel_rfl
theorem GA : p8 Tryz.prog 58 = some [.string ByteArray.empty, .slice none 0 0] := by kernel_rfl
theorem AI : kQ Tryz.prog 60 = some (true, 4) := by kernel_rfl
theorem I7 : kT Tryz.prog 60 = some 4 := by kernel_rfl
theorem qI : jT Tryz.prog 60 0 = some (0, 1) := by kernel_rfl
theorem mA : jT Tryz.prog 60 1 = some (1, 2) := by kernel_rfl
theorem iV : jT Tryz.prog 60 2 = some (3, 1) := by kernel_rfl
theorem L0 : qE Tryz.prog 60 = some ([.int .i64 0, .string ByteArray.empty, .slice none 0 0, .slice none 0 0], [(0, 1), (1, 2), (3, 1)]) := by kernel_rfl
theorem xT : p8 Tryz.prog 60 = some [.int .i64 0, .string ByteArray.empty, .slice none 0 0, .slice none 0 0] := by kernel_rfl
theorem mP : kQ Tryz.prog 62 = some (true, 9) := by kernel_rfl
theorem rL : kT Tryz.prog 62 = some 9 := by kernel_rfl
theorem xU : jT Tryz.prog 62 0 = some (0, 1) := by kernel_rfl
theorem jA : jT Tryz.prog 62 1 = some (1, 4) := by kernel_rfl
theorem kL : jT Tryz.prog 62 2 = some (5, 1) := by kernel_rfl
theorem L5 : jT Tryz.prog 62 3 = some (6, 1) := by kernel_rfl
theorem fJ : jT Tryz.prog 62 4 = some (7, 1) := by kernel_rfl
theorem hX : jT Tryz.prog 62 5 = some (8, 1) := by kernel_rfl
theorem tC : qE Tryz.prog 62 = some ([.int .i64 0, .int .i64 0, .string ByteArray.empty, .slice none 0 0, .slice none 0 0, .slice none 0 0, .int .i64 0, .int .i64 0, .slice none 0 0], [(0, 1), (1, 4), (5, 1), (6, 1), (7, 1), (8, 1)]) := by kernel_rfl
theorem GB : p8 Tryz.prog 62 = some [.int .i64 0, .int .i64 0, .string ByteArray.empty, .slice none 0 0, .slice none 0 0, .slice none 0 0, .int .i64 0, .int .i64 0, .slice none 0 0] := by kernel_rfl
theorem L7 : rE Tryz.prog 63 = some .u64 := by kernel_rfl
theorem uX : rG Tryz.prog 64 = some true := by kernel_rfl
theorem mQ : lS Tryz.prog 64 = some 2 := by kernel_rfl
theorem I8 : jD Tryz.prog 64 95 2 40 := jD.of (by kernel_rfl) (by kernel_rfl) (by decide)
theorem TM : kQ Tryz.prog 64 = some (false, 1) := by kernel_rfl
theorem u64 : Tryz.prog.underlying 64 = some (.slice 95) := by kernel_rfl
theorem PR : rG Tryz.prog 65 = some true := by kernel_rfl
theorem TN : lS Tryz.prog 65 = some 1 := by kernel_rfl
theorem PS : kQ Tryz.prog 65 = some (false, 1) := by kernel_rfl
theorem YL : Tryz.prog.underlying 65 = some (.slice 4) := by kernel_rfl
theorem TO : kQ Tryz.prog 67 = some (true, 5) := by kernel_rfl
theorem L8 : rF Tryz.prog 67 0 = some (0, 3) := by kernel_rfl
theorem L9 : jT Tryz.prog 67 1 = some (1, 1) := by kernel_rfl
theorem MA : rF Tryz.prog 67 1 = some (1, 3) := by kernel_rfl
theorem MB : rF Tryz.prog 67 2 = some (2, 3) := by kernel_rfl
theorem MC : rF Tryz.prog 67 3 = some (3, 64) := by kernel_rfl
theorem MD : rF Tryz.prog 67 4 = some (4, 65) := by kernel_rfl
theorem pA : rG Tryz.prog 68 = some true := by kernel_rfl
theorem uY : lS Tryz.prog 68 = some 32 := by kernel_rfl
theorem xV : jD Tryz.prog 68 36 32 32 := jD.of (by kernel_rfl) (by kernel_rfl) (by decide)
theorem rM : kQ Tryz.prog 68 = some (false, 1) := by kernel_rfl
theorem ME : kT Tryz.prog 68 = some 1 := by kernel_rfl
theorem AJ : kQ Tryz.prog 70 = some (true, 3) := by kernel_rfl
theorem EJ : kT Tryz.prog 70 = some 3 := by kernel_rfl
theorem GC : jT Tryz.prog 70 0 = some (0, 1) := by kernel_rfl
theorem GD : jT Tryz.prog 70 2 = some (2, 1) := by kernel_rfl
theorem TP : qE Tryz.prog 70 = some ([.string ByteArray.empty, .int .i64 0, .slice none 0 0], [(0, 1), (1, 1), (2, 1)]) := by kernel_rfl
theorem CC : p8 Tryz.prog 70 = some [.string ByteArray.empty, .int .i64 0, .slice none 0 0] := by kernel_rfl
theorem nA : kQ Tryz.prog 81 = some (true, 4) := by kernel_rfl
theorem GG : kT Tryz.prog 81 = some 4 := by kernel_rfl
theorem TQ : qE Tryz.prog 81 = some ([.int .i64 0, .int .i64 0, .int .i64 0, .int .i64 0], [(0, 1), (1, 1), (2, 1), (3, 1)]) := by kernel_rfl
theorem EK : p8 Tryz.prog 81 = some [.int .i64 0, .int .i64 0, .int .i64 0, .int .i64 0] := by kernel_rfl
theorem GH : jT Tryz.prog 95 0 = some (0, 1) := by kernel_rfl
theorem MF : rF Tryz.prog 95 0 = some (0, 9) := by kernel_rfl
theorem GI : jT Tryz.prog 95 1 = some (1, 1) := by kernel_rfl
theorem MG : rF Tryz.prog 95 1 = some (1, 41) := by kernel_rfl
theorem TR : qE Tryz.prog 95 = some ([.string ByteArray.empty, .slice none 0 0], [(0, 1), (1, 1)]) := by kernel_rfl
theorem tD : kQ Tryz.prog 99 = some (true, 3) := by kernel_rfl
theorem CD : kT Tryz.prog 99 = some 3 := by kernel_rfl
theorem CE : jT Tryz.prog 99 0 = some (0, 1) := by kernel_rfl
theorem MH : jT Tryz.prog 99 1 = some (1, 1) := by kernel_rfl
theorem kM : jT Tryz.prog 99 2 = some (2, 1) := by kernel_rfl
theorem TS : qE Tryz.prog 99 = some ([.int .i64 0, .int .i64 0, .slice none 0 0], [(0, 1), (1, 1), (2, 1)]) := by kernel_rfl
theorem qJ : p8 Tryz.prog 99 = some [.int .i64 0, .int .i64 0, .slice none 0 0] := by kernel_rfl
theorem tE : Tryz.prog.underlying 118 = some (.map 3 117) := by kernel_rfl
theorem J8 : rG Tryz.prog 129 = some true := by kernel_rfl
theorem v8 : lS Tryz.prog 129 = some 1 := by kernel_rfl
theorem v9 : jD Tryz.prog 129 41 1 24 := jD.of (by kernel_rfl) (by kernel_rfl) (by decide)
theorem GJ : Tryz.prog.underlying 175 = some (.map 9 4) := by kernel_rfl
theorem gD : kQ Tryz.prog 180 = some (false, 1) := by kernel_rfl
theorem GK : kT Tryz.prog 180 = some 1 := by kernel_rfl
theorem PT : rE Tryz.prog 180 = some .u32 := by kernel_rfl
theorem pB : C7 Tryz.prog 181 = some (64, 1) := by kernel_rfl
theorem PU : kQ Tryz.prog 181 = some (true, 64) := by kernel_rfl
theorem J9 : kT Tryz.prog 181 = some 64 := by kernel_rfl
theorem MI : sY Tryz.prog 181 = some ([.int .u32 0, .int .u32 0, .int .u32 0, .int .u32 0, .int .u32 0, .int .u32 0, .int .u32 0, .int .u32 0, .int .u32 0, .int .u32 0, .int .u32 0, .int .u32 0, .int .u32 0, .int .u32 0, .int .u32 0, .int .u32 0, .int .u32 0, .int .u32 0, .int .u32 0, .int .u32 0, .int .u32 0, .int .u32 0, .int .u32 0, .int .u32 0, .int .u32 0, .int .u32 0, .int .u32 0, .int .u32 0, .int .u32 0, .int .u32 0, .int .u32 0, .int .u32 0, .int .u32 0, .int .u32 0, .int .u32 0, .int .u32 0, .int .u32 0, .int .u32 0, .int .u32 0, .int .u32 0, .int .u32 0, .int .u32 0, .int .u32 0, .int .u32 0, .int .u32 0, .int .u32 0, .int .u32 0, .int .u32 0, .int .u32 0, .int .u32 0, .int .u32 0, .int .u32 0, .int .u32 0, .int .u32 0, .int .u32 0, .int .u32 0, .int .u32 0, .int .u32 0, .int .u32 0, .int .u32 0, .int .u32 0, .int .u32 0, .int .u32 0, .int .u32 0], [(0, 1), (1, 1), (2, 1), (3, 1), (4, 1), (5, 1), (6, 1), (7, 1), (8, 1), (9, 1), (10, 1), (11, 1), (12, 1), (13, 1), (14, 1), (15, 1), (16, 1), (17, 1), (18, 1), (19, 1), (20, 1), (21, 1), (22, 1), (23, 1), (24, 1), (25, 1), (26, 1), (27, 1), (28, 1), (29, 1), (30, 1), (31, 1), (32, 1), (33, 1), (34, 1), (35, 1), (36, 1), (37, 1), (38, 1), (39, 1), (40, 1), (41, 1), (42, 1), (43, 1), (44, 1), (45, 1), (46, 1), (47, 1), (48, 1), (49, 1), (50, 1), (51, 1), (52, 1), (53, 1), (54, 1), (55, 1), (56, 1), (57, 1), (58, 1), (59, 1), (60, 1), (61, 1), (62, 1), (63, 1)]) := by kernel_rfl
theorem GL : p8 Tryz.prog 181 = some [.int .u32 0, .int .u32 0, .int .u32 0, .int .u32 0, .int .u32 0, .int .u32 0, .int .u32 0, .int .u32 0, .int .u32 0, .int .u32 0, .int .u32 0, .int .u32 0, .int .u32 0, .int .u32 0, .int .u32 0, .int .u32 0, .int .u32 0, .int .u32 0, .int .u32 0, .int .u32 0, .int .u32 0, .int .u32 0, .int .u32 0, .int .u32 0, .int .u32 0, .int .u32 0, .int .u32 0, .int .u32 0, .int .u32 0, .int .u32 0, .int .u32 0, .int .u32 0, .int .u32 0, .int .u32 0, .int .u32 0, .int .u32 0, .int .u32 0, .int .u32 0, .int .u32 0, .int .u32 0, .int .u32 0, .int .u32 0, .int .u32 0, .int .u32 0, .int .u32 0, .int .u32 0, .int .u32 0, .int .u32 0, .int .u32 0, .int .u32 0, .int .u32 0, .int .u32 0, .int .u32 0, .int .u32 0, .int .u32 0, .int .u32 0, .int .u32 0, .int .u32 0, .int .u32 0, .int .u32 0, .int .u32 0, .int .u32 0, .int .u32 0, .int .u32 0] := by kernel_rfl
theorem iN : C7 Tryz.prog 183 = some (8, 1) := by kernel_rfl
theorem PW : kQ Tryz.prog 183 = some (true, 8) := by kernel_rfl
theorem GM : kT Tryz.prog 183 = some 8 := by kernel_rfl
theorem GO : sY Tryz.prog 183 = some ([.int .u32 0, .int .u32 0, .int .u32 0, .int .u32 0, .int .u32 0, .int .u32 0, .int .u32 0, .int .u32 0], [(0, 1), (1, 1), (2, 1), (3, 1), (4, 1), (5, 1), (6, 1), (7, 1)]) := by kernel_rfl
theorem KA : p8 Tryz.prog 183 = some [.int .u32 0, .int .u32 0, .int .u32 0, .int .u32 0, .int .u32 0, .int .u32 0, .int .u32 0, .int .u32 0] := by kernel_rfl
theorem mixed : Tryz.prog.follows .mixedOrders = true := by kernel_rfl
def tb : Tr TI := .node 114 ⟨some (false, 1), none, []⟩ (.node 60 ⟨some (true, 4), none, [0, 1, 3]⟩ (.node 33 ⟨some (false, 1), none, []⟩ (.node 18 ⟨some (true, 1), none, [0]⟩ (.node 9 ⟨some (false, 1), none, []⟩ (.node 4 ⟨some (false, 1), none, []⟩ (.node 2 ⟨some (false, 1), some .i64, []⟩ (.node 1 ⟨some (false, 1), none, []⟩ .nil .nil) (.node 3 ⟨some (false, 1), some .i64, []⟩ .nil .nil)) (.node 7 ⟨some (true, 4), none, [0, 1, 2, 3]⟩ (.node 5 ⟨some (false, 1), some .u8, []⟩ .nil .nil) .nil)) (.node 15 ⟨some (false, 1), none, []⟩ (.node 13 ⟨some (true, 2), none, [0, 1]⟩ (.node 12 ⟨some (false, 1), some .u64, []⟩ .nil .nil) .nil) (.node 17 ⟨some (false, 1), none, []⟩ (.node 16 ⟨some (false, 1), none, []⟩ .nil .nil) .nil))) (.node 27 ⟨some (false, 1), none, []⟩ (.node 24 ⟨some (false, 1), none, []⟩ (.node 22 ⟨some (false, 1), none, []⟩ (.node 21 ⟨some (false, 1), some .i32, []⟩ .nil .nil) (.node 23 ⟨some (false, 1), none, []⟩ .nil .nil)) (.node 26 ⟨some (false, 1), none, []⟩ (.node 25 ⟨some (false, 1), none, []⟩ .nil .nil) .nil)) (.node 30 ⟨some (true, 5), none, [0, 1, 2, 3, 4]⟩ (.node 29 ⟨some (true, 5), none, [0, 1, 2, 3, 4]⟩ (.node 28 ⟨some (false, 1), none, []⟩ .nil .nil) .nil) (.node 32 ⟨some (false, 1), none, []⟩ (.node 31 ⟨some (false, 1), none, []⟩ .nil .nil) .nil)))) (.node 46 ⟨some (false, 1), none, []⟩ (.node 40 ⟨some (false, 1), none, []⟩ (.node 37 ⟨some (true, 37), none, [0, 1, 33, 34, 35, 36]⟩ (.node 35 ⟨some (false, 1), none, []⟩ (.node 34 ⟨some (false, 1), none, []⟩ .nil .nil) (.node 36 ⟨some (true, 32), none, []⟩ .nil .nil)) (.node 39 ⟨some (false, 1), none, []⟩ (.node 38 ⟨some (true, 37), none, [0, 1, 33, 34, 35, 36]⟩ .nil .nil) .nil)) (.node 43 ⟨some (true, 35), none, [0, 32, 33, 34]⟩ (.node 42 ⟨some (false, 1), none, []⟩ (.node 41 ⟨some (false, 1), none, []⟩ .nil .nil) .nil) (.node 45 ⟨some (false, 1), none, []⟩ (.node 44 ⟨some (true, 35), none, [0, 32, 33, 34]⟩ .nil .nil) .nil))) (.node 54 ⟨some (false, 1), none, []⟩ (.node 50 ⟨some (false, 1), none, []⟩ (.node 48 ⟨some (true, 4), none, [0, 1, 2, 3]⟩ (.node 47 ⟨some (false, 1), none, []⟩ .nil .nil) (.node 49 ⟨some (true, 4), none, [0, 1, 2, 3]⟩ .nil .nil)) (.node 52 ⟨some (false, 1), some .i64, []⟩ (.node 51 ⟨some (false, 1), none, []⟩ .nil .nil) .nil)) (.node 57 ⟨some (true, 2), none, [0, 1]⟩ (.node 56 ⟨some (false, 1), none, []⟩ (.node 55 ⟨some (false, 1), none, []⟩ .nil .nil) .nil) (.node 59 ⟨some (true, 4), none, [0, 1, 3]⟩ (.node 58 ⟨some (true, 2), none, [0, 1]⟩ .nil .nil) .nil))))) (.node 88 ⟨some (false, 1), none, []⟩ (.node 73 ⟨some (false, 1), none, []⟩ (.node 67 ⟨some (true, 5), none, [0, 1, 2, 3, 4]⟩ (.node 64 ⟨some (false, 1), none, []⟩ (.node 62 ⟨some (true, 9), none, [0, 1, 5, 6, 7, 8]⟩ (.node 61 ⟨some (true, 9), none, [0, 1, 5, 6, 7, 8]⟩ .nil .nil) (.node 63 ⟨some (false, 1), some .u64, []⟩ .nil .nil)) (.node 66 ⟨some (true, 5), none, [0, 1, 2, 3, 4]⟩ (.node 65 ⟨some (false, 1), none, []⟩ .nil .nil) .nil)) (.node 70 ⟨some (true, 3), none, [0, 1, 2]⟩ (.node 69 ⟨some (true, 3), none, [0, 1, 2]⟩ (.node 68 ⟨some (false, 1), none, []⟩ .nil .nil) .nil) (.node 72 ⟨some (false, 1), none, []⟩ (.node 71 ⟨some (false, 1), none, []⟩ .nil .nil) .nil))) (.node 81 ⟨some (true, 4), none, [0, 1, 2, 3]⟩ (.node 78 ⟨some (false, 1), none, []⟩ (.node 75 ⟨some (false, 1), none, []⟩ (.node 74 ⟨some (false, 1), none, []⟩ .nil .nil) (.node 76 ⟨some (false, 1), none, []⟩ .nil .nil)) (.node 80 ⟨some (true, 4), none, [0, 1, 2, 3]⟩ (.node 79 ⟨some (false, 1), none, []⟩ .nil .nil) .nil)) (.node 85 ⟨some (false, 1), none, []⟩ (.node 84 ⟨some (false, 1), none, []⟩ (.node 82 ⟨some (false, 1), none, []⟩ .nil .nil) .nil) (.node 87 ⟨some (false, 1), none, []⟩ (.node 86 ⟨some (false, 1), none, []⟩ .nil .nil) .nil)))) (.node 101 ⟨some (false, 1), none, []⟩ (.node 95 ⟨some (true, 2), none, [0, 1]⟩ (.node 92 ⟨some (false, 1), none, []⟩ (.node 90 ⟨some (false, 1), none, []⟩ (.node 89 ⟨some (false, 1), none, []⟩ .nil .nil) (.node 91 ⟨some (false, 1), none, []⟩ .nil .nil)) (.node 94 ⟨some (true, 2), none, [0, 1]⟩ (.node 93 ⟨some (false, 1), none, []⟩ .nil .nil) .nil)) (.node 98 ⟨some (true, 3), none, [0, 1, 2]⟩ (.node 97 ⟨some (false, 1), none, []⟩ (.node 96 ⟨some (false, 1), none, []⟩ .nil .nil) .nil) (.node 100 ⟨some (false, 1), none, []⟩ (.node 99 ⟨some (true, 3), none, [0, 1, 2]⟩ .nil .nil) .nil))) (.node 108 ⟨some (false, 1), none, []⟩ (.node 105 ⟨some (false, 1), none, []⟩ (.node 103 ⟨some (false, 1), none, []⟩ (.node 102 ⟨some (false, 1), none, []⟩ .nil .nil) (.node 104 ⟨some (false, 1), none, []⟩ .nil .nil)) (.node 107 ⟨some (false, 1), none, []⟩ (.node 106 ⟨some (false, 1), none, []⟩ .nil .nil) .nil)) (.node 111 ⟨some (false, 1), none, []⟩ (.node 110 ⟨some (false, 1), none, []⟩ (.node 109 ⟨some (false, 1), none, []⟩ .nil .nil) .nil) (.node 113 ⟨some (false, 1), none, []⟩ (.node 112 ⟨some (false, 1), none, []⟩ .nil .nil) .nil)))))) (.node 172 ⟨some (false, 1), none, []⟩ (.node 144 ⟨some (false, 1), none, []⟩ (.node 129 ⟨some (false, 1), none, []⟩ (.node 122 ⟨some (false, 1), none, []⟩ (.node 118 ⟨some (false, 1), none, []⟩ (.node 116 ⟨some (false, 1), none, []⟩ (.node 115 ⟨some (false, 1), none, []⟩ .nil .nil) (.node 117 ⟨some (false, 1), none, []⟩ .nil .nil)) (.node 121 ⟨some (false, 1), none, []⟩ (.node 120 ⟨some (false, 1), none, []⟩ .nil .nil) .nil)) (.node 125 ⟨some (false, 1), none, []⟩ (.node 124 ⟨some (false, 1), none, []⟩ (.node 123 ⟨some (false, 1), none, []⟩ .nil .nil) .nil) (.node 128 ⟨some (false, 1), none, []⟩ (.node 126 ⟨some (false, 1), none, []⟩ .nil .nil) .nil))) (.node 137 ⟨some (false, 1), none, []⟩ (.node 134 ⟨some (false, 1), none, []⟩ (.node 132 ⟨some (false, 1), none, []⟩ (.node 131 ⟨some (false, 1), none, []⟩ .nil .nil) (.node 133 ⟨some (false, 1), none, []⟩ .nil .nil)) (.node 136 ⟨some (false, 1), none, []⟩ (.node 135 ⟨some (false, 1), none, []⟩ .nil .nil) .nil)) (.node 140 ⟨some (false, 1), none, []⟩ (.node 139 ⟨some (false, 1), none, []⟩ (.node 138 ⟨some (false, 1), none, []⟩ .nil .nil) .nil) (.node 142 ⟨some (false, 1), none, []⟩ (.node 141 ⟨some (false, 1), none, []⟩ .nil .nil) .nil)))) (.node 159 ⟨some (false, 1), none, []⟩ (.node 152 ⟨some (false, 1), none, []⟩ (.node 149 ⟨some (false, 1), none, []⟩ (.node 146 ⟨some (false, 1), none, []⟩ (.node 145 ⟨some (false, 1), none, []⟩ .nil .nil) (.node 147 ⟨some (false, 1), none, []⟩ .nil .nil)) (.node 151 ⟨some (false, 1), none, []⟩ (.node 150 ⟨some (false, 1), none, []⟩ .nil .nil) .nil)) (.node 156 ⟨some (false, 1), none, []⟩ (.node 155 ⟨some (false, 1), none, []⟩ (.node 154 ⟨some (false, 1), none, []⟩ .nil .nil) .nil) (.node 158 ⟨some (false, 1), none, []⟩ (.node 157 ⟨some (false, 1), none, []⟩ .nil .nil) .nil))) (.node 166 ⟨some (false, 1), none, []⟩ (.node 163 ⟨some (false, 1), none, []⟩ (.node 161 ⟨some (false, 1), none, []⟩ (.node 160 ⟨some (false, 1), none, []⟩ .nil .nil) (.node 162 ⟨some (false, 1), none, []⟩ .nil .nil)) (.node 165 ⟨some (false, 1), none, []⟩ (.node 164 ⟨some (false, 1), none, []⟩ .nil .nil) .nil)) (.node 169 ⟨some (false, 1), none, []⟩ (.node 168 ⟨some (false, 1), none, []⟩ (.node 167 ⟨some (false, 1), none, []⟩ .nil .nil) .nil) (.node 171 ⟨some (false, 1), none, []⟩ (.node 170 ⟨some (false, 1), none, []⟩ .nil .nil) .nil))))) (.node 198 ⟨some (false, 1), none, []⟩ (.node 185 ⟨some (false, 1), none, []⟩ (.node 179 ⟨some (false, 1), none, []⟩ (.node 176 ⟨some (false, 1), none, []⟩ (.node 174 ⟨some (false, 1), none, []⟩ (.node 173 ⟨some (false, 1), none, []⟩ .nil .nil) (.node 175 ⟨some (false, 1), none, []⟩ .nil .nil)) (.node 178 ⟨some (false, 1), none, []⟩ (.node 177 ⟨some (false, 1), none, []⟩ .nil .nil) .nil)) (.node 182 ⟨some (false, 1), none, []⟩ (.node 181 ⟨some (true, 64), none, []⟩ (.node 180 ⟨some (false, 1), some .u32, []⟩ .nil .nil) .nil) (.node 184 ⟨some (false, 1), none, []⟩ (.node 183 ⟨some (true, 8), none, []⟩ .nil .nil) .nil))) (.node 192 ⟨some (false, 1), none, []⟩ (.node 189 ⟨some (false, 1), none, []⟩ (.node 187 ⟨some (false, 1), none, []⟩ (.node 186 ⟨some (false, 1), none, []⟩ .nil .nil) (.node 188 ⟨some (false, 1), none, []⟩ .nil .nil)) (.node 191 ⟨some (false, 1), none, []⟩ (.node 190 ⟨some (false, 1), none, []⟩ .nil .nil) .nil)) (.node 195 ⟨some (false, 1), none, []⟩ (.node 194 ⟨some (false, 1), none, []⟩ (.node 193 ⟨some (false, 1), none, []⟩ .nil .nil) .nil) (.node 197 ⟨some (false, 1), none, []⟩ (.node 196 ⟨some (false, 1), none, []⟩ .nil .nil) .nil)))) (.node 211 ⟨some (false, 1), none, []⟩ (.node 205 ⟨some (false, 1), none, []⟩ (.node 202 ⟨some (false, 1), none, []⟩ (.node 200 ⟨some (false, 1), none, []⟩ (.node 199 ⟨some (false, 1), none, []⟩ .nil .nil) (.node 201 ⟨some (false, 1), none, []⟩ .nil .nil)) (.node 204 ⟨some (false, 1), none, []⟩ (.node 203 ⟨some (false, 1), none, []⟩ .nil .nil) .nil)) (.node 208 ⟨some (false, 1), none, []⟩ (.node 207 ⟨some (false, 1), some .u64, []⟩ (.node 206 ⟨some (false, 1), none, []⟩ .nil .nil) .nil) (.node 210 ⟨some (false, 1), none, []⟩ (.node 209 ⟨some (false, 1), none, []⟩ .nil .nil) .nil))) (.node 218 ⟨some (true, 0), none, []⟩ (.node 214 ⟨some (false, 1), none, []⟩ (.node 213 ⟨some (false, 1), none, []⟩ (.node 212 ⟨some (false, 1), none, []⟩ .nil .nil) .nil) (.node 216 ⟨some (true, 4), none, [0, 1, 2, 3]⟩ (.node 215 ⟨some (false, 1), none, []⟩ .nil .nil) .nil)) (.node 224 ⟨some (false, 1), none, []⟩ (.node 221 ⟨some (false, 1), none, []⟩ (.node 219 ⟨some (true, 0), none, []⟩ .nil .nil) .nil) (.node 228 ⟨some (true, 11), none, [0, 1, 2, 3, 4, 5, 6, 7, 8, 9, 10]⟩ (.node 225 ⟨some (false, 1), none, []⟩ .nil .nil) .nil))))))
theorem S0 : B1 Tryz.prog tb := by unfold B1; kernel_rfl
section
variable {h : aH} {n : Nat} {c : Code} {kn : FR → HL → Prop} {ke : Exit → FR → HL → Prop} {f : FR} {L : HL} {id : Nat} {l : List Oper}
theorem v (k : vc tb false Tryz.prog h n c kn ke f L) : VC Tryz.prog h n c kn ke f L := TH S0 c k
theorem v0 (k : vc tb true Tryz.prog h n c kn ke f L) : VC Tryz.prog h n c kn ke f L := TH S0 c k
theorem vq (h2 : zY 0 (l.map (rI l.toArray)) = true) (k : vo true tb false Tryz.prog h n l kn l f L) : VD Tryz.prog h n id l.toArray kn f L := XK S0 mixed h2 k
theorem AK (h2 : zY 0 (l.map (rI l.toArray)) = true) (k : vo true tb true Tryz.prog h n l kn l f L) : VD Tryz.prog h n id l.toArray kn f L := XK S0 mixed h2 k
end
open Go.Vm
def tF (m : Nat) (p0 : Int) (p1 : Int) (p2 : Int) : Option (Bool) :=
 after (if (decide (p1 ≤ p0)) = true then (some (.brk (decide (p0 ≤ p2)))) else some (.brk false) : Option (Lp (Bool) (Bool))) fun j4 => some j4
theorem xW {u : Nat} {p0 : Int} {p1 : Int} {p2 : Int} {o : Bool} (h : aH) (m : tF u p0 p1 p2 = some o) :
 aP Tryz.prog 57 [nZ p0, nZ p1, nZ p2] h (fun r h' => r = .sc (.bool o) ∧ h' = h) := by
 refine fW 15 [.tmp 6] Tryz.func57 rfl rfl rfl rfl ?_
 unfold tF at m
 refine v (vs ?_)
 refine cW m (σ := Bool) (τ := Unit) (fun g s => []) (fun g s => .c 6 (.sc (.bool s)) .nil) (fun x m => ?_) ?_
 refine v ?_
 refine vi m (fun b5 m => ?_) fun b5 m => ?_
 rw [b5]
 exact bD m (lx (.cons (aX.refl _ _) .nil))
 rw [b5]
 exact bD m (lx (.cons (aX.refl _ _) .nil))
 rintro _ j4 m
 refine v ?_
 injection m with m; subst m
 exact eM rfl
theorem mB : aU Tryz.prog 57 = true := by kernel_rfl
def tG (m : Nat) (p0 : List aK) (q0 : Int) : Option (Lp (Int) (Bool)) :=
 if (decide (q0 < (p0.length : Int))) = true then ((ix p0 q0).bind fun x0 => after (if (x0.State == 2) = true then ((tF m x0.Files 1 65535).bind fun y0 => some (.brk y0)) else some (.brk false) : Option (Lp (Bool) (Lp (Int) (Bool)))) fun j0 => after (if (x0.State == 1) = true then (some (.brk (x0.Files == 0))) else if (x0.State == 3) = true then (some (.brk (x0.Files == 0))) else some (.brk false) : Option (Lp (Bool) (Lp (Int) (Bool)))) fun j1 => after ((tF m x0.Pool 0 1).bind fun y1 => if (!y1) = true then (some (.brk true)) else (tF m x0.Epoch 0 1048576).bind fun y2 => if (!y2) = true then (some (.brk true)) else if (!j0) = true then (some (.brk (!j1))) else some (.brk false) : Option (Lp (Bool) (Lp (Int) (Bool)))) fun j2 => if j2 = true then (some (.ret false)) else some (.go (IntKind.wrap .i64 (q0 + 1)))) else some (.brk q0)
def PX (m : Nat) (p0 : List aK) : Option (Bool) :=
 after (aY (fun s => tG m p0 s) m 0) fun r0 => (tF m (p0.length : Int) 1 8).bind fun y0 => some y0
theorem YM {w : Nat} {p0 : List aK} {o : Bool} (h : aH) (m : PX w p0 = some o) :
 aP Tryz.prog 78 [.sl none 4 (List.map aT p0)] h (fun r h' => r = .sc (.bool o) ∧ h' = h) := by
 refine fW 56 [.tmp 2] Tryz.func78 rfl rfl rfl rfl ?_
 unfold PX at m
 refine v (v (dH qG rfl ?_))
 refine eO m (σ := Int) (τ := Unit) (fun g s => []) (fun g s => .c 0 (.sl none 4 (List.map aT p0)) (.c 7 (.sl none 4 (List.map aT p0)) (.c 8 (nZ (p0.length : Int)) (.c 9 (nZ s) .nil)))) () (lx (.k4 .nil)) ?_ ?_
 rintro _ q0 x m
 replace m : tG w p0 q0 = some x := m
 unfold tG at m
 refine v (v ?_)
 refine vi m (fun c0 m => ?_) fun c0 m => ?_
 refine v (v (v ?_))
 refine vx m i9 rfl rfl fun x0 _ m => ?_
 refine va (.agg (aT x0)) LV rfl rfl ?_
 refine ve fun u => bE ([nZ 0, nZ 0, nZ 0, nZ 0]) u F8 rfl rfl fun k105 K0 => qk K0 rfl ?_
 refine ve fun u => aL 0 (aT x0) u rfl rfl rfl rfl LW rfl rfl fun K1 => qk K1 rfl ?_
 refine vs ?_
 refine cW m (σ := Bool) (τ := Unit) (fun g s => [(some k105, .obj 49 (aT x0))]) (fun g s => .c 0 (.sl none 4 (List.map aT p0)) (.c 4 (.ptr k105 0) (.c 5 (.sc (.bool s)) (.c 7 (.sl none 4 (List.map aT p0)) (.c 8 (nZ (p0.length : Int)) (.c 9 (nZ q0) .nil)))))) (fun x m => ?_) ?_
 refine v (vl 0 _ cG rfl rfl rfl ?_)
 refine vi m (fun b0 m => ?_) fun b0 m => ?_
 rw [b0]
 refine vl 0 _ cG rfl rfl rfl ?_
 refine vk xW mB m rfl rfl fun _ m => ?_
 exact bD m (lx (.k6 .nil))
 rw [b0]
 exact bD m (lx (.k6 .nil))
 rintro _ j0 m
 refine vs ?_
 refine cW m (σ := Bool) (τ := Unit) (fun g s => [(some k105, .obj 49 (aT x0))]) (fun g s => .c 0 (.sl none 4 (List.map aT p0)) (.c 4 (.ptr k105 0) (.c 5 (.sc (.bool j0)) (.c 6 (.sc (.bool s)) (.c 7 (.sl none 4 (List.map aT p0)) (.c 8 (nZ (p0.length : Int)) (.c 9 (nZ q0) .nil))))))) (fun x m => ?_) ?_
 refine v (vl 0 _ cG rfl rfl rfl ?_)
 refine vi m (fun b1 m => ?_) fun b1 m => ?_
 rw [b1]
 refine vl 0 _ cG rfl rfl rfl ?_
 exact bD m (lx (.k7 .nil))
 rw [b1]
 refine vl 0 _ cG rfl rfl rfl ?_
 refine vi m (fun b2 m => ?_) fun b2 m => ?_
 rw [b2]
 refine vl 0 _ cG rfl rfl rfl ?_
 exact bD m (lx (.k7 .nil))
 rw [b2]
 exact bD m (lx (.k7 .nil))
 rintro _ j1 m
 refine vs ?_
 refine cW m (σ := Bool) (τ := Unit) (fun g s => [(some k105, .obj 49 (aT x0))]) (fun g s => .c 0 (.sl none 4 (List.map aT p0)) (.c 7 (.sl none 4 (List.map aT p0)) (.c 8 (nZ (p0.length : Int)) (.c 9 (nZ q0) (.c 51 (.sc (.bool s)) .nil))))) (fun x m => ?_) ?_
 refine v (vl 0 _ cG rfl rfl rfl ?_)
 refine vk xW mB m rfl rfl fun _ m => ?_
 refine vi m (fun b3 m => ?_) fun b3 m => ?_
 rw [b3]
 exact bD m (lx (.k5 .nil))
 rw [b3]
 refine vl 0 _ cG rfl rfl rfl ?_
 refine vk xW mB m rfl rfl fun _ m => ?_
 refine vi m (fun b4 m => ?_) fun b4 m => ?_
 rw [b4]
 exact bD m (lx (.k5 .nil))
 rw [b4]
 refine vi m (fun b5 m => ?_) fun b5 m => ?_
 rw [b5]
 exact bD m (lx (.k5 .nil))
 rw [b5]
 exact bD m (lx (.k5 .nil))
 rintro _ j2 m
 refine v ?_
 refine vi m (fun c1 m => ?_) fun c1 m => ?_
 refine v (v ?_)
 refine gA m fun m => ?_
 injection m with m; subst m
 exact eM rfl
 refine v (v ?_)
 exact bD m (kR [] rfl rfl (.k4 .nil))
 refine v ?_
 exact iS m (lx (.k4 .nil))
 rintro _ r0 m
 refine v (dH qG rfl ?_)
 refine vk xW mB m rfl rfl fun _ m => ?_
 refine v ?_
 injection m with m; subst m
 exact eM rfl
theorem TT : aU Tryz.prog 78 = true := by kernel_rfl
def GP (m : Nat) (p0 : bI) (p1 : bI) : Option (Bool) :=
 if (p0.Vol != p1.Vol) = true then (some (decide (p1.Vol < p0.Vol))) else if (p0.File != p1.File) = true then (some (decide (p1.File < p0.File))) else some (decide (p1.Off < p0.Off))
theorem TU {w : Nat} {p0 : bI} {p1 : bI} {o : Bool} (h : aH) (m : GP w p0 p1 = some o) :
 aP Tryz.prog 183 [.agg (aQ p0), .agg (aQ p1)] h (fun r h' => r = .sc (.bool o) ∧ h' = h) := by
 refine fW 32 [.tmp 4] Tryz.func183 rfl rfl rfl rfl ?_
 unfold GP at m
 refine v ?_
 refine ve fun u => cQ u rfl rfl fun k2 K3 => qk K3 rfl ?_
 refine ve fun u => cQ u rfl rfl fun k5 K6 => qk K6 rfl ?_
 refine v (v (vl 1 _ cG rfl rfl rfl (vl 0 _ cG rfl rfl rfl (v ?_))))
 refine vi m (fun c0 m => ?_) fun c0 m => ?_
 refine v (vl 1 _ cG rfl rfl rfl (vl 0 _ cG rfl rfl rfl (v ?_)))
 cases m
 exact eM rfl
 refine v (vl 1 _ cG rfl rfl rfl (vl 0 _ cG rfl rfl rfl (v ?_)))
 refine vi m (fun c1 m => ?_) fun c1 m => ?_
 refine v (vl 1 _ cG rfl rfl rfl (vl 0 _ cG rfl rfl rfl (v ?_)))
 cases m
 exact eM rfl
 refine v (v (vl 1 _ cG rfl rfl rfl (vl 0 _ cG rfl rfl rfl (v ?_))))
 cases m
 exact eM rfl
theorem PY : aU Tryz.prog 183 = true := by kernel_rfl
def pC (m : Nat) (p0 : aB) (p1 : List bI) (q0 : Int) : Option (Lp (Int) (Bool)) :=
 if (decide (q0 < (p1.length : Int))) = true then ((ix p1 q0).bind fun x0 => after ((tF m x0.Vol 0 (IntKind.wrap .i64 ((p0.Vols.length : Int) - 1))).bind fun y0 => if (!y0) = true then (some (.brk true)) else (ix p0.Vols x0.Vol).bind fun x1 => if (x1.State != 2) = true then (some (.brk true)) else (ix p0.Vols x0.Vol).bind fun x2 => (tF m x0.File 1 x2.Files).bind fun y1 => if (!y1) = true then (some (.brk true)) else (tF m x0.Off 0 16777215).bind fun y2 => if (!y2) = true then (some (.brk true)) else (tF m x0.Len 13 8013).bind fun y3 => if (!y3) = true then (some (.brk true)) else if (decide (0 < q0)) = true then ((ix p1 (IntKind.wrap .i64 (q0 - 1))).bind fun x3 => (GP m x0 x3).bind fun y4 => some (.brk (!y4))) else some (.brk false) : Option (Lp (Bool) (Lp (Int) (Bool)))) fun j0 => if j0 = true then (some (.ret false)) else some (.go (IntKind.wrap .i64 (q0 + 1)))) else some (.brk q0)
def uZ (m : Nat) (p0 : aB) (p1 : List bI) : Option (Bool) :=
 if (decide (200 < (p1.length : Int))) = true then (some false) else after (aY (fun s => pC m p0 p1 s) m 0) fun r0 => some true
theorem EL {w : Nat} {p0 : aB} {p1 : List bI} {o : Bool} (h : aH) (m : uZ w p0 p1 = some o) :
 aP Tryz.prog 137 [.agg (aF p0), .sl none 4 (List.map aQ p1)] h (fun r h' => r = .sc (.bool o) ∧ h' = h) := by
 refine fW 75 [.tmp 4] Tryz.func137 rfl rfl rfl rfl ?_
 unfold uZ at m
 refine v ?_
 refine ve fun u => cQ u rfl rfl fun k2 K3 => qk K3 rfl ?_
 refine v (dH iF rfl (v ?_))
 refine vi m (fun c7 m => ?_) fun c7 m => ?_
 refine v (v ?_)
 injection m with m; subst m
 exact eM rfl
 refine v (v (dH iF rfl ?_))
 refine eO m (σ := Int) (τ := Unit) (fun g s => [(some k2, .obj 30 (aF p0))]) (fun g s => .c 1 (.sl none 4 (List.map aQ p1)) (.c 2 (.ptr k2 0) (.c 10 (.sl none 4 (List.map aQ p1)) (.c 11 (nZ (p1.length : Int)) (.c 12 (nZ s) .nil))))) () (lx (.k5 .nil)) ?_ ?_
 rintro _ q0 x m
 replace m : pC w p0 p1 q0 = some x := m
 unfold pC at m
 refine v (v ?_)
 refine vi m (fun c0 m => ?_) fun c0 m => ?_
 refine v (v (v ?_))
 refine vx m m7 rfl rfl fun x0 _ m => ?_
 refine va (.agg (aQ x0)) nA rfl rfl ?_
 refine ve fun u => bE ([nZ 0, nZ 0, nZ 0, nZ 0]) u EK rfl rfl fun k140 K0 => qk K0 rfl ?_
 refine ve fun u => aL 0 (aQ x0) u rfl rfl rfl rfl GG rfl rfl fun K1 => qk K1 rfl ?_
 refine vs ?_
 refine cW m (σ := Bool) (τ := Unit) (fun g s => [(some k140, .obj 81 (aQ x0)), (some k2, .obj 30 (aF p0))]) (fun g s => .c 1 (.sl none 4 (List.map aQ p1)) (.c 2 (.ptr k2 0) (.c 10 (.sl none 4 (List.map aQ p1)) (.c 11 (nZ (p1.length : Int)) (.c 12 (nZ q0) (.c 73 (.sc (.bool s)) .nil)))))) (fun x m => ?_) ?_
 refine v (vq (by kernel_rfl) (vl 0 _ cG rfl rfl rfl (vl 1 _ fZ rfl rfl rfl (dH qG rfl ?_))))
 refine vk xW mB m rfl rfl fun _ m => ?_
 refine vi m (fun b0 m => ?_) fun b0 m => ?_
 rw [b0]
 exact bD m (lx (.k6 .nil))
 rw [b0]
 refine vl 1 _ fZ rfl rfl rfl (vl 0 _ cG rfl rfl rfl ?_)
 refine vx m i9 rfl rfl fun _ _ m => ?_
 refine vi m (fun b1 m => ?_) fun b1 m => ?_
 rw [b1]
 exact bD m (lx (.k6 .nil))
 rw [b1]
 refine vl 0 _ cG rfl rfl rfl (vl 1 _ fZ rfl rfl rfl (vl 0 _ cG rfl rfl rfl ?_))
 refine vx m i9 rfl rfl fun _ _ m => ?_
 refine vk xW mB m rfl rfl fun _ m => ?_
 refine vi m (fun b2 m => ?_) fun b2 m => ?_
 rw [b2]
 exact bD m (lx (.k6 .nil))
 rw [b2]
 refine vl 0 _ cG rfl rfl rfl ?_
 refine vk xW mB m rfl rfl fun _ m => ?_
 refine vi m (fun b3 m => ?_) fun b3 m => ?_
 rw [b3]
 exact bD m (lx (.k6 .nil))
 rw [b3]
 refine vl 0 _ cG rfl rfl rfl ?_
 refine vk xW mB m rfl rfl fun _ m => ?_
 refine vi m (fun b4 m => ?_) fun b4 m => ?_
 rw [b4]
 exact bD m (lx (.k6 .nil))
 rw [b4]
 refine vi m (fun b5 m => ?_) fun b5 m => ?_
 rw [b5]
 refine vl 0 (.agg (aQ x0)) nA rfl rfl rfl ?_
 refine vx m m7 rfl rfl fun x1 _ m => ?_
 refine va (.agg (aQ x1)) nA rfl rfl ?_
 refine vk TU PY m rfl rfl fun _ m => ?_
 exact bD m (lx (.k6 .nil))
 rw [b5]
 exact bD m (lx (.k6 .nil))
 rintro _ j0 m
 refine v ?_
 refine vi m (fun c1 m => ?_) fun c1 m => ?_
 refine v (v ?_)
 refine gA m fun m => ?_
 injection m with m; subst m
 exact eM rfl
 refine v (v ?_)
 exact bD m (kR [1] rfl rfl (.k5 .nil))
 refine v ?_
 exact iS m (lx (.k5 .nil))
 rintro _ r0 m
 refine v (v ?_)
 injection m with m; subst m
 exact eM rfl
theorem wA : aU Tryz.prog 137 = true := by kernel_rfl
def pD (m : Nat) (p0 : ByteArray) (q0 : Int) : Option (Lp (Int) (Bool)) :=
 if (decide (q0 < (p0.size : Int))) = true then (after ((IQ p0 q0).bind fun x0 => if (decide (x0 < 33)) = true then (some (.brk true)) else (IQ p0 q0).bind fun x1 => some (.brk (decide (126 < x1))) : Option (Lp (Bool) (Lp (Int) (Bool)))) fun j0 => if j0 = true then (some (.ret false)) else some (.go (IntKind.wrap .i64 (q0 + 1)))) else some (.brk q0)
def EM (m : Nat) (p0 : ByteArray) : Option (Bool) :=
 after (if (decide ((p0.size : Int) < 1)) = true then (some (.brk true)) else some (.brk (decide (20 < (p0.size : Int)))) : Option (Lp (Bool) (Bool))) fun j5 => if j5 = true then (some false) else after (aY (fun s => pD m p0 s) m 0) fun r0 => some true
theorem PZ {u : Nat} {p0 : ByteArray} {o : Bool} (h : aH) (m : EM u p0 = some o) :
 aP Tryz.prog 164 [.sc (.string p0)] h (fun r h' => r = .sc (.bool o) ∧ h' = h) := by
 refine fW 28 [.tmp 2] Tryz.func164 rfl rfl rfl rfl ?_
 unfold EM at m
 refine v (vs (vs ?_))
 refine cW m (σ := Bool) (τ := Unit) (fun g s => []) (fun g s => .c 0 (.sc (.string p0)) (.c 11 (.sc (.bool s)) .nil)) (fun x m => ?_) ?_
 refine v (vn (fun _ => lW I2 rfl) ?_)
 refine vi m (fun b6 m => ?_) fun b6 m => ?_
 rw [b6]
 exact bD m (lx (.k2 .nil))
 rw [b6]
 refine vn (fun _ => lW I2 rfl) ?_
 exact bD m (lx (.k2 .nil))
 rintro _ j5 m
 refine v ?_
 refine vi m (fun c8 m => ?_) fun c8 m => ?_
 refine v (v ?_)
 injection m with m; subst m
 exact eM rfl
 refine v (v (vn (fun _ => lW I2 rfl) ?_))
 refine eO m (σ := Int) (τ := Unit) (fun g s => []) (fun g s => .c 0 (.sc (.string p0)) (.c 13 (nZ (p0.size : Int)) (.c 14 (nZ s) .nil))) () (lx (.k3 .nil)) ?_ ?_
 rintro _ q0 x m
 replace m : pD u p0 q0 = some x := m
 unfold pD at m
 refine v (v ?_)
 refine vi m (fun c0 m => ?_) fun c0 m => ?_
 refine v (v (v (vs ?_)))
 refine cW m (σ := Bool) (τ := Unit) (fun g s => []) (fun g s => .c 0 (.sc (.string p0)) (.c 13 (nZ (p0.size : Int)) (.c 14 (nZ q0) (.c 26 (.sc (.bool s)) .nil)))) (fun x m => ?_) ?_
 refine v ?_
 obtain ⟨_, X0, m⟩ := aC m
 refine vn (fun _ => DA X0 u9 rfl rfl) ?_
 refine vi m (fun b0 m => ?_) fun b0 m => ?_
 rw [b0]
 exact bD m (lx (.k4 .nil))
 rw [b0]
 obtain ⟨_, X1, m⟩ := aC m
 refine vn (fun _ => DA X1 u9 rfl rfl) ?_
 exact bD m (lx (.k4 .nil))
 rintro _ j0 m
 refine v ?_
 refine vi m (fun c1 m => ?_) fun c1 m => ?_
 refine v (v ?_)
 refine gA m fun m => ?_
 injection m with m; subst m
 exact eM rfl
 refine v (v ?_)
 exact bD m (lx (.k3 .nil))
 refine v ?_
 exact iS m (lx (.k3 .nil))
 rintro _ r0 m
 refine v (v ?_)
 injection m with m; subst m
 exact eM rfl
theorem KB : aU Tryz.prog 164 = true := by kernel_rfl
def GQ (m : Nat) (p0 : dV) : Option (Bool) :=
 after ((EM m p0.Path).bind fun y0 => if y0 = true then (if (decide (0 ≤ p0.Size)) = true then (if (decide (p0.Size ≤ 200)) = true then (if (decide ((p0.Ids.length : Int) ≤ 25)) = true then (some (.brk (((p0.Ids.length : Int) == 0) == (p0.Size == 0)))) else some (.brk false)) else some (.brk false)) else some (.brk false)) else some (.brk false) : Option (Lp (Bool) (Bool))) fun j0 => some j0
theorem TV {w : Nat} {p0 : dV} {o : Bool} (h : aH) (m : GQ w p0 = some o) :
 aP Tryz.prog 165 [.agg (bV p0)] h (fun r h' => r = .sc (.bool o) ∧ h' = h) := by
 refine fW 32 [.tmp 2] Tryz.func165 rfl rfl rfl rfl ?_
 unfold GQ at m
 refine v ?_
 refine ve fun u => cQ u rfl rfl fun k2 K3 => qk K3 rfl ?_
 refine vs ?_
 refine cW m (σ := Bool) (τ := Unit) (fun g s => [(some k2, .obj 70 (bV p0))]) (fun g s => .c 2 (.sc (.bool s)) .nil) (fun x m => ?_) ?_
 refine v (vl 0 _ uP rfl rfl rfl ?_)
 refine vk PZ KB m rfl rfl fun _ m => ?_
 refine vi m (fun b0 m => ?_) fun b0 m => ?_
 rw [b0]
 refine vl 0 _ cG rfl rfl rfl ?_
 refine vi m (fun b1 m => ?_) fun b1 m => ?_
 rw [b1]
 refine vl 0 _ cG rfl rfl rfl ?_
 refine vi m (fun b2 m => ?_) fun b2 m => ?_
 rw [b2]
 refine vl 0 _ rM rfl rfl rfl (dH pA rfl ?_)
 refine vi m (fun b3 m => ?_) fun b3 m => ?_
 rw [b3]
 refine vl 0 _ rM rfl rfl rfl (dH pA rfl (vl 0 _ cG rfl rfl rfl (vn (fun _ => LH u4 rfl rfl rfl) ?_)))
 exact bD m (lx (.cons (aX.refl _ _) .nil))
 rw [b3]
 exact bD m (lx (.cons (aX.refl _ _) .nil))
 rw [b2]
 exact bD m (lx (.cons (aX.refl _ _) .nil))
 rw [b1]
 exact bD m (lx (.cons (aX.refl _ _) .nil))
 rw [b0]
 exact bD m (lx (.cons (aX.refl _ _) .nil))
 rintro _ j0 m
 refine v ?_
 injection m with m; subst m
 exact eM rfl
theorem P0 : aU Tryz.prog 165 = true := by kernel_rfl
def pE (m : Nat) (p0 : a9) (q0 : Int) : Option (Lp (Int) (Int)) :=
 if (decide (q0 < (p0.Parts.length : Int))) = true then ((ix p0.Parts q0).bind fun x0 => after ((GQ m x0).bind fun y0 => if (!y0) = true then (some (.brk true)) else if (decide (0 < q0)) = true then ((ix p0.Parts (IntKind.wrap .i64 (q0 - 1))).bind fun x1 => some (.brk (Op.bytesLess x0.Path.toList x1.Path.toList || x0.Path.toList == x1.Path.toList))) else some (.brk false) : Option (Lp (Bool) (Lp (Int) (Int)))) fun j0 => if j0 = true then (some (.ret 1)) else some (.go (IntKind.wrap .i64 (q0 + 1)))) else some (.brk q0)
def AL (m : Nat) (p0 : a9) : Option (Int) :=
 after ((EM m p0.Name).bind fun y0 => if (!y0) = true then (some (.brk true)) else some (.brk (decide (6 < (p0.Parts.length : Int)))) : Option (Lp (Bool) (Int))) fun j0 => if j0 = true then (some 1) else after (aY (fun s => pE m p0 s) m 0) fun r0 => some 0
theorem I9 {w : Nat} {p0 : a9} {o : Int} (h : aH) (m : AL w p0 = some o) :
 aP Tryz.prog 100 [.agg (bC p0)] h (fun r h' => r = nZ o ∧ h' = h) := by
 refine fW 43 [.tmp 2] Tryz.func100 rfl rfl rfl rfl ?_
 unfold AL at m
 refine v ?_
 refine ve fun u => cQ u rfl rfl fun k2 K3 => qk K3 rfl ?_
 refine vs (vs ?_)
 refine cW m (σ := Bool) (τ := Unit) (fun g s => [(some k2, .obj 58 (bC p0))]) (fun g s => .c 1 (.ptr k2 0) (.c 14 (.sc (.bool s)) .nil)) (fun x m => ?_) ?_
 refine v (vl 0 _ uP rfl rfl rfl ?_)
 refine vk PZ KB m rfl rfl fun _ m => ?_
 refine vi m (fun b0 m => ?_) fun b0 m => ?_
 rw [b0]
 exact bD m (lx (.k2 .nil))
 rw [b0]
 refine vl 0 _ lG rfl rfl rfl (dH rK rfl ?_)
 exact bD m (lx (.k2 .nil))
 rintro _ j0 m
 refine v ?_
 refine vi m (fun c0 m => ?_) fun c0 m => ?_
 refine v (v ?_)
 injection m with m; subst m
 exact eM rfl
 refine v (v (vl 0 _ lG rfl rfl rfl (dH rK rfl ?_)))
 refine eO m (σ := Int) (τ := Unit) (fun g s => [(some k2, .obj 58 (bC p0))]) (fun g s => .c 1 (.ptr k2 0) (.c 16 (.sl none 3 (List.map bV p0.Parts)) (.c 17 (nZ (p0.Parts.length : Int)) (.c 18 (nZ s) .nil)))) () (lx (.k4 .nil)) ?_ ?_
 rintro _ q0 x m
 replace m : pE w p0 q0 = some x := m
 unfold pE at m
 refine v (v ?_)
 refine vi m (fun c1 m => ?_) fun c1 m => ?_
 refine v (v (v ?_))
 refine vx m o9 rfl rfl fun x0 _ m => ?_
 refine va (.agg (bV x0)) AJ rfl rfl ?_
 refine ve fun u => bE ([.sc (.string ByteArray.empty), nZ 0, sZ]) u CC rfl rfl fun k84 K0 => qk K0 rfl ?_
 refine ve fun u => aL 0 (bV x0) u rfl rfl rfl rfl EJ rfl rfl fun K1 => qk K1 rfl ?_
 refine vs ?_
 refine cW m (σ := Bool) (τ := Unit) (fun g s => [(some k84, .obj 70 (bV x0)), (some k2, .obj 58 (bC p0))]) (fun g s => .c 1 (.ptr k2 0) (.c 16 (.sl none 3 (List.map bV p0.Parts)) (.c 17 (nZ (p0.Parts.length : Int)) (.c 18 (nZ q0) (.c 41 (.sc (.bool s)) .nil))))) (fun x m => ?_) ?_
 refine v (vq (by kernel_rfl) (vl 0 (.agg (bV x0)) AJ rfl rfl rfl ?_))
 refine vk TV P0 m rfl rfl fun _ m => ?_
 refine vi m (fun b1 m => ?_) fun b1 m => ?_
 rw [b1]
 exact bD m (lx (.k5 .nil))
 rw [b1]
 refine vi m (fun b2 m => ?_) fun b2 m => ?_
 rw [b2]
 refine vl 0 _ uP rfl rfl rfl (vl 1 _ lG rfl rfl rfl ?_)
 refine vx m o9 rfl rfl fun _ _ m => ?_
 refine vn (fun _ => wV rfl rfl rfl trivial) ?_
 exact bD m (lx (.k5 .nil))
 rw [b2]
 exact bD m (lx (.k5 .nil))
 rintro _ j1 m
 refine v ?_
 refine vi m (fun c2 m => ?_) fun c2 m => ?_
 refine v (v ?_)
 refine gA m fun m => ?_
 injection m with m; subst m
 exact eM rfl
 refine v (v ?_)
 exact bD m (kR [1] rfl rfl (.k4 .nil))
 refine v ?_
 exact iS m (lx (.k4 .nil))
 rintro _ r0 m
 refine v (v ?_)
 injection m with m; subst m
 exact eM rfl
theorem DG : aU Tryz.prog 100 = true := by kernel_rfl
def pF (m : Nat) (p0 : List aA) (p1 : bP) (p2 : aA → bP → Option Int) (q0 : Int) (q1 : Int) : Option (Lp (Int × Int) (Int × Bool)) :=
 if (decide (q0 < q1)) = true then ((ix p0 (IntKind.wrap .i64 ((IntKind.wrap .u64 (IntKind.wrap .i64 (q0 + q1))).fdiv (2 ^ (min (1 : Int).toNat (IntKind.bits .u64)))))).bind fun x0 => (p2 x0 p1).bind fun y0 => after (if (decide (y0 < 0)) = true then (some (.brk (IntKind.wrap .i64 ((IntKind.wrap .i64 ((IntKind.wrap .u64 (IntKind.wrap .i64 (q0 + q1))).fdiv (2 ^ (min (1 : Int).toNat (IntKind.bits .u64))))) + 1), q1))) else some (.brk (q0, IntKind.wrap .i64 ((IntKind.wrap .u64 (IntKind.wrap .i64 (q0 + q1))).fdiv (2 ^ (min (1 : Int).toNat (IntKind.bits .u64)))))) : Option (Lp (Int × Int) (Lp (Int × Int) (Int × Bool)))) fun ⟨j0, j1⟩ => some (.go (j0, j1))) else some (.brk (q0, q1))
def JA (m : Nat) (p0 : List aA) (p1 : bP) (p2 : aA → bP → Option Int) : Option (Int × Bool) :=
 after (aY (fun s => pF m p0 p1 p2 s.1 s.2) m (0, (p0.length : Int))) fun ⟨r0, r1⟩ => after (if (decide (r0 < (p0.length : Int))) = true then ((ix p0 r0).bind fun x0 => (p2 x0 p1).bind fun y0 => some (.brk (r0, (y0 == 0)))) else some (.brk (r0, false)) : Option (Lp (Int × Bool) (Int × Bool))) fun ⟨j0, j1⟩ => some (j0, j1)
theorem TW {w : Nat} {p0 : List aA} {p1 : bP} {p2 : aA → bP → Option Int} {o : Int × Bool} (h : aH) {p2F : Nat} {p2C : List AV} (p2B : aU Tryz.prog p2F = true) (p2H : ∀ x0 x1 o h0, gX h h0 → p2 x0 x1 = some o → aP Tryz.prog p2F ([.agg (aD x0), .agg (bF x1)] ++ p2C) h0 (fun r h' => r = nZ o ∧ h' = h0)) (m : JA w p0 p1 p2 = some o) :
 aP Tryz.prog 171 [.sl none 35 (List.map aD p0), .agg (bF p1), .fn (.func p2F) p2C] h (fun r h' => r = .tup [nZ o.1, .sc (.bool o.2)] ∧ h' = h) := by
 refine fW 49 [.tmp 6, .tmp 7] Tryz.func171 rfl rfl rfl rfl ?_
 unfold JA at m
 refine v ?_
 refine ve fun u => cQ u rfl rfl fun k2 K3 => qk K3 rfl ?_
 refine v (dH hS rfl (v (vs ?_)))
 refine eO m (σ := Int × Int) (τ := Unit) (fun g s => [(some k2, .obj 36 (bF p1))]) (fun g s => .c 0 (.sl none 35 (List.map aD p0)) (.c 2 (.fn (.func p2F) p2C) (.c 4 (.ptr k2 0) (.c 8 (nZ (p0.length : Int)) (.c 9 (nZ s.1) (.c 10 (nZ s.2) .nil)))))) () (lx (.k6 .nil)) ?_ ?_
 rintro _ ⟨q0, q1⟩ x m
 replace m : pF w p0 p1 p2 q0 q1 = some x := m
 unfold pF at m
 refine v (v ?_)
 refine vi m (fun c0 m => ?_) fun c0 m => ?_
 refine v (v (v (v (vq (by kernel_rfl) ?_))))
 refine vx m eW rfl rfl fun x2 _ m => ?_
 refine va (.agg (aD x2)) lF rfl rfl (vl 0 (.agg (bF p1)) fV rfl rfl rfl ?_)
 obtain ⟨_, Y0, m⟩ := aC m
 refine vn (fun u => cE (p2H _ _ _ _ (aV (List.nil_sublist _) u).1 Y0) rfl p2B rfl) ?_
 refine cW m (σ := Int × Int) (τ := Unit) (fun g s => [(some k2, .obj 36 (bF p1))]) (fun g s => .c 0 (.sl none 35 (List.map aD p0)) (.c 2 (.fn (.func p2F) p2C) (.c 4 (.ptr k2 0) (.c 8 (nZ (p0.length : Int)) (.c 9 (nZ s.1) (.c 10 (nZ s.2) .nil)))))) (fun x m => ?_) ?_
 refine v ?_
 refine vi m (fun c1 m => ?_) fun c1 m => ?_
 refine v ?_
 exact bD m (lx (.k6 .nil))
 refine v ?_
 exact bD m (lx (.k6 .nil))
 rintro _ ⟨j0, j1⟩ m
 exact bD m (lx (.k6 .nil))
 refine v ?_
 exact iS m (lx (.k6 .nil))
 rintro _ ⟨r0, r1⟩ m
 refine vs ?_
 refine cW m (σ := Int × Bool) (τ := Unit) (fun g s => [(some k2, .obj 36 (bF p1))]) (fun g s => .c 6 (nZ s.1) (.c 7 (.sc (.bool s.2)) .nil)) (fun x m => ?_) ?_
 refine v (vq (by kernel_rfl) ?_)
 refine vi m (fun b0 m => ?_) fun b0 m => ?_
 rw [b0]
 refine vx m eW rfl rfl fun x3 _ m => ?_
 refine va (.agg (aD x3)) lF rfl rfl (vl 0 (.agg (bF p1)) fV rfl rfl rfl ?_)
 obtain ⟨_, Y1, m⟩ := aC m
 refine vn (fun u => cE (p2H _ _ _ _ (aV (List.nil_sublist _) u).1 Y1) rfl p2B rfl) ?_
 exact bD m (lx (.k2 .nil))
 rw [b0]
 exact bD m (lx (.k2 .nil))
 rintro _ ⟨j2, j3⟩ m
 refine v ?_
 cases m
 exact XL rfl rfl
theorem P1 : aU Tryz.prog 171 = true := by kernel_rfl
def pG (m : Nat) (p0 : List aE) (p1 : aE → Option Bool) (q0 : Int) : Option (Lp (Int) (Int)) :=
 if (decide (q0 < (p0.length : Int))) = true then ((ix p0 q0).bind fun x0 => (p1 x0).bind fun y0 => if y0 = true then (some (.ret q0)) else some (.go (IntKind.wrap .i64 (q0 + 1)))) else some (.brk q0)
def GS (m : Nat) (p0 : List aE) (p1 : aE → Option Bool) : Option (Int) :=
 after (aY (fun s => pG m p0 p1 s) m 0) fun r0 => some (-1)
theorem P2 {w : Nat} {p0 : List aE} {p1 : aE → Option Bool} {o : Int} (h : aH) {p1F : Nat} {p1C : List AV} (p1B : aU Tryz.prog p1F = true) (p1H : ∀ x0 o h0, gX h h0 → p1 x0 = some o → aP Tryz.prog p1F ([.agg (aN x0)] ++ p1C) h0 (fun r h' => r = .sc (.bool o) ∧ h' = h0)) (m : GS w p0 p1 = some o) :
 aP Tryz.prog 103 [.sl none 4 (List.map aN p0), .fn (.func p1F) p1C] h (fun r h' => r = nZ o ∧ h' = h) := by
 refine fW 19 [.tmp 4] Tryz.func103 rfl rfl rfl rfl ?_
 unfold GS at m
 refine v (v (dH kH rfl ?_))
 refine eO m (σ := Int) (τ := Unit) (fun g s => []) (fun g s => .c 0 (.sl none 4 (List.map aN p0)) (.c 1 (.fn (.func p1F) p1C) (.c 7 (nZ (p0.length : Int)) (.c 8 (nZ s) .nil)))) () (lx (.k4 .nil)) ?_ ?_
 rintro _ q0 x m
 replace m : pG w p0 p1 q0 = some x := m
 unfold pG at m
 refine v (v ?_)
 refine vi m (fun c0 m => ?_) fun c0 m => ?_
 refine v (v (v (v ?_)))
 refine vx m kJ rfl rfl fun x1 _ m => ?_
 refine va (.agg (aN x1)) AI rfl rfl ?_
 obtain ⟨_, Y0, m⟩ := aC m
 refine vn (fun u => cE (p1H _ _ _ (aV (List.nil_sublist _) u).1 Y0) rfl p1B rfl) (v ?_)
 refine vi m (fun c1 m => ?_) fun c1 m => ?_
 refine v (v ?_)
 refine gA m fun m => ?_
 injection m with m; subst m
 exact eM rfl
 refine v (v ?_)
 exact bD m (lx (.k4 .nil))
 refine v ?_
 exact iS m (lx (.k4 .nil))
 rintro _ r0 m
 refine v (v ?_)
 cases m
 exact eM rfl
theorem KC : aU Tryz.prog 103 = true := by kernel_rfl
def OD (m : Nat) (p0 : List aE) (p1 : aE → Option Bool) : Option (Bool) :=
 (GS m p0 p1).bind fun y3 => some (decide (0 ≤ y3))
theorem YN {w : Nat} {p0 : List aE} {p1 : aE → Option Bool} {o : Bool} (h : aH) {p1F : Nat} {p1C : List AV} (p1B : aU Tryz.prog p1F = true) (p1H : ∀ x0 o h0, gX h h0 → p1 x0 = some o → aP Tryz.prog p1F ([.agg (aN x0)] ++ p1C) h0 (fun r h' => r = .sc (.bool o) ∧ h' = h0)) (m : OD w p0 p1 = some o) :
 aP Tryz.prog 58 [.sl none 4 (List.map aN p0), .fn (.func p1F) p1C] h (fun r h' => r = .sc (.bool o) ∧ h' = h) := by
 refine fW 9 [.tmp 4] Tryz.func58 rfl rfl rfl rfl ?_
 unfold OD at m
 refine v (v ?_)
 obtain ⟨_, Y4, m⟩ := aC m
 refine vn (fun u => cE (P2 _ p1B (fun x0 o h0 hs ho => p1H x0 o h0 ((aV (List.nil_sublist _) u).1.trans hs) ho) Y4) rfl KC rfl) (v ?_)
 cases m
 exact eM rfl
theorem TX : aU Tryz.prog 58 = true := by kernel_rfl
def JC (m : Nat) (p0 : aE) (c0 : aI) : Option (Bool) :=
 some (p0.Seq == c0.Of)
theorem TY {w : Nat} {p0 : aE} {c0 : aI} {o : Bool} (h : aH) {c0K : bZ} (c0H : h c0K = some (.obj 99 (aR c0))) (m : JC w p0 c0 = some o) :
 aP Tryz.prog 138 [.agg (aN p0), .ptr c0K 0] h (fun r h' => r = .sc (.bool o) ∧ h' = h) := by
 refine fW 9 [.tmp 3] Tryz.func138 rfl rfl rfl rfl ?_
 unfold JC at m
 refine v ?_
 refine ve fun u => cQ u rfl rfl fun k2 K3 => qk K3 rfl ?_
 refine v (vl 0 _ cG rfl rfl rfl (vn (fun u => bH (nZ c0.Of) cG rfl (oY u c0H) rfl) (v ?_)))
 cases m
 exact eM rfl
theorem P3 : aU Tryz.prog 138 = true := by kernel_rfl
def qK (m : Nat) (p0 : aB) (q0 : Int) : Option (Lp (Int) (Bool)) :=
 if (decide (q0 < (p0.Exps.length : Int))) = true then ((ix p0.Exps q0).bind fun x1 => after ((tF m x1.Seq 0 (IntKind.wrap .i64 (p0.Seq - 1))).bind fun y0 => if (!y0) = true then (some (.brk true)) else if (decide (0 < q0)) = true then ((ix p0.Exps (IntKind.wrap .i64 (q0 - 1))).bind fun x2 => if (decide (x1.Seq ≤ x2.Seq)) = true then (some (.brk true)) else (tF m x1.Of 0 (IntKind.wrap .i64 (x1.Seq - 1))).bind fun y1 => if (!y1) = true then (some (.brk true)) else if ((x1.Locs.length : Int) == 0) = true then (some (.brk true)) else (uZ m p0 x1.Locs).bind fun y2 => some (.brk (!y2))) else (tF m x1.Of 0 (IntKind.wrap .i64 (x1.Seq - 1))).bind fun y3 => if (!y3) = true then (some (.brk true)) else if ((x1.Locs.length : Int) == 0) = true then (some (.brk true)) else (uZ m p0 x1.Locs).bind fun y4 => some (.brk (!y4)) : Option (Lp (Bool) (Lp (Int) (Bool)))) fun j0 => if j0 = true then (some (.ret false)) else (OD m p0.Snaps (fun x0 => JC m x0 x1)).bind fun y5 => if y5 = true then (some (.ret false)) else some (.go (IntKind.wrap .i64 (q0 + 1)))) else some (.brk q0)
def P4 (m : Nat) (p0 : aB) : Option (Bool) :=
 after (aY (fun s => qK m p0 s) m 0) fun r0 => some (decide ((p0.Exps.length : Int) ≤ 200))
theorem YO {w : Nat} {p0 : aB} {o : Bool} (h : aH) (m : P4 w p0 = some o) :
 aP Tryz.prog 81 [.agg (aF p0)] h (fun r h' => r = .sc (.bool o) ∧ h' = h) := by
 refine fW 67 [.tmp 2] Tryz.func81 rfl rfl rfl rfl ?_
 unfold P4 at m
 refine v ?_
 refine ve fun u => cQ u rfl rfl fun k2 K3 => qk K3 rfl ?_
 refine v (vl 0 _ iK rfl rfl rfl (dH o7 rfl ?_))
 refine eO m (σ := Int) (τ := Unit) (fun g s => [(some k2, .obj 30 (aF p0))]) (fun g s => .c 1 (.ptr k2 0) (.c 6 (.sl none 3 (List.map aR p0.Exps)) (.c 7 (nZ (p0.Exps.length : Int)) (.c 8 (nZ s) .nil)))) () (lx (.k4 .nil)) ?_ ?_
 rintro _ q0 x m
 replace m : qK w p0 q0 = some x := m
 unfold qK at m
 refine v (v ?_)
 refine vi m (fun c0 m => ?_) fun c0 m => ?_
 refine v (v (v ?_))
 refine vx m jQ rfl rfl fun x0 _ m => ?_
 refine va (.agg (aR x0)) tD rfl rfl ?_
 refine ve fun u => bE ([nZ 0, nZ 0, sZ]) u qJ rfl rfl fun k136 K0 => qk K0 rfl ?_
 refine ve fun u => aL 0 (aR x0) u rfl rfl rfl rfl CD rfl rfl fun K1 => qk K1 rfl ?_
 refine vs (vs ?_)
 refine cW m (σ := Bool) (τ := Unit) (fun g s => [(some k136, .obj 99 (aR x0)), (some k2, .obj 30 (aF p0))]) (fun g s => .c 1 (.ptr k2 0) (.c 4 (.ptr k136 0) (.c 6 (.sl none 3 (List.map aR p0.Exps)) (.c 7 (nZ (p0.Exps.length : Int)) (.c 8 (nZ q0) (.c 57 (.sc (.bool s)) .nil)))))) (fun x m => ?_) ?_
 refine v (vq (by kernel_rfl) (vl 0 _ cG rfl rfl rfl (vl 1 _ cG rfl rfl rfl ?_)))
 refine vk xW mB m rfl rfl fun _ m => ?_
 refine vi m (fun b0 m => ?_) fun b0 m => ?_
 rw [b0]
 exact bD m (lx (.k6 .nil))
 rw [b0]
 refine vi m (fun b1 m => ?_) fun b1 m => ?_
 rw [b1]
 refine vl 1 _ iK rfl rfl rfl ?_
 refine vx m jQ rfl rfl fun _ _ m => ?_
 refine vl 0 _ cG rfl rfl rfl ?_
 refine vi m (fun b2 m => ?_) fun b2 m => ?_
 rw [b2]
 exact bD m (lx (.k6 .nil))
 rw [b2]
 refine vl 0 _ cG rfl rfl rfl (vl 0 _ cG rfl rfl rfl ?_)
 refine vk xW mB m rfl rfl fun _ m => ?_
 refine vi m (fun b3 m => ?_) fun b3 m => ?_
 rw [b3]
 exact bD m (lx (.k6 .nil))
 rw [b3]
 refine vl 0 _ fE rfl rfl rfl (dH iF rfl ?_)
 refine vi m (fun b4 m => ?_) fun b4 m => ?_
 rw [b4]
 exact bD m (lx (.k6 .nil))
 rw [b4]
 refine vl 1 (.agg (aF p0)) eK rfl rfl rfl (vl 0 _ fE rfl rfl rfl ?_)
 refine vk EL wA m rfl rfl fun _ m => ?_
 exact bD m (lx (.k6 .nil))
 rw [b1]
 refine vl 0 _ cG rfl rfl rfl (vl 0 _ cG rfl rfl rfl ?_)
 refine vk xW mB m rfl rfl fun _ m => ?_
 refine vi m (fun b5 m => ?_) fun b5 m => ?_
 rw [b5]
 exact bD m (lx (.k6 .nil))
 rw [b5]
 refine vl 0 _ fE rfl rfl rfl (dH iF rfl ?_)
 refine vi m (fun b6 m => ?_) fun b6 m => ?_
 rw [b6]
 exact bD m (lx (.k6 .nil))
 rw [b6]
 refine vl 1 (.agg (aF p0)) eK rfl rfl rfl (vl 0 _ fE rfl rfl rfl ?_)
 refine vk EL wA m rfl rfl fun _ m => ?_
 exact bD m (lx (.k6 .nil))
 rintro _ j0 m
 refine v ?_
 refine vi m (fun c1 m => ?_) fun c1 m => ?_
 refine v (v ?_)
 refine gA m fun m => ?_
 injection m with m; subst m
 exact eM rfl
 refine v (v (vl 1 _ fK rfl rfl rfl ?_))
 obtain ⟨_, Y0, m⟩ := aC m
 refine vn (fun u => cE (YN _ P3 (fun _ o h0 hs ho => TY _ (hs _ _ (bB 0 u rfl)) ho) Y0) rfl TX rfl) (v ?_)
 refine vi m (fun c2 m => ?_) fun c2 m => ?_
 refine v (v ?_)
 refine gA m fun m => ?_
 injection m with m; subst m
 exact eM rfl
 refine v (v ?_)
 exact bD m (kR [1] rfl rfl (.k4 .nil))
 refine v ?_
 exact iS m (lx (.k4 .nil))
 rintro _ r0 m
 refine v (vl 0 _ iK rfl rfl rfl (dH o7 rfl (v ?_)))
 cases m
 exact eM rfl
theorem TZ : aU Tryz.prog 81 = true := by kernel_rfl
open Go.Vm
theorem T0 : PC Tryz.prog 190 := ⟨Tryz.f190, Tryz.func190, by kernel_rfl, by kernel_rfl, rfl, rfl⟩
theorem T1 {a b : AV} {xs ys : List Int} (h : aH) (h1 : IA Tryz.prog h a xs) (h2 : IA Tryz.prog h b ys) : aP Tryz.prog 182 [a, b] h (fun r h' => r = nZ (BV xs ys) ∧ h' = h) := by
 refine iA 8 [.tmp 4] Tryz.func182 rfl rfl rfl rfl ?_
 refine fU fun K1 H1 => dW (vC rfl (e9 (H1 _ _ (fU fun K1 H1 => dW (oN (bN a rfl) (oN (bN b rfl) (oN (PD T0 rfl rfl h1 h2) (vC rfl (e9 (H1 _ _ (gN ?_)))))))))))
 exact dY.one (.inl rfl) (gX.refl _) (aX.refl _ _) ⟨rfl, rfl⟩
theorem P5 : aU Tryz.prog 182 = true := by kernel_rfl
def EN (m : Nat) (p0 : bP) (p1 : bP) : Option (Int) :=
 some (BV p0.1 p1.1)
theorem P6 {w : Nat} {p0 : bP} {p1 : bP} {o : Int} (h : aH) (m : EN w p0 p1 = some o) :
 aP Tryz.prog 136 [.agg (bF p0), .agg (bF p1)] h (fun r h' => r = nZ o ∧ h' = h) := by
 refine fW 8 [.tmp 4] Tryz.func136 rfl rfl rfl rfl ?_
 unfold EN at m
 refine v ?_
 refine ve fun u => cQ u rfl rfl fun k2 K3 => qk K3 rfl ?_
 refine ve fun u => cQ u rfl rfl fun k5 K6 => qk K6 rfl ?_
 refine v (vq (by kernel_rfl) (vn (fun _ => z8 o8 rfl) (vn (fun _ => z8 o8 rfl) (vn (fun u => cE (T1 _ (IA.view (bB 1 u rfl) rfl) (IA.view (bB 0 u rfl) rfl)) rfl P5 rfl) (v ?_)))))
 cases m
 exact eM rfl
theorem KD : aU Tryz.prog 136 = true := by kernel_rfl
def MJ (m : Nat) (p0 : List Int) : Option (List Int) := app [] p0
theorem S1 {w : Nat} {p0 : List Int} {o : List Int} (h : aH) (m : MJ w p0 = some o) :
 aP Tryz.prog 96 [.sl none 1 (List.map cZ p0)] h (fun r h' => ∃ t, (t = none → o = []) ∧ bS h [(t, .tok 5 1 (o.length * 1))] ∧ r = ow t 1 (List.map cZ o) ∧ h' = hp h [(t, .tok 5 1 (o.length * 1))]) := by
 refine iA 8 [.tmp 2] Tryz.func96 rfl rfl rfl rfl ?_
 unfold MJ at m
 refine fU fun K1 H1 => dW (oN (gU (.sc (.slice _ _ _)) rfl) (e9 (H1 _ _ (fU fun K1 H1 => fU fun K2 H2 => dW (vE rfl ?_)))))
 refine jE (iM rfl (by rw [F7]; rfl) (by rw [bG]; exact rfl) (.inl ⟨_, _, _, rfl, fun b hb => ?_⟩))
 refine e9 (H2 _ _ ?_)
 refine lA rfl (fun hc => ?_) (fun hc => ?_)
 have h0 : p0 = [] := by
   cases p0 with
   | nil => rfl
   | cons x l => have := hb (by simp); rw [this] at hc; cases hc
 subst h0
 obtain ⟨rfl, -⟩ := hH m
 refine fU fun K1 H1 => dW (oN (gU (.sc (.slice _ _ _)) rfl) (e9 (H1 _ _ (gN ?_))))
 exact dY.one (.inl rfl) (gX.refl _) (hM _ _) ⟨none, fun _ => rfl, bS.none (bS.nil _), rfl, rfl⟩
 refine jM (H1 _ _ (fU fun K1 H1 => dW ?_))
 refine jE (FM (c := cZ) (bS.nil _) hU fun u => ?_)
 refine vE rfl ?_
 refine jE (eS (c := cZ) 0 m hU rfl rfl rfl (fun _ => rfl) u rfl fun tg ot u => ?_)
 refine oN (gU (ow _ _ _) rfl) (e9 (H1 _ _ (gN ?_)))
 exact dY.one (.inl rfl) (gX.refl _) (aX.refl _ _) ⟨tg, ot, u, rfl, rfl⟩
theorem JD : aU Tryz.prog 96 = true := by kernel_rfl
def qL (m : Nat) (p0 : aB) (q0 : Int) : Option (Lp (Int) (Bool)) :=
 if (decide (q0 < (p0.Chunks.length : Int))) = true then ((ix p0.Chunks q0).bind fun x0 => after (if (decide (0 < q0)) = true then ((ix p0.Chunks (IntKind.wrap .i64 (q0 - 1))).bind fun x1 => (EN m x1.Id x0.Id).bind fun y0 => if (decide (0 ≤ y0)) = true then (some (.brk true)) else (uZ m p0 x0.Locs).bind fun y1 => if (!y1) = true then (some (.brk true)) else if (!x0.Staged) = true then (if (decide (0 < (x0.Data.length : Int))) = true then (some (.brk true)) else if ((x0.Locs.length : Int) == 0) = true then (some (.brk true)) else if x0.Staged = true then ((tF m (x0.Data.length : Int) 1 64).bind fun y2 => some (.brk (!y2))) else some (.brk false)) else if x0.Staged = true then ((tF m (x0.Data.length : Int) 1 64).bind fun y3 => some (.brk (!y3))) else some (.brk false)) else (uZ m p0 x0.Locs).bind fun y4 => if (!y4) = true then (some (.brk true)) else if (!x0.Staged) = true then (if (decide (0 < (x0.Data.length : Int))) = true then (some (.brk true)) else if ((x0.Locs.length : Int) == 0) = true then (some (.brk true)) else if x0.Staged = true then ((tF m (x0.Data.length : Int) 1 64).bind fun y5 => some (.brk (!y5))) else some (.brk false)) else if x0.Staged = true then ((tF m (x0.Data.length : Int) 1 64).bind fun y6 => some (.brk (!y6))) else some (.brk false) : Option (Lp (Bool) (Lp (Int) (Bool)))) fun j0 => if j0 = true then (some (.ret false)) else some (.go (IntKind.wrap .i64 (q0 + 1)))) else some (.brk q0)
def P7 (m : Nat) (p0 : aB) : Option (Bool) :=
 after (aY (fun s => qL m p0 s) m 0) fun r0 => some (decide ((p0.Chunks.length : Int) ≤ 200))
theorem YP {w : Nat} {p0 : aB} {o : Bool} (h : aH) (m : P7 w p0 = some o) :
 aP Tryz.prog 79 [.agg (aF p0)] h (fun r h' => r = .sc (.bool o) ∧ h' = h) := by
 refine fW 68 [.tmp 2] Tryz.func79 rfl rfl rfl rfl ?_
 unfold P7 at m
 refine v ?_
 refine ve fun u => cQ u rfl rfl fun k2 K3 => qk K3 rfl ?_
 refine v (vl 0 _ eF rfl rfl rfl (dH hS rfl ?_))
 refine eO m (σ := Int) (τ := Unit) (fun g s => [(some k2, .obj 30 (aF p0))]) (fun g s => .c 1 (.ptr k2 0) (.c 6 (.sl none 35 (List.map aD p0.Chunks)) (.c 7 (nZ (p0.Chunks.length : Int)) (.c 8 (nZ s) .nil)))) () (lx (.k4 .nil)) ?_ ?_
 rintro _ q0 x m
 replace m : qL w p0 q0 = some x := m
 unfold qL at m
 refine v (v ?_)
 refine vi m (fun c0 m => ?_) fun c0 m => ?_
 refine v (v (v ?_))
 refine vx m eW rfl rfl fun x0 _ m => ?_
 refine va (.agg (aD x0)) lF rfl rfl ?_
 refine ve fun u => bE (bF iY ++ ([.sc (.bool false), sZ, sZ] : List AV)) u l6 rfl rfl fun k168 K0 => qk K0 rfl ?_
 refine ve fun u => aL 0 (aD x0) u rfl rfl rfl rfl uV rfl rfl fun K1 => qk K1 rfl ?_
 refine vs ?_
 refine cW m (σ := Bool) (τ := Unit) (fun g s => [(some k168, .obj 44 (aD x0)), (some k2, .obj 30 (aF p0))]) (fun g s => .c 1 (.ptr k2 0) (.c 6 (.sl none 35 (List.map aD p0.Chunks)) (.c 7 (nZ (p0.Chunks.length : Int)) (.c 8 (nZ q0) (.c 62 (.sc (.bool s)) .nil))))) (fun x m => ?_) ?_
 refine v (vq (by kernel_rfl) ?_)
 refine vi m (fun b0 m => ?_) fun b0 m => ?_
 rw [b0]
 refine vl 1 _ eF rfl rfl rfl ?_
 refine vx m eW rfl rfl fun x1 _ m => ?_
 refine va (.agg (bF x1.Id)) fV rfl rfl (vl 0 (.agg (bF x0.Id)) fV rfl rfl rfl ?_)
 refine vk P6 KD m rfl rfl fun _ m => ?_
 refine vi m (fun b1 m => ?_) fun b1 m => ?_
 rw [b1]
 exact bD m (lx (.k5 .nil))
 rw [b1]
 refine vl 1 (.agg (aF p0)) eK rfl rfl rfl (vl 0 _ fE rfl rfl rfl ?_)
 refine vk EL wA m rfl rfl fun _ m => ?_
 refine vi m (fun b2 m => ?_) fun b2 m => ?_
 rw [b2]
 exact bD m (lx (.k5 .nil))
 rw [b2]
 refine vl 0 _ BG rfl rfl rfl ?_
 refine vi m (fun b3 m => ?_) fun b3 m => ?_
 rw [b3]
 refine vl 0 _ jR rfl rfl rfl (dH jJ rfl ?_)
 refine vi m (fun b4 m => ?_) fun b4 m => ?_
 rw [b4]
 exact bD m (lx (.k5 .nil))
 rw [b4]
 refine vl 0 _ fE rfl rfl rfl (dH iF rfl ?_)
 refine vi m (fun b5 m => ?_) fun b5 m => ?_
 rw [b5]
 exact bD m (lx (.k5 .nil))
 rw [b5]
 refine vl 0 _ BG rfl rfl rfl ?_
 refine vi m (fun b6 m => ?_) fun b6 m => ?_
 rw [b6]
 refine vl 0 _ jR rfl rfl rfl (dH jJ rfl ?_)
 refine vk xW mB m rfl rfl fun _ m => ?_
 exact bD m (lx (.k5 .nil))
 rw [b6]
 exact bD m (lx (.k5 .nil))
 rw [b3]
 refine vl 0 _ BG rfl rfl rfl ?_
 refine vi m (fun b7 m => ?_) fun b7 m => ?_
 rw [b7]
 refine vl 0 _ jR rfl rfl rfl (dH jJ rfl ?_)
 refine vk xW mB m rfl rfl fun _ m => ?_
 exact bD m (lx (.k5 .nil))
 rw [b7]
 exact bD m (lx (.k5 .nil))
 rw [b0]
 refine vl 1 (.agg (aF p0)) eK rfl rfl rfl (vl 0 _ fE rfl rfl rfl ?_)
 refine vk EL wA m rfl rfl fun _ m => ?_
 refine vi m (fun b8 m => ?_) fun b8 m => ?_
 rw [b8]
 exact bD m (lx (.k5 .nil))
 rw [b8]
 refine vl 0 _ BG rfl rfl rfl ?_
 refine vi m (fun b9 m => ?_) fun b9 m => ?_
 rw [b9]
 refine vl 0 _ jR rfl rfl rfl (dH jJ rfl ?_)
 refine vi m (fun b10 m => ?_) fun b10 m => ?_
 rw [b10]
 exact bD m (lx (.k5 .nil))
 rw [b10]
 refine vl 0 _ fE rfl rfl rfl (dH iF rfl ?_)
 refine vi m (fun b11 m => ?_) fun b11 m => ?_
 rw [b11]
 exact bD m (lx (.k5 .nil))
 rw [b11]
 refine vl 0 _ BG rfl rfl rfl ?_
 refine vi m (fun b12 m => ?_) fun b12 m => ?_
 rw [b12]
 refine vl 0 _ jR rfl rfl rfl (dH jJ rfl ?_)
 refine vk xW mB m rfl rfl fun _ m => ?_
 exact bD m (lx (.k5 .nil))
 rw [b12]
 exact bD m (lx (.k5 .nil))
 rw [b9]
 refine vl 0 _ BG rfl rfl rfl ?_
 refine vi m (fun b13 m => ?_) fun b13 m => ?_
 rw [b13]
 refine vl 0 _ jR rfl rfl rfl (dH jJ rfl ?_)
 refine vk xW mB m rfl rfl fun _ m => ?_
 exact bD m (lx (.k5 .nil))
 rw [b13]
 exact bD m (lx (.k5 .nil))
 rintro _ j0 m
 refine v ?_
 refine vi m (fun c1 m => ?_) fun c1 m => ?_
 refine v (v ?_)
 refine gA m fun m => ?_
 injection m with m; subst m
 exact eM rfl
 refine v (v ?_)
 exact bD m (kR [1] rfl rfl (.k4 .nil))
 refine v ?_
 exact iS m (lx (.k4 .nil))
 rintro _ r0 m
 refine v (vl 0 _ eF rfl rfl rfl (dH hS rfl (v ?_)))
 cases m
 exact eM rfl
theorem T2 : aU Tryz.prog 79 = true := by kernel_rfl
def AM (m : Nat) (p0 : aA) (p1 : bP) : Option (Int) :=
 (EN m p0.Id p1).bind fun y9 => some y9
theorem T3 {w : Nat} {p0 : aA} {p1 : bP} {o : Int} (h : aH) (m : AM w p0 p1 = some o) :
 aP Tryz.prog 172 [.agg (aD p0), .agg (bF p1)] h (fun r h' => r = nZ o ∧ h' = h) := by
 refine fW 9 [.tmp 4] Tryz.func172 rfl rfl rfl rfl ?_
 unfold AM at m
 refine v ?_
 refine ve fun u => cQ u rfl rfl fun k2 K3 => qk K3 rfl ?_
 refine ve fun u => cQ u rfl rfl fun k5 K6 => qk K6 rfl ?_
 refine v (vl 1 (.agg (bF p0.Id)) fV rfl rfl rfl (vl 0 (.agg (bF p1)) fV rfl rfl rfl ?_))
 refine vk P6 KD m rfl rfl fun _ m => ?_
 refine v ?_
 injection m with m; subst m
 exact eM rfl
theorem P8 : aU Tryz.prog 172 = true := by kernel_rfl
def EO (m : Nat) (p0 : List aA) (p1 : bP) : Option (Int × Bool) :=
 (JA m p0 p1 (fun x0 x1 => AM m x0 x1)).bind fun y6 => some (y6.1, y6.2)
theorem P9 {w : Nat} {p0 : List aA} {p1 : bP} {o : Int × Bool} (h : aH) (m : EO w p0 p1 = some o) :
 aP Tryz.prog 116 [.sl none 35 (List.map aD p0), .agg (bF p1)] h (fun r h' => r = .tup [nZ o.1, .sc (.bool o.2)] ∧ h' = h) := by
 refine fW 11 [.tmp 4, .tmp 5] Tryz.func116 rfl rfl rfl rfl ?_
 unfold EO at m
 refine v ?_
 refine ve fun u => cQ u rfl rfl fun k2 K3 => qk K3 rfl ?_
 refine v (vl 0 (.agg (bF p1)) fV rfl rfl rfl ?_)
 obtain ⟨_, Y7, m⟩ := aC m
 refine vn (fun _ => cE (TW _ P8 (fun _ _ o h0 hs ho => T3 _ ho) Y7) rfl P1 rfl) (v ?_)
 cases m
 exact XL rfl rfl
theorem KE : aU Tryz.prog 116 = true := by kernel_rfl
def tH (m : Nat) (p0 : aB) (x0 : dV) (q0 : Int) : Option (Lp (Int) (Lp (Int) (Lp ((List ByteArray) × Int) (Bool)))) :=
 if (decide (q0 < (x0.Ids.length : Int))) = true then ((ix x0.Ids q0).bind fun x1 => (EO m p0.Chunks x1).bind fun y0 => if (!y0.2) = true then (some (.ret (.ret (.ret false)))) else some (.go (IntKind.wrap .i64 (q0 + 1)))) else some (.brk q0)
def qM (m : Nat) (p0 : aB) (x0 : aE) (q0 : Int) : Option (Lp (Int) (Lp ((List ByteArray) × Int) (Bool))) :=
 if (decide (q0 < (x0.Man.Parts.length : Int))) = true then ((ix x0.Man.Parts q0).bind fun x1 => after (aY (fun s => tH m p0 x1 s) m 0) fun r0 => some (.go (IntKind.wrap .i64 (q0 + 1)))) else some (.brk q0)
def qN (m : Nat) (p0 : aB) (q0 : List ByteArray) (q1 : Int) : Option (Lp ((List ByteArray) × Int) (Bool)) :=
 if (decide (q1 < (p0.Snaps.length : Int))) = true then ((ix p0.Snaps q1).bind fun x0 => after ((tF m x0.Seq 0 (IntKind.wrap .i64 (p0.Seq - 1))).bind fun y0 => if (!y0) = true then (some (.brk true)) else if (decide (0 < q1)) = true then ((ix p0.Snaps (IntKind.wrap .i64 (q1 - 1))).bind fun x1 => if (decide (x0.Seq ≤ x1.Seq)) = true then (some (.brk true)) else if ((q0 : List ByteArray).any fun z => x0.Man.Name == z) = true then (some (.brk true)) else (AL m x0.Man).bind fun y1 => if (y1 != 0) = true then (some (.brk true)) else (uZ m p0 x0.Locs).bind fun y2 => some (.brk (!y2))) else if ((q0 : List ByteArray).any fun z => x0.Man.Name == z) = true then (some (.brk true)) else (AL m x0.Man).bind fun y3 => if (y3 != 0) = true then (some (.brk true)) else (uZ m p0 x0.Locs).bind fun y4 => some (.brk (!y4)) : Option (Lp (Bool) (Lp ((List ByteArray) × Int) (Bool)))) fun j0 => if j0 = true then (some (.ret false)) else after (aY (fun s => qM m p0 x0 s) m 0) fun r0 => some (.go (oH (q0 : List ByteArray) x0.Man.Name, IntKind.wrap .i64 (q1 + 1)))) else some (.brk (q0, q1))
def QA (m : Nat) (p0 : aB) : Option (Bool) :=
 after (aY (fun s => qN m p0 s.1 s.2) m ([], 0)) fun ⟨r0, r1⟩ => some (decide ((p0.Snaps.length : Int) ≤ 8))
theorem YQ {w : Nat} {p0 : aB} {o : Bool} (h : aH) (m : QA w p0 = some o) :
 aP Tryz.prog 80 [.agg (aF p0)] h (fun r h' => r = .sc (.bool o) ∧ h' = h) := by
 refine fW 99 [.tmp 2] Tryz.func80 rfl rfl rfl rfl ?_
 unfold QA at m
 refine v ?_
 refine ve fun u => cQ u rfl rfl fun k2 K3 => qk K3 rfl ?_
 refine v ?_
 refine ve fun u => DB u fun k6 K7 => qk K7 rfl ?_
 refine v (vl 1 _ fK rfl rfl rfl (dH kH rfl ?_))
 refine eO m (σ := (List ByteArray) × Int) (τ := Unit) (fun g s => [(some k6, .mp (oG kS (s.1 : List ByteArray))), (some k2, .obj 30 (aF p0))]) (fun g s => .c 1 (.ptr k2 0) (.c 3 (.mpv k6) (.c 14 (.sl none 4 (List.map aN p0.Snaps)) (.c 15 (nZ (p0.Snaps.length : Int)) (.c 16 (nZ s.2) .nil))))) () (lx (.k5 .nil)) ?_ ?_
 rintro _ ⟨q0, q1⟩ x m
 replace m : qN w p0 q0 q1 = some x := m
 unfold qN at m
 refine v (v ?_)
 refine vi m (fun c0 m => ?_) fun c0 m => ?_
 refine v (v (v ?_))
 refine vx m kJ rfl rfl fun x0 _ m => ?_
 refine va (.agg (aN x0)) AI rfl rfl ?_
 refine ve fun u => bE ([nZ 0, .sc (.string ByteArray.empty), sZ, sZ]) u xT rfl rfl fun k540 K0 => qk K0 rfl ?_
 refine ve fun u => aL 0 (aN x0) u rfl rfl rfl rfl I7 rfl rfl fun K1 => qk K1 rfl ?_
 refine vs (vs ?_)
 refine cW m (σ := Bool) (τ := Unit) (fun g s => [(some k540, .obj 60 (aN x0)), (some k6, .mp (oG kS (q0 : List ByteArray))), (some k2, .obj 30 (aF p0))]) (fun g s => .c 1 (.ptr k2 0) (.c 3 (.mpv k6) (.c 5 (.ptr k540 0) (.c 14 (.sl none 4 (List.map aN p0.Snaps)) (.c 15 (nZ (p0.Snaps.length : Int)) (.c 16 (nZ q1) (.c 63 (.sc (.bool s)) .nil))))))) (fun x m => ?_) ?_
 refine v (vq (by kernel_rfl) (vl 0 _ cG rfl rfl rfl (vl 2 _ cG rfl rfl rfl ?_)))
 refine vk xW mB m rfl rfl fun _ m => ?_
 refine vi m (fun b0 m => ?_) fun b0 m => ?_
 rw [b0]
 exact bD m (lx (.k7 .nil))
 rw [b0]
 refine vi m (fun b1 m => ?_) fun b1 m => ?_
 rw [b1]
 refine vl 2 _ fK rfl rfl rfl ?_
 refine vx m kJ rfl rfl fun _ _ m => ?_
 refine vl 0 _ cG rfl rfl rfl ?_
 refine vi m (fun b2 m => ?_) fun b2 m => ?_
 rw [b2]
 exact bD m (lx (.k7 .nil))
 rw [b2]
 refine vl 0 _ uP rfl rfl rfl (vn (fun u => Fq GJ XN (w7.str u9) rfl rfl (bB 1 u rfl)) ?_)
 refine vi m (fun b3 m => ?_) fun b3 m => ?_
 rw [b3]
 exact bD m (lx (.k7 .nil))
 rw [b3]
 refine vl 0 (.agg (bC x0.Man)) lH rfl rfl rfl ?_
 refine vk I9 DG m rfl rfl fun _ m => ?_
 refine vi m (fun b4 m => ?_) fun b4 m => ?_
 rw [b4]
 exact bD m (lx (.k7 .nil))
 rw [b4]
 refine vl 2 (.agg (aF p0)) eK rfl rfl rfl (vl 0 _ fE rfl rfl rfl ?_)
 refine vk EL wA m rfl rfl fun _ m => ?_
 exact bD m (lx (.k7 .nil))
 rw [b1]
 refine vl 0 _ uP rfl rfl rfl (vn (fun u => Fq GJ XN (w7.str u9) rfl rfl (bB 1 u rfl)) ?_)
 refine vi m (fun b5 m => ?_) fun b5 m => ?_
 rw [b5]
 exact bD m (lx (.k7 .nil))
 rw [b5]
 refine vl 0 (.agg (bC x0.Man)) lH rfl rfl rfl ?_
 refine vk I9 DG m rfl rfl fun _ m => ?_
 refine vi m (fun b6 m => ?_) fun b6 m => ?_
 rw [b6]
 exact bD m (lx (.k7 .nil))
 rw [b6]
 refine vl 2 (.agg (aF p0)) eK rfl rfl rfl (vl 0 _ fE rfl rfl rfl ?_)
 refine vk EL wA m rfl rfl fun _ m => ?_
 exact bD m (lx (.k7 .nil))
 rintro _ j0 m
 refine v ?_
 refine vi m (fun c1 m => ?_) fun c1 m => ?_
 refine v (v ?_)
 refine gA m fun m => ?_
 injection m with m; subst m
 exact eM rfl
 refine v (v (vl 0 _ uP rfl rfl rfl ?_))
 refine ve fun u => LM 1 u GJ (w7.str u9) rfl rfl rfl rfl fun K2 => qk K2 rfl ?_
 refine v (vl 0 _ lG rfl rfl rfl (dH rK rfl ?_))
 refine eO m (σ := Int) (τ := Unit) (fun g s => [(some k540, .obj 60 (aN x0)), (some k6, .mp (oG kS (oH (q0 : List ByteArray) x0.Man.Name : List ByteArray))), (some k2, .obj 30 (aF p0))]) (fun g s => .c 1 (.ptr k2 0) (.c 3 (.mpv k6) (.c 14 (.sl none 4 (List.map aN p0.Snaps)) (.c 15 (nZ (p0.Snaps.length : Int)) (.c 16 (nZ q1) (.c 70 (.sl none 3 (List.map bV x0.Man.Parts)) (.c 71 (nZ (x0.Man.Parts.length : Int)) (.c 72 (nZ s) .nil)))))))) () (lx (.k8 .nil)) ?_ ?_
 rintro _ q2 x m
 replace m : qM w p0 x0 q2 = some x := m
 unfold qM at m
 refine v (v ?_)
 refine vi m (fun c2 m => ?_) fun c2 m => ?_
 refine v (v (v ?_))
 refine vx m o9 rfl rfl fun x1 _ m => ?_
 refine va (.agg (bV x1)) AJ rfl rfl ?_
 refine ve fun u => bE ([.sc (.string ByteArray.empty), nZ 0, sZ]) u CC rfl rfl fun k732 K4 => qk K4 rfl ?_
 refine ve fun u => aL 0 (bV x1) u rfl rfl rfl rfl EJ rfl rfl fun K5 => qk K5 rfl ?_
 refine v (vl 0 _ rM rfl rfl rfl (dH pA rfl ?_))
 refine eO m (σ := Int) (τ := Unit) (fun g s => [(some k732, .obj 70 (bV x1)), (some k540, .obj 60 (aN x0)), (some k6, .mp (oG kS (oH (q0 : List ByteArray) x0.Man.Name : List ByteArray))), (some k2, .obj 30 (aF p0))]) (fun g s => .c 1 (.ptr k2 0) (.c 3 (.mpv k6) (.c 14 (.sl none 4 (List.map aN p0.Snaps)) (.c 15 (nZ (p0.Snaps.length : Int)) (.c 16 (nZ q1) (.c 70 (.sl none 3 (List.map bV x0.Man.Parts)) (.c 71 (nZ (x0.Man.Parts.length : Int)) (.c 72 (nZ q2) (.c 77 (.sl none 32 (List.map bF x1.Ids)) (.c 78 (nZ (x1.Ids.length : Int)) (.c 79 (nZ s) .nil))))))))))) () (lx (.k11 .nil)) ?_ ?_
 rintro _ q3 x m
 replace m : tH w p0 x1 q3 = some x := m
 unfold tH at m
 refine v (v ?_)
 refine vi m (fun c3 m => ?_) fun c3 m => ?_
 refine v (v (v ?_))
 refine vx m uY rfl rfl fun x2 _ m => ?_
 refine va (.agg (bF x2)) fV rfl rfl ?_
 refine ve fun u => bE (bF iY) u EH rfl rfl fun k780 K6 => qk K6 rfl ?_
 refine ve fun u => aL 0 (bF x2) u rfl rfl rfl rfl EF rfl rfl fun K8 => qk K8 rfl ?_
 refine v (vl 4 _ eF rfl rfl rfl (vl 0 (.agg (bF x2)) fV rfl rfl rfl ?_))
 refine vk P9 KE m rfl rfl fun _ m => ?_
 refine v (v ?_)
 refine vi m (fun c4 m => ?_) fun c4 m => ?_
 refine v (v ?_)
 refine gA m fun m => ?_
 refine gA m fun m => ?_
 refine gA m fun m => ?_
 injection m with m; subst m
 exact eM rfl
 refine v (v ?_)
 exact bD m (kR [1, 2, 3, 4] rfl rfl (.k11 .nil))
 refine v ?_
 exact iS m (lx (.k11 .nil))
 rintro _ r0 m
 refine v ?_
 exact bD m (kR [1, 2, 3] rfl rfl (.k8 .nil))
 refine v ?_
 exact iS m (lx (.k8 .nil))
 rintro _ r1 m
 refine v ?_
 exact bD m (kR [1, 2] rfl rfl (.k5 .nil))
 refine v ?_
 exact iS m (lx (.k5 .nil))
 rintro _ ⟨r2, r3⟩ m
 refine v (vl 1 _ fK rfl rfl rfl (dH kH rfl (v ?_)))
 cases m
 exact eM rfl
theorem T4 : aU Tryz.prog 80 = true := by kernel_rfl
def MK (m : Nat) (p0 : aB) : Option (Int) :=
 after ((tF m p0.Seq 0 1073741824).bind fun y0 => if y0 = true then ((PX m p0.Vols).bind fun y1 => if y1 = true then ((P7 m p0).bind fun y2 => if y2 = true then ((QA m p0).bind fun y3 => if y3 = true then ((P4 m p0).bind fun y4 => some (.brk y4)) else some (.brk false)) else some (.brk false)) else some (.brk false)) else some (.brk false) : Option (Lp (Bool) (Int))) fun j0 => if j0 = true then (some 0) else some 1
theorem T5 {w : Nat} {p0 : aB} {o : Int} (h : aH) (m : MK w p0 = some o) :
 aP Tryz.prog 31 [.agg (aF p0)] h (fun r h' => r = nZ o ∧ h' = h) := by
 refine fW 23 [.tmp 2] Tryz.func31 rfl rfl rfl rfl ?_
 unfold MK at m
 refine v ?_
 refine ve fun u => cQ u rfl rfl fun k2 K3 => qk K3 rfl ?_
 refine vs (vs ?_)
 refine cW m (σ := Bool) (τ := Unit) (fun g s => [(some k2, .obj 30 (aF p0))]) (fun g s => .c 22 (.sc (.bool s)) .nil) (fun x m => ?_) ?_
 refine v (vl 0 _ cG rfl rfl rfl ?_)
 refine vk xW mB m rfl rfl fun _ m => ?_
 refine vi m (fun b0 m => ?_) fun b0 m => ?_
 rw [b0]
 refine vl 0 _ fZ rfl rfl rfl ?_
 refine vk YM TT m rfl rfl fun _ m => ?_
 refine vi m (fun b1 m => ?_) fun b1 m => ?_
 rw [b1]
 refine vl 0 (.agg (aF p0)) eK rfl rfl rfl ?_
 refine vk YP T2 m rfl rfl fun _ m => ?_
 refine vi m (fun b2 m => ?_) fun b2 m => ?_
 rw [b2]
 refine vl 0 (.agg (aF p0)) eK rfl rfl rfl ?_
 refine vk YQ T4 m rfl rfl fun _ m => ?_
 refine vi m (fun b3 m => ?_) fun b3 m => ?_
 rw [b3]
 refine vl 0 (.agg (aF p0)) eK rfl rfl rfl ?_
 refine vk YO TZ m rfl rfl fun _ m => ?_
 exact bD m (lx (.cons (aX.refl _ _) .nil))
 rw [b3]
 exact bD m (lx (.cons (aX.refl _ _) .nil))
 rw [b2]
 exact bD m (lx (.cons (aX.refl _ _) .nil))
 rw [b1]
 exact bD m (lx (.cons (aX.refl _ _) .nil))
 rw [b0]
 exact bD m (lx (.cons (aX.refl _ _) .nil))
 rintro _ j0 m
 refine v ?_
 refine vi m (fun c0 m => ?_) fun c0 m => ?_
 refine v (v ?_)
 injection m with m; subst m
 exact eM rfl
 refine v (v (v ?_))
 injection m with m; subst m
 exact eM rfl
theorem ML : aU Tryz.prog 31 = true := by kernel_rfl
open Go.Vm
def MM (m : Nat) (p0 : Int) : Option (Int) :=
 grd (decide (0 ≤ (IntKind.wrap .i64 (8 * p0)))) <| some (IntKind.wrap .i64 (1 * 2 ^ (min ((IntKind.wrap .i64 (8 * p0)) : Int).toNat (IntKind.bits .i64))))
theorem T6 {u : Nat} {p0 : Int} {o : Int} (h : aH) (m : MM u p0 = some o) :
 aP Tryz.prog 166 [nZ p0] h (fun r h' => r = nZ o ∧ h' = h) := by
 refine fW 6 [.tmp 2] Tryz.func166 rfl rfl rfl rfl ?_
 unfold MM at m
 refine v (v ?_)
 refine J7 m fun _ m => ?_
 refine v ?_
 cases m
 exact eM rfl
theorem QB : aU Tryz.prog 166 = true := by kernel_rfl
def tI (m : Nat) (p1 : Int) (q0 : List Int) (q1 : Int) : Option (Lp ((List Int) × Int) ((List Int) × Int)) :=
 if (decide (0 ≤ q1)) = true then (grd (decide (0 ≤ (IntKind.wrap .i64 (8 * q1)))) <| (app q0 ([IntKind.wrap .u8 (p1.fdiv (2 ^ (min ((IntKind.wrap .i64 (8 * q1)) : Int).toNat (IntKind.bits .i64))))] : List Int)).bind fun z0 => some (.go (z0, IntKind.wrap .i64 (q1 - 1)))) else some (.brk (q0, q1))
def DH (m : Nat) (p0 : List Int) (p1 : Int) (p2 : Int) : Option ((List Int) × Int) :=
 after (if (decide (p2 < 1)) = true then (some (.brk true)) else if (decide (7 < p2)) = true then (some (.brk true)) else if (decide (p1 < 0)) = true then (some (.brk true)) else (MM m p2).bind fun y0 => some (.brk (decide (y0 ≤ p1))) : Option (Lp (Bool) ((List Int) × Int))) fun j9 => if j9 = true then (some (([] : List Int), 1)) else (MJ m p0).bind fun y1 => after (aY (fun s => tI m p1 s.1 s.2) m (y1, IntKind.wrap .i64 (p2 - 1))) fun ⟨r0, r1⟩ => some (r0, 0)
theorem KF {w : Nat} {p0 : List Int} {p1 : Int} {p2 : Int} {o : (List Int) × Int} (h : aH) (m : DH w p0 p1 p2 = some o) :
 aP Tryz.prog 101 [.sl none 1 (List.map cZ p0), nZ p1, nZ p2] h (fun r h' => ∃ t : Option bZ, (t = none → o.1 = []) ∧ bS h [(t, .tok 5 1 ((o.1 : List Int).length * 1))] ∧ r = .tup [ow t 1 (List.map cZ o.1), nZ o.2] ∧ h' = hp h [(t, .tok 5 1 ((o.1 : List Int).length * 1))]) := by
 refine fW 43 [.tmp 6, .tmp 7] Tryz.func101 rfl rfl rfl rfl ?_
 unfold DH at m
 refine v (vs (vs ?_))
 refine cW m (σ := Bool) (τ := Unit) (fun g s => []) (fun g s => .c 0 (.sl none 1 (List.map cZ p0)) (.c 1 (nZ p1) (.c 2 (nZ p2) (.c 25 (.sc (.bool s)) .nil)))) (fun x m => ?_) ?_
 refine v ?_
 refine vi m (fun b0 m => ?_) fun b0 m => ?_
 rw [b0]
 exact bD m (lx (.k4 .nil))
 rw [b0]
 refine vi m (fun b1 m => ?_) fun b1 m => ?_
 rw [b1]
 exact bD m (lx (.k4 .nil))
 rw [b1]
 refine vi m (fun b2 m => ?_) fun b2 m => ?_
 rw [b2]
 exact bD m (lx (.k4 .nil))
 rw [b2]
 refine vk T6 QB m rfl rfl fun _ m => ?_
 exact bD m (lx (.k4 .nil))
 rintro _ j9 m
 refine v ?_
 refine vi m (fun c0 m => ?_) fun c0 m => ?_
 refine v (v ?_)
 cases m
 exact vr fun u => dY.of2 (.inl rfl) (fL _ _ (.sc (.slice _ _ _)) rfl) (fL _ _ (.sc (.int _ _)) rfl) (gX.refl _) (hM _ _) (aX.refl _ _) ⟨none, fun _ => rfl, bS.none (bS.nil _), rfl, rfl⟩
 refine v (v ?_)
 obtain ⟨_, Y0, m⟩ := aC m
 refine ve fun u => cV (S1 _ Y0) rfl JD rfl ?_
 rintro x h' ⟨tg0, t0, K0, rfl, rfl⟩
 refine qk (bS.co u K0) (gO _ _ _) ?_
 refine v ?_
 refine lT m (σ := (List Int) × Int) (τ := Option bZ) (fun g s => [(g, .tok 5 1 ((s.1 : List Int).length * 1))]) (fun g s => (g = none → s.1 = [])) (fun g s => .c 1 (nZ p1) (.c 8 (ow g 1 (List.map cZ s.1)) (.c 9 (nZ s.2) .nil))) tg0 t0 (lx (.k3 .nil)) ?_ ?_
 rintro tg1 ⟨q0, q1⟩ x t1 m
 replace m : tI w p1 q0 q1 = some x := m
 unfold tI at m
 refine v (v ?_)
 refine vi m (fun c1 m => ?_) fun c1 m => ?_
 refine v (v (v ?_))
 refine J7 m fun _ m => ?_
 refine vn (fun _ => eH (List.map cZ ([IntKind.wrap .u8 (p1.fdiv (2 ^ (min ((IntKind.wrap .i64 (8 * q1)) : Int).toNat (IntKind.bits .i64))))] : List Int)) hU rfl rfl rfl rfl) ?_
 obtain ⟨z0, Z0, m⟩ := aC m
 refine ve fun u => eS (c := cZ) 0 Z0 hU rfl rfl rfl t1 u rfl fun tg2 t2 K1 => qk K1 rfl ?_
 refine v ?_
 exact fH m tg2 t2 (lx (.k3 .nil))
 refine v ?_
 exact lD m tg1 t1 (lx (.k3 .nil))
 rintro tg3 ⟨r0, r1⟩ t3 m
 refine v (v ?_)
 cases m
 exact vr fun u => dY.of2 (.inl rfl) (fL _ _ (ow _ _ _) rfl) (fL _ _ (.sc (.int _ _)) rfl) (aV (h0 := h) (L' := [(tg3, .tok 5 1 ((r0 : List Int).length * 1))]) (.refl _) u).1 (aX.refl _ _) (aX.refl _ _) ⟨tg3, t3, (aV (h0 := h) (L' := [(tg3, .tok 5 1 ((r0 : List Int).length * 1))]) (.refl _) u).2, rfl, rfl⟩
theorem KG : aU Tryz.prog 101 = true := by kernel_rfl
def CF (m : Nat) (x0 : dV) (q0 : List Int) (q1 : Int) : Option (Lp ((List Int) × Int) (Lp ((List Int) × Int) ((List Int) × Int))) :=
 if (decide (q1 < (x0.Ids.length : Int))) = true then ((ix x0.Ids q1).bind fun x1 => (app q0 x1.1).bind fun z0 => some (.go (z0, IntKind.wrap .i64 (q1 + 1)))) else some (.brk (q0, q1))
def CG (m : Nat) (p0 : a9) (q0 : List Int) (q1 : Int) : Option (Lp ((List Int) × Int) ((List Int) × Int)) :=
 if (decide (q1 < (p0.Parts.length : Int))) = true then ((ix p0.Parts q1).bind fun x0 => (app q0 ([IntKind.wrap .u8 (x0.Path.size : Int)] : List Int)).bind fun z0 => (app z0 (o5 x0.Path)).bind fun z1 => (DH m z1 x0.Size 2).bind fun y0 => (app y0.1 ([IntKind.wrap .u8 (x0.Ids.length : Int)] : List Int)).bind fun z2 => after (aY (fun s => CF m x0 s.1 s.2) m (z2, 0)) fun ⟨r0, r1⟩ => some (.go (r0, IntKind.wrap .i64 (q1 + 1)))) else some (.brk (q0, q1))
def T7 (m : Nat) (p0 : a9) : Option ((List Int) × Int) :=
 (AL m p0).bind fun y6 => if (y6 != 0) = true then (some ([], y6)) else (app ([IntKind.wrap .u8 (p0.Name.size : Int)] : List Int) (o5 p0.Name)).bind fun z0 => (app z0 ([IntKind.wrap .u8 (p0.Parts.length : Int)] : List Int)).bind fun z1 => after (aY (fun s => CG m p0 s.1 s.2) m (z1, 0)) fun ⟨r0, r1⟩ => some (r0, 0)
theorem YR {w : Nat} {p0 : a9} {o : (List Int) × Int} (h : aH) (m : T7 w p0 = some o) :
 aP Tryz.prog 42 [.agg (bC p0)] h (fun r h' => r = .tup [.sl none 1 (List.map cZ o.1), nZ o.2] ∧ h' = h) := by
 refine fW 74 [.tmp 2, .tmp 3] Tryz.func42 rfl rfl rfl rfl ?_
 unfold T7 at m
 refine v ?_
 refine ve fun u => cQ u rfl rfl fun k2 K3 => qk K3 rfl ?_
 refine v (vl 0 (.agg (bC p0)) lH rfl rfl rfl ?_)
 refine vk I9 DG m rfl rfl fun _ m => ?_
 refine v (v ?_)
 refine vi m (fun c0 m => ?_) fun c0 m => ?_
 refine v (v ?_)
 cases m
 exact vr fun u => dY.of2 (.inl rfl) (fL _ _ (.sc (.slice _ _ _)) rfl) (fL _ _ (.sc (.int _ _)) rfl) (aV (List.nil_sublist _) u).1 (aS _) (aX.refl _ _) ⟨rfl, rfl⟩
 refine v (v (vl 0 _ uP rfl rfl rfl (vn (fun _ => lW I2 rfl) ?_)))
 refine ve fun u => BT (c := cZ) ([IntKind.wrap .u8 (p0.Name.size : Int)] : List Int) u hU rfl rfl rfl rfl fun tg0 t0 K0 => qk K0 rfl ?_
 refine vl 1 _ uP rfl rfl rfl ?_
 obtain ⟨z0, Z0, m⟩ := aC m
 refine ve fun u => FX (c := cZ) 0 Z0 u9 hU rfl (fun _ => rfl) rfl rfl t0 u rfl fun tg1 t1 K1 => qk K1 rfl ?_
 refine v (vl 1 _ lG rfl rfl rfl (dH rK rfl (vn (fun _ => eH (List.map cZ ([IntKind.wrap .u8 (p0.Parts.length : Int)] : List Int)) hU rfl rfl rfl rfl) ?_)))
 obtain ⟨z1, Z1, m⟩ := aC m
 refine ve fun u => eS (c := cZ) 0 Z1 hU rfl rfl rfl t1 u rfl fun tg2 t2 K2 => qk K2 rfl ?_
 refine v (vl 1 _ lG rfl rfl rfl (dH rK rfl ?_))
 refine lT m (σ := (List Int) × Int) (τ := Option bZ) (fun g s => [(g, .tok 5 1 ((s.1 : List Int).length * 1)), (some k2, .obj 58 (bC p0))]) (fun g s => (g = none → s.1 = [])) (fun g s => .c 5 (ow g 1 (List.map cZ s.1)) (.c 31 (.sl none 3 (List.map bV p0.Parts)) (.c 32 (nZ (p0.Parts.length : Int)) (.c 33 (nZ s.2) .nil)))) tg2 t2 (lx (.k4 .nil)) ?_ ?_
 rintro tg3 ⟨q0, q1⟩ x t3 m
 replace m : CG w p0 q0 q1 = some x := m
 unfold CG at m
 refine v (v ?_)
 refine vi m (fun c1 m => ?_) fun c1 m => ?_
 refine v (v (v ?_))
 refine vx m o9 rfl rfl fun x0 _ m => ?_
 refine va (.agg (bV x0)) AJ rfl rfl ?_
 refine ve fun u => bE ([.sc (.string ByteArray.empty), nZ 0, sZ]) u CC rfl rfl fun k257 K4 => qk K4 rfl ?_
 refine ve fun u => aL 0 (bV x0) u rfl rfl rfl rfl EJ rfl rfl fun K5 => qk K5 rfl ?_
 refine v ?_
 refine vz [(1000000, some k257, .obj 70 (bV x0))] mixed (fun u => ⟨fun _ => aO 0 u rfl, trivial⟩) fun u => ?_
 refine aM 0 rfl (fun _ _ _ _ => bN (ow _ _ _) rfl) ?_
 refine aM 1 rfl (fun _ _ _ _ => aJ GC rfl rfl) ?_
 refine aM 2 rfl (fun _ _ hi hB => bH (.sc (.string x0.Path)) uP rfl (At.s (bR.get 0 hi rfl (hB 1000000 (by kernel_rfl)))) rfl) ?_
 refine aM 3 rfl (fun _ _ _ _ => lW I2 rfl) ?_
 refine aM 4 rfl (fun _ _ _ _ => EA PK TK rfl) ?_
 refine aM 5 rfl (fun _ _ _ _ => eH (List.map cZ ([IntKind.wrap .u8 (x0.Path.size : Int)] : List Int)) hU rfl rfl rfl rfl) ?_
 refine aM 7 rfl (fun _ _ _ _ => aJ GC rfl rfl) ?_
 refine aM 8 rfl (fun _ _ hi hB => bH (.sc (.string x0.Path)) uP rfl (At.s (bR.get 0 hi rfl (hB 1000000 (by kernel_rfl)))) rfl) ?_
 obtain ⟨z2, Z2, m⟩ := aC m
 refine eX 6 rfl (by kernel_rfl) (eS (c := cZ) 1 Z2 hU rfl rfl rfl t3 u rfl fun tg4 t4 K6 => ⟨⟨fun _ => aO 0 K6 rfl, trivial⟩, ?_⟩)
 obtain ⟨z3, Z3, m⟩ := aC m
 refine eX 9 rfl (by kernel_rfl) (FX (c := cZ) 1 Z3 u9 hU rfl (fun _ => rfl) rfl rfl t4 K6 rfl fun tg5 t5 K7 => ⟨⟨fun _ => aO 0 K7 rfl, trivial⟩, ?_⟩)
 refine aM 10 rfl (fun _ _ _ _ => gU (ow _ _ _) rfl) ?_
 refine dL (by kernel_rfl) (qk (f := .c 5 _ (.c 46 _ (.c 43 _ (.c 45 _ (.c 44 _ (.c 42 _ (.c 41 _ (.c 40 _ (.c 39 _ (.c 38 _ (.c 37 _ _))))))))))) K7 rfl ?_)
 refine v (vl 0 _ cG rfl rfl rfl ?_)
 obtain ⟨_, Y0, m⟩ := aC m
 refine ve fun u => sW (s := 48) (.sl none 1 (List.map cZ z3)) (aV (.cons_cons _ (.cons _ (.refl _))) u).1 (Fz.ale (aV (.cons_cons _ (.cons _ (.refl _))) u).1 (kF _ 1 t5 u rfl (.refl _))) (cV (KF _ Y0) rfl KG rfl ?_)
 rintro x h' ⟨tg6, t6, K8, rfl, rfl⟩
 refine qk (bS.co ((aV (.cons_cons _ (.cons _ (.refl _))) u).2) K8) (gO _ _ _) ?_
 refine v (vl 1 _ rM rfl rfl rfl (dH pA rfl (vn (fun _ => eH (List.map cZ ([IntKind.wrap .u8 (x0.Ids.length : Int)] : List Int)) hU rfl rfl rfl rfl) ?_)))
 obtain ⟨z4, Z4, m⟩ := aC m
 refine ve fun u => eS (c := cZ) 0 Z4 hU rfl rfl rfl t6 u rfl fun tg7 t7 K9 => qk K9 rfl ?_
 refine v (vl 1 _ rM rfl rfl rfl (dH pA rfl ?_))
 refine lT m (σ := (List Int) × Int) (τ := Option bZ) (fun g s => [(g, .tok 5 1 ((s.1 : List Int).length * 1)), (some k257, .obj 70 (bV x0)), (some k2, .obj 58 (bC p0))]) (fun g s => (g = none → s.1 = [])) (fun g s => .c 5 (ow g 1 (List.map cZ s.1)) (.c 31 (.sl none 3 (List.map bV p0.Parts)) (.c 32 (nZ (p0.Parts.length : Int)) (.c 33 (nZ q1) (.c 62 (.sl none 32 (List.map bF x0.Ids)) (.c 63 (nZ (x0.Ids.length : Int)) (.c 64 (nZ s.2) .nil))))))) tg7 t7 (lx (.k7 .nil)) ?_ ?_
 rintro tg8 ⟨q2, q3⟩ x t8 m
 replace m : CF w x0 q2 q3 = some x := m
 unfold CF at m
 refine v (v ?_)
 refine vi m (fun c2 m => ?_) fun c2 m => ?_
 refine v (v (v ?_))
 refine vx m uY rfl rfl fun x1 _ m => ?_
 refine va (.agg (bF x1)) fV rfl rfl ?_
 refine ve fun u => bE (bF iY) u EH rfl rfl fun k343 K10 => qk K10 rfl ?_
 refine ve fun u => aL 0 (bF x1) u rfl rfl rfl rfl EF rfl rfl fun K11 => qk K11 rfl ?_
 refine v (vn (fun _ => z8 o8 rfl) ?_)
 obtain ⟨z5, Z5, m⟩ := aC m
 refine ve fun u => eS (c := cZ) 1 Z5 hU rfl rfl rfl t8 u (sU (bB 0 u rfl) rfl rfl) fun tg9 t9 K12 => qk K12 rfl ?_
 refine v ?_
 exact fH m tg9 t9 (kR [1, 2, 3] rfl rfl (.k7 .nil))
 refine v ?_
 exact lD m tg8 t8 (lx (.k7 .nil))
 rintro tg10 ⟨r0, r1⟩ t10 m
 refine v ?_
 exact fH m tg10 t10 (kR [0, 2] rfl rfl (.k4 .nil))
 refine v ?_
 exact lD m tg3 t3 (lx (.k4 .nil))
 rintro tg11 ⟨r2, r3⟩ t11 m
 refine v (v ?_)
 cases m
 exact vr fun u => dY.of2 (.inl rfl) (fL _ _ (ow _ _ _) rfl) (fL _ _ (.sc (.int _ _)) rfl) (aV (List.nil_sublist _) u).1 ((eG _ 0 t11 u rfl)) (aX.refl _ _) ⟨rfl, rfl⟩
theorem T8 : aU Tryz.prog 42 = true := by kernel_rfl
end Go.Proofs.YtbbifdfldpfphaaGreat
namespace Go.Vm
theorem wr {n : Int} (h : -9223372036854775808 ≤ n) (h2 : n < 9223372036854775808) : IntKind.wrap .i64 n = n := by
 have e : IntKind.wrap .i64 n = (if decide (n % 18446744073709551616 ≥ 9223372036854775808) = true then n % 18446744073709551616 - 18446744073709551616 else n % 18446744073709551616) := rfl
 rw [e]
 simp only [decide_eq_true_eq]
 split <;> omega
theorem iW {i : Nat} (h : i < 1000000000) : IntKind.wrap .i64 ((i : Int) + 1) = ((i + 1 : Nat) : Int) := by rw [wr (by omega) (by omega)]; rfl
theorem u0 {i : Nat} (h : i < 1000000000) (h0 : 0 < i) : IntKind.wrap .i64 ((i : Int) - 1) = ((i - 1 : Nat) : Int) := by rw [wr (by omega) (by omega)]; omega
theorem bT {α : Type} (l : List α) (i : Nat) : ix l (i : Int) = l[i]? := by simp [ix]
theorem tJ {α : Type} (l : List α) {i : Int} (h : 0 ≤ i) : ix l i = l[i.toNat]? := by simp [ix, h]
theorem dR {α : Type} {xs ys : List α} (h : xs.length + ys.length ≤ 1000000000) : app xs ys = some (xs ++ ys) := by simp [app, h]
theorem cH {σ ρ : Type} (c : Prop) [Decidable c] (a b : Option (Lp σ ρ)) (k : σ → Option ρ) : after (if c then a else b) k = if c then after a k else after b k := by split <;> rfl
theorem aW {σ ρ : Type} (s : σ) (k : σ → Option ρ) : after (some (.brk s)) k = k s := rfl
theorem cY {σ ρ : Type} (r : ρ) (k : σ → Option ρ) : after (some (.ret r)) k = some r := rfl
theorem dA {α β : Type} (c : Prop) [Decidable c] (a b : Option α) (k : α → Option β) : (if c then a else b).bind k = if c then a.bind k else b.bind k := by split <;> rfl
def LF {S ρ : Type} (emb : Nat → S) (p : Nat → Bool) (rv : Nat → ρ) (n : Nat) : Lp S ρ := match (List.range n).find? p with
 | none => .brk (emb n)
 | some i => .ret (rv i)
theorem AN {S ρ : Type} {body : S → Option (Lp S ρ)} (emb : Nat → S) (p : Nat → Bool) (rv : Nat → ρ) : ∀ (m k F : Nat), m < F →
    (∀ i, k ≤ i → i < k + m → (∀ j, j < i → k ≤ j → p j = false) → body (emb i) = some (if p i then .ret (rv i) else .go (emb (i + 1)))) → ((∀ j, k ≤ j → j < k + m → p j = false) → body (emb (k + m)) = some (.brk (emb (k + m)))) →
    aY body F (emb k) = some (match (List.range' k m).find? p with | none => .brk (emb (k + m)) | some i => .ret (rv i))
  | 0, k, F + 1, _, _, he => by
    have := he (fun j h1 h2 => by omega)
    simp only [Nat.add_zero] at this
    simp [aY, this]
  | m + 1, k, F + 1, hF, hb, he => by
    have h0 := hb k (Nat.le_refl _) (by omega) (fun j h1 h2 => by omega)
    rw [List.range'_succ, List.find?_cons]
    cases hp : p k with
    | true => simp [aY, h0, hp]
    | false =>
      have := AN (body := body) emb p rv m (k + 1) F (by omega) (fun i h1 h2 h3 => hb i (by omega) (by omega) (fun j h4 h5 => by
        by_cases e : j = k
        · subst e; exact hp
        · exact h3 j h4 (by omega))) (fun h => by
        rw [show k + 1 + m = k + (m + 1) from by omega]
        exact he fun j h4 h5 => by
          by_cases e : j = k
          · subst e; exact hp
          · exact h j (by omega) (by omega))
      simp only [aY, h0, hp]
      rw [if_neg (by simp)]
      simp only [this, show k + 1 + m = k + (m + 1) from by omega]
theorem eQ {S ρ : Type} {body : S → Option (Lp S ρ)} {n F : Nat} {s0 : S} (emb : Nat → S) (p : Nat → Bool) (rv : Nat → ρ) (hF : n < F) (h0 : s0 = emb 0)
    (hb : ∀ i, i < n → (∀ j, j < i → p j = false) → body (emb i) = some (if p i then .ret (rv i) else .go (emb (i + 1)))) (he : (∀ j, j < n → p j = false) → body (emb n) = some (.brk (emb n))) :
    aY body F s0 = some (LF emb p rv n) := by
  subst h0
  have := AN (body := body) emb p rv n 0 F hF (fun i _ h2 h3 => hb i (by omega) fun j hj => h3 j hj (Nat.zero_le _)) (fun h => by simpa using he fun j hj => h j (Nat.zero_le _) (by omega))
  rw [this, LF, List.range_eq_range']
  simp
theorem gF {S ρ : Type} {emb : Nat → S} {p : Nat → Bool} {r : ρ} {n : Nat} : LF emb p (fun _ => r) n = if (List.range n).any p then .ret r else .brk (emb n) := by
 unfold LF
 split
 ·rename_i h
  rw [if_neg]
  simp only [List.any_eq_true, not_exists, not_and]
  exact fun x hx => List.find?_eq_none.1 h x hx
 ·rename_i i h
  rw [if_pos]
  exact List.any_eq_true.2 ⟨i, List.mem_of_find?_eq_some h, List.find?_some h⟩
end Go.Vm
