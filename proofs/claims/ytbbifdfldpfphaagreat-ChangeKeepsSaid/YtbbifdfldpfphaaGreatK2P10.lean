import Derived.Test.YtbbifdfldpfphaaGreatK2P5
import Derived.Test.YtbbifdfldpfphaaGreatK2P9
import Derived.Test.YtbbifdfldpfphaaGreatK2P8
import Derived.Test.YtbbifdfldpfphaaGreatK2P7
set_option linter.unusedSimpArgs false
set_option linter.unusedVariables false
set_option maxHeartbeats 4000000
set_option maxRecDepth 100000
namespace Go.Proofs.YtbbifdfldpfphaaGreat
open Go.Vm
def CY (m:Nat) (p0:List lP) (q0:Int) (q1:Int):Option (Lp (Int) (Lp (Int) (Bool))):=
 (ix p0 q0).bind λx0=>if (decide (q1 < (x0.Tree.length:Int)))=true then (after ((ix p0 q0).bind λx1=>(ix x1.Tree q1).bind λx2=>if (decide (300 < (x2.Data.length:Int)))=true then (some (.brk true)) else (ix p0 q0).bind λx3=>(ix x3.Tree q1).bind λx4=>some (.brk (decide (50 < (x4.Path.size:Int)))):Option (Lp (Bool) (Lp (Int) (Lp (Int) (Bool))))) λj0=>if j0=true then (some (.ret (.ret true))) else some (.go (IntKind.wrap .i64 (q1+1)))) else some (.brk q1)
def CZ (m:Nat) (p0:List lP) (q0:Int):Option (Lp (Int) (Bool)):=
 after (if (decide (q0 < (p0.length:Int)))=true then (some (.brk (decide (q0 < 30)))) else some (.brk false):Option (Lp (Bool) (Lp (Int) (Bool)))) λj0=>if j0=true then (after ((ix p0 q0).bind λx0=>if (decide (300 < (x0.Pick.length:Int)))=true then (some (.brk true)) else (ix p0 q0).bind λx1=>some (.brk (decide (10 < (x1.Tree.length:Int)))):Option (Lp (Bool) (Lp (Int) (Bool)))) λj1=>if j1=true then (some (.ret true)) else after (aT (λs=>CY m p0 q0 s) m 0) λr0=>some (.go (IntKind.wrap .i64 (q0+1)))) else some (.brk q0)
def V4 (m:Nat) (p0:List lP):Option (Bool):=
 if (decide (120 < (p0.length:Int)))=true then (some true) else after (aT (λs=>CZ m p0 s) m 0) λr0=>some false
theorem W14 {u:Nat} {p0:List lP} {o:Bool} (h:aF) (m:V4 u p0=some o):
 aL Tryz.prog 14 [.sl none 5 (List.map dO p0)] h (λr h'=>r= .sc (.bool o)∧h'=h):=by
 refine fN 68 [.tmp 2] Tryz.func14 rfl rfl rfl rfl ?_
 unfold V4 at m
 refine v (v (cZ S3 rfl (v ?_)))
 apply vi m <;> intro c4 m
 refine v (v ?_)
 obtain rfl:=eB m
 exact dQ rfl
 refine v (v (iI m (σ:=Int) (λs=> []) (λs=>.c 0 (.sl none 5 (List.map dO p0)) (.c 3 (nZ s) .nil)) (lx (.k2 .nil)) ?_ ?_))
 rintro _ q0 x m
 replace m:CZ u p0 q0=some x:=m
 unfold CZ at m
 refine vs (vs (fB m (σ:=Bool) (λs=> []) (λs=>.c 0 (.sl none 5 (List.map dO p0)) (.c 3 (nZ q0) (.c 15 (.sc (.bool s)) .nil))) (λx m=> ?_) ?_))
 refine v (cZ S3 rfl ?_)
 apply vi m <;> intro b0 m
 rw[b0]
 exact gH m
 rw[b0]
 exact gH m
 rintro _ j0 m
 refine v ?_
 apply vi m <;> intro c0 m
 refine v (v (vs (vs (fB m (σ:=Bool) (λs=> []) (λs=>.c 0 (.sl none 5 (List.map dO p0)) (.c 3 (nZ q0) (.c 33 (.sc (.bool s)) .nil))) (λx m=> ?_) ?_))))
 refine v (vx m JF rfl rfl λ_ _ m=>cZ W3 rfl ?_)
 apply vi m <;> intro b1 m
 rw[b1]
 exact gH m
 rw[b1]
 exact vx m JF rfl rfl λ_ _ m=>cZ zB rfl (gH m)
 rintro _ j1 m
 refine v ?_
 apply vi m <;> intro c1 m
 refine v (v (fO m λm=> ?_))
 obtain rfl:=eB m
 exact dQ rfl
 refine v (v (iI m (σ:=Int) (λs=> []) (λs=>.c 0 (.sl none 5 (List.map dO p0)) (.c 3 (nZ q0) (.c 4 (nZ s) .nil))) (lx (.k3 .nil)) ?_ ?_))
 rintro _ q1 x m
 replace m:CY u p0 q0 q1=some x:=m
 unfold CY at m
 refine v (vx m JF rfl rfl λ_ _ m=>cZ zB rfl (v ?_))
 apply vi m <;> intro c2 m
 refine v (v (vs (fB m (σ:=Bool) (λs=> []) (λs=>.c 0 (.sl none 5 (List.map dO p0)) (.c 3 (nZ q0) (.c 4 (nZ q1) (.c 67 (.sc (.bool s)) .nil)))) (λx m=> ?_) ?_)))
 refine v (vx m JF rfl rfl λ_ _ m=>vx m o3 rfl rfl λ_ _ m=>cZ kK rfl ?_)
 apply vi m <;> intro b2 m
 rw[b2]
 exact fR m
 rw[b2]
 exact vx m JF rfl rfl λ_ _ m=>vx m o3 rfl rfl λ_ _ m=>bU (nW PT rfl) (fR m)
 rintro _ j2 m
 refine v ?_
 apply vi m <;> intro c3 m
 refine v (v (fO m λm=>fO m λm=> ?_))
 obtain rfl:=eB m
 exact dQ rfl
 exact v (v (gH m))
 exact v (xC m)
 rintro _ r0 m
 exact v (qO m)
 exact v (OP m)
 rintro _ r1 m
 refine v (v ?_)
 obtain rfl:=eB m
 exact dQ rfl
theorem aBC:aO Tryz.prog 14=true:=by kernel_rfl
def C0 (m:Nat) (p0:List Int) (q0:List Int) (q1:Int):Option (Lp ((List Int)×Int) ((List Int))):=
 after (if (decide (q1 < (p0.length:Int)))=true then (some (.brk (decide (q1 < 8)))) else some (.brk false):Option (Lp (Bool) (Lp ((List Int)×Int) ((List Int))))) λj0=>if j0=true then ((ix p0 q1).bind λx0=>(app q0 ([cH .and .i64 x0 1]:List Int)).bind λz0=>some (.go (z0,IntKind.wrap .i64 (q1+1)))) else some (.brk (q0,q1))
def M16 (m:Nat) (p0:List Int):Option ((List Int)):=
 after (aT (λs=>C0 m p0 s.1 s.2) m ([],0)) λ⟨r0,r1⟩=>after (if ((r0.length:Int)==0)=true then (some (.brk ([0]:List Int))) else some (.brk r0):Option (Lp ((List Int)) ((List Int)))) λj0=>some j0
theorem W16 {w:Nat} {p0:List Int} {o:(List Int)} (h:aF) (m:M16 w p0=some o):
 aL Tryz.prog 16 [.sl none 1 (List.map iY p0)] h (λr h'=>r= .sl none 1 (List.map iY o)∧h'=h):=by
 refine fN 28 [.tmp 2] Tryz.func16 rfl rfl rfl rfl ?_
 unfold M16 at m
 refine v (v (v (pU (FE (.tok 3 1 (([]:List Int).length*1)) 3 (ow none 1 (List.map iY [])) (jE _ _)) (nC m (σ:=(List Int)×Int) (τ:=Option cB) (λg s=> [(g,.tok 3 1 ((s.1:List Int).length*1))]) (λg s=>(g=none→s.1= [])) (λg s=>.c 0 (.sl none 1 (List.map iY p0)) (.c 3 (ow g 1 (List.map iY s.1)) (.c 4 (nZ s.2) .nil))) none (λ_=>rfl) (lx (.k3 .nil)) ?_ ?_))))
 rintro tg0 ⟨q0,q1⟩ x t0 m
 replace m:C0 w p0 q0 q1=some x:=m
 unfold C0 at m
 refine vs (vs (fB m (σ:=Bool) (λs=> [(tg0,.tok 3 1 ((q0:List Int).length*1))]) (λs=>.c 0 (.sl none 1 (List.map iY p0)) (.c 3 (ow tg0 1 (List.map iY q0)) (.c 4 (nZ q1) (.c 12 (.sc (.bool s)) .nil)))) (λx m=> ?_) ?_))
 refine v (cZ JE rfl ?_)
 apply vi m <;> intro b0 m
 rw[b0]
 exact fR m
 rw[b0]
 exact fR m
 rintro _ j0 m
 refine v ?_
 apply vi m <;> intro c0 m
 refine v (v (v (vx m S2 rfl rfl λx0 _ m=>bU (eO (List.map iY ([cH .and .i64 x0 1]:List Int)) PU rfl rfl rfl rfl) ?_)))
 obtain⟨z0,Z0,m⟩:=aC m
 exact ve λu=>fF (c:=iY) 0 Z0 PU rfl rfl rfl t0 u rfl λtg1 t1 K0=>qk K0 rfl (v (eY m tg1 t1 (lx (.k3 .nil))))
 exact v (lA m tg0 t0 (lx (.k3 .nil)))
 rintro tg2 ⟨r0,r1⟩ t2 m
 refine v (bU (tU JE t2 rfl) (o6 m (σ:=(List Int)) (τ:=Option cB) (λg s=> [(g,.tok 3 1 ((s:List Int).length*1))]) (λg s=>(g=none→s= [])) (λg s=>.c 3 (ow g 1 (List.map iY s)) .nil) (λx m=> ?_) ?_))
 refine v ?_
 apply vi m <;> intro c1 m
 exact v (ve λu=>FQ (c:=iY) ([0]:List Int) u PU rfl rfl rfl rfl λtg3 t3 K1=>qk K1 rfl (eY m tg3 t3 (kP [0] rfl rfl (.cons (bH.refl _ _) .nil))))
 exact v (eY m tg2 t2 (lx (.cons (bH.refl _ _) .nil)))
 rintro tg4 j1 t4 m
 refine v (v ?_)
 obtain rfl:=eB m
 exact vr λu=>dX.of1 (.inl rfl) (fU _ _ (ow _ _ _) rfl) (aS (List.nil_sublist _) u).1 ((eZ _ 0 t4 u rfl)) ⟨rfl,rfl⟩
theorem aGK:aO Tryz.prog 16=true:=by kernel_rfl
def C1 (m:Nat) (p1:List lP) (q0:aB) (q1:Int):Option (Lp (aB×Int) (aB)):=
 after (if (decide (q1 < (p1.length:Int)))=true then (some (.brk (decide (q1 < 30)))) else some (.brk false):Option (Lp (Bool) (Lp (aB×Int) (aB)))) λj0=>if j0=true then ((ix p1 q1).bind λx0=>(V3 m q0 x0).bind λy0=>after (if y0.2=true then ((M36 m q0 y0.1).bind λy1=>after (if (y1.2==0)=true then (some (.brk y1.1)) else some (.brk q0):Option (Lp (aB) (Lp (aB) (Lp (aB×Int) (aB))))) λj1=>some (.brk j1)) else some (.brk q0):Option (Lp (aB) (Lp (aB×Int) (aB)))) λj2=>some (.go (j2,IntKind.wrap .i64 (q1+1)))) else some (.brk (q0,q1))
def M15 (m:Nat) (p0:List Int) (p1:List lP):Option (aB):=
 (YW m p0).bind λy6=>after (aT (λs=>C1 m p1 s.1 s.2) m (y6,0)) λ⟨r0,r1⟩=>some r0
theorem W15 {w:Nat} {p0:List Int} {p1:List lP} {o:aB} (h:aF) (m:M15 w p0 p1=some o):
 aL Tryz.prog 15 [.sl none 1 (List.map iY p0),.sl none 5 (List.map dO p1)] h (λr h'=>r= .agg (aE o)∧h'=h):=by
 refine fN 43 [.cell 4 30] Tryz.func15 rfl rfl rfl rfl ?_
 unfold M15 at m
 refine v (ve λu=>bD (gR) u pE rfl rfl λk2 K3=>qk K3 rfl (v (vk W33 aE3 m rfl rfl λy6 m=>ve λu=>bD (gR) u pE rfl rfl λk8 K9=>qk K9 rfl (ve λu=>aK 0 (aE y6) u rfl rfl rfl rfl lQ rfl rfl λK0=>qk K0 rfl (v (iI m (σ:=aB×Int) (λs=> [(some k8,.obj 30 (aE s.1)),(some k2,.obj 30 (gR))]) (λs=>.c 1 (.sl none 5 (List.map dO p1)) (.c 4 (.ptr k2 0) (.c 5 (.ptr k8 0) (.c 6 (nZ s.2) .nil)))) (lx (.k4 .nil)) ?_ ?_))))))
 rintro _ ⟨q0,q1⟩ x m
 replace m:C1 w p1 q0 q1=some x:=m
 unfold C1 at m
 refine vs (vs (fB m (σ:=Bool) (λs=> [(some k8,.obj 30 (aE q0)),(some k2,.obj 30 (gR))]) (λs=>.c 1 (.sl none 5 (List.map dO p1)) (.c 4 (.ptr k2 0) (.c 5 (.ptr k8 0) (.c 6 (nZ q1) (.c 20 (.sc (.bool s)) .nil))))) (λx m=> ?_) ?_))
 refine v (cZ S3 rfl ?_)
 apply vi m <;> intro b0 m
 rw[b0]
 exact mC m
 rw[b0]
 exact mC m
 rintro _ j0 m
 refine v ?_
 apply vi m <;> intro c0 m
 refine v (v (v (vz [(1000000,some k8,.obj 30 (aE q0))] mixed (λu=>⟨λ_=>aI 0 u rfl,trivial⟩) λu=>zL 0 0 (.agg (aE q0)) rfl eV rfl rfl rfl (zC 1 rfl (eW (.sl _ _ _) rfl) (zI 2 rfl rfl ?_)))))
 obtain⟨x0,X0,m⟩:=aC m
 refine zC 3 rfl (l8 X0 JF rfl rfl) (zC 4 rfl (mN (.agg (dO x0)) TA rfl rfl) ?_)
 obtain⟨y0,Y0,m⟩:=aC m
 refine zC 5 rfl (bZ (W35 _ Y0) rfl aBB rfl) (zC 6 rfl (eW (.tup _) rfl) (zC 7 rfl (WI (.agg _) rfl rfl) (zC 8 rfl (WI (.sc (.bool _)) rfl rfl) (zE 9 rfl (bD (vR) u JM rfl rfl λk155 K1=>⟨⟨λ_=>aI 1 K1 rfl,trivial⟩, ?_⟩)))))
 refine zE 10 rfl (aK 0 (aD y0.1) K1 rfl rfl rfl rfl uC rfl rfl λK2=>⟨⟨λ_=>aI 1 K2 rfl,trivial⟩, ?_⟩)
 refine zC 11 rfl (iB (.sc (.bool _)) rfl) (zX (qk (f:=.c 8 _ (.c 7 _ (.c 31 _ (.c 30 _ (.c 23 _ (fq6 29 _ _ _ _ _ _ _)))))) K2 rfl (v (fB m (σ:=aB) (λs=> [(some k155,.obj 62 (aD y0.1)),(some k8,.obj 30 (aE s)),(some k2,.obj 30 (gR))]) (λs=>.c 1 (.sl none 5 (List.map dO p1)) (.c 4 (.ptr k2 0) (.c 5 (.ptr k8 0) (.c 6 (nZ q1) .nil)))) (λx m=> ?_) ?_))))
 refine v ?_
 apply vi m <;> intro c1 m
 refine v (vl 1 (.agg (aE q0)) eV rfl rfl rfl (vl 0 (.agg (aD y0.1)) n7 rfl rfl rfl (vk W36 aGC m rfl rfl λy1 m=>ve λu=>bD (gR) u pE rfl rfl λk180 K4=>qk K4 rfl (ve λu=>aK 0 (aE y1.1) u rfl rfl rfl rfl lQ rfl rfl λK5=>qk K5 rfl (v (fB m (σ:=aB) (λs=> [(some k180,.obj 30 (aE y1.1)),(some k155,.obj 62 (aD y0.1)),(some k8,.obj 30 (aE s)),(some k2,.obj 30 (gR))]) (λs=>.c 1 (.sl none 5 (List.map dO p1)) (.c 4 (.ptr k2 0) (.c 5 (.ptr k8 0) (.c 6 (nZ q1) .nil)))) (λx m=> ?_) ?_))))))
 refine v ?_
 apply vi m <;> intro c2 m
 exact v (vl 0 (.agg (aE y1.1)) eV rfl rfl rfl (ve λu=>aK 2 (aE y1.1) u rfl rfl rfl rfl lQ rfl rfl λK6=>qk K6 rfl (fR m)))
 exact v (fR m)
 rintro _ j1 m
 exact uZ m (kP [1,2,3] rfl rfl (.k4 .nil))
 exact v (fR m)
 rintro _ j2 m
 exact v (uZ m (kP [1,2] rfl rfl (.k4 .nil)))
 exact v (vN m)
 rintro _ ⟨r0,r1⟩ m
 refine v (vl 0 (.agg (aE r0)) eV rfl rfl rfl (ve λu=>aK 1 (aE r0) u rfl rfl rfl rfl lQ rfl rfl λK7=>qk K7 rfl (v ?_)))
 obtain rfl:=eB m
 exact vr λu=>dX.of1 (.inl rfl) (qD (.agg (aE r0)) eV rfl (a9 1 u rfl) rfl) (aS (List.nil_sublist _) u).1 (bH.refl _ _) ⟨rfl,rfl⟩
theorem aGL:aO Tryz.prog 15=true:=by kernel_rfl
end Go.Proofs.YtbbifdfldpfphaaGreat
namespace Go.Vm
def T {α:Type} (m:Option α) (Q:α→Prop):Prop:=∃a,m=some a∧Q a
def L3 {σ ρ:Type} (G B:σ→Prop) (R:ρ→Prop):Lp σ ρ→Prop
 | .go s=>G s
 | .brk s=>B s
 | .ret r=>R r
section
variable {α β σ ρ:Type} {Q:β→Prop}
theorem T.some {a:β} (h:Q a):T (some a) Q:=⟨a,rfl,h⟩
theorem T.mono {P:β→Prop} {m:Option β} (h:T m P) (k:∀a,P a→Q a):T m Q:=by obtain⟨a,e,p⟩:=h; exact⟨a,e,k a p⟩
theorem T.of {m:Option β} {a:β} (h:m= .some a) (hq:Q a):T m Q:=⟨a,h,hq⟩
theorem T.bind {m:Option α} {k:α→Option β} (P:α→Prop) (h:T m P) (hk:∀a,P a→T (k a) Q):T (m.bind k) Q:=by
 obtain⟨a,e,p⟩:=h
 rw[e]; exact hk a p
theorem T.bindEq {m:Option α} {k:α→Option β} {a:α} (h:m= .some a) (hk:T (k a) Q):T (m.bind k) Q:=by rw[h]; exact hk
theorem T.ite {c:Prop} [Decidable c] {a b:Option β} (h1:c→T a Q) (h2:¬c→T b Q):T (if c then a else b) Q:=by
 by_cases h:c
 ·rw[if_pos h]; exact h1 h
 ·rw[if_neg h]; exact h2 h
theorem T.grd {b:Bool} {k:Option β} (hb:b=true) (h:T k Q):T (grd b k) Q:=by unfold Go.Vm.grd; rw[if_pos hb]; exact h
theorem T.ix {l:List α} {i:Int} {k:α→Option β} (h0:0≤i) (h1:i < l.length) (hk:∀x,l[i.toNat]? =Option.some x→x∈l→T (k x) Q):T ((ix l i).bind k) Q:=by
 have hx:l[i.toNat]? =Option.some l[i.toNat]:=List.getElem?_eq_getElem (by omega)
 rw[uH l h0,hx]
 exact hk _ hx (List.getElem_mem _)
theorem T.app {xs ys:List α} {k:List α→Option β} (h:xs.length+ys.length≤1000000000) (hk:T (k (xs++ys)) Q):T ((app xs ys).bind k) Q:=by rw[dV h]; exact hk
theorem T.slc {l:List α} {a b:Int} {k:List α→Option β} (h:0≤a∧a≤b∧b≤l.length) (hk:T (k ((l.take b.toNat).drop a.toNat)) Q):T ((slc l a b).bind k) Q:=by unfold Go.Vm.slc; rw[if_pos h]; exact hk
variable {R:ρ→Prop} {G B:σ→Prop}
theorem T.go {s:σ} (h:G s):T (.some (Lp.go s)) (L3 G B R):=⟨_,rfl,h⟩
theorem T.brk {s:σ} (h:B s):T (.some (Lp.brk s)) (L3 G B R):=⟨_,rfl,h⟩
theorem T.ret {r:ρ} (h:R r):T (.some (Lp.ret r)) (L3 G B R):=⟨_,rfl,h⟩
theorem T.after {m:Option (Lp σ ρ)} {k:σ→Option ρ} (h:T m (L3 (λ_=>False) (λs=>T (k s) R) R)):T (after m k) R:=by
 obtain⟨a,e,p⟩:=h
 rw[e]
 cases a with
 | go s=>exact p.elim
 | brk s=>exact p
 | ret r=>exact⟨_,rfl,p⟩
theorem T.loopAt {step:σ→Option (Lp σ ρ)} (I:σ→Prop) (μ:σ→Nat) (hs:∀s,I s→T (step s) (L3 (λs'=>I s'∧μ s' < μ s) B R)):∀(F:Nat) (s:σ),I s→μ s < F→T (aT step F s) (L3 (λ_=>False) B R)
 | 0,_,_,h=>by omega
 | F+1,s,hi,hm=>by
  obtain⟨a,e,p⟩:=hs s hi
  unfold aT
  rw[e]
  cases a with
  | go s'=>exact T.loopAt I μ hs F s' p.1 (by have:=p.2; omega)
  | brk s'=>exact⟨_,rfl,p⟩
  | ret r=>exact⟨_,rfl,p⟩
theorem T.loop {step:σ→Option (Lp σ ρ)} {F:Nat} {s0:σ} {k:σ→Option ρ} (I:σ→Prop) (μ:σ→Nat) (B:σ→Prop) (hm:μ s0 < F) (h0:I s0) (hs:∀s,I s→T (step s) (L3 (λs'=>I s'∧μ s' < μ s) B R)) (hk:∀s,B s→T (k s) R):
    T (Go.Vm.after (aT step F s0) k) R:=T.after ((T.loopAt I μ hs F s0 h0 hm).mono λa=>by
      cases a with
      | go s=>exact λh=>h.elim
      | brk s=>exact hk s
      | ret r=>exact id)
end
theorem J7 {n:Nat} (x:Ar n):x.1.length=n:=x.2
theorem aBF (n:Int):0≤IntKind.wrap .u8 n∧IntKind.wrap .u8 n < 256:=by rw[DT]; omega
theorem wrI (n:Int): -9223372036854775808≤IntKind.wrap .i64 n∧IntKind.wrap .i64 n < 9223372036854775808:=by
 have e:IntKind.wrap .i64 n=(if decide (n % 18446744073709551616≥9223372036854775808)=true then n % 18446744073709551616 - 18446744073709551616 else n % 18446744073709551616):=rfl
 rw[e]
 simp only[decide_eq_true_eq]
 split <;> omega
end Go.Vm
namespace Go.Proofs.YtbbifdfldpfphaaGreat
open Go.Vm
theorem NT {F:Nat} {a b:Int} (hb:0≤b):T (tC F a b) λ_=>True:=by
 unfold tC
 refine .grd (by simpa using hb) (.grd (by simpa using QT _) (.some trivial))
theorem aGM {F:Nat} {l:List Int} (hF:1000≤F) (hl:l.length≤300):T (NP F l) λr=>r.length % 64=0∧r.length≤l.length+80:=by
 unfold NP
 refine .app (by simp; omega) (.app (by simp; omega) ?_)
 refine .loop (λq=>l.length+1≤q.length∧q.length≤(l.length+72) / 64*64 - 8+0∧l.length+9≤(l.length+72) / 64*64) (λq=>(l.length+72) / 64*64 - 8 - q.length) (λq=>(q.length+8) % 64=0∧q.length≤l.length+64) (by simp; omega) (by simp; omega) (λq hq=> ?_) (λq hq=> ?_)
 ·unfold wD
  rw[wr (by omega) (by omega),Int.tmod_eq_emod_of_nonneg (by omega)]
  refine .ite (λhc=> ?_) λhc=> ?_
  ·have:((q.length:Int)+8) % 64≠0:=by simpa using hc
   refine .app (by simp; omega) (.go ?_)
   simp only[List.length_append,List.length_singleton]
   omega
  ·have:((q.length:Int)+8) % 64=0:=by simpa using hc
   exact .brk (by omega)
 ·refine .loop (λs=> -1≤s.2∧s.2≤7∧(s.1.length:Int)+s.2=q.length+7) (λs=>(s.2+1).toNat) (λs=>s.1.length=q.length+8) (by simp; omega) (by simp) (λs hs=> ?_) (λs hs=>.some (by omega))
  obtain⟨a,i⟩:=s
  unfold wE
  simp only at hs ⊢
  refine .ite (λhc=> ?_) λhc=> ?_
  ·have hc:=of_decide_eq_true hc
   rw[wr (n:=i - 1) (by omega) (by omega)]
   refine .grd (by simpa using QT _) (.app (by simp; omega) (.go ?_))
   simp only[List.length_append,List.length_singleton]
   omega
  ·exact .brk (by simp only[decide_eq_true_eq] at hc; show a.length=_; omega)
theorem aBG {F:Nat} {d:List Int} (hF:1000≤F) (hl:d.length≤300):T (V2 F d) mD:=by
 unfold V2
 refine .bind (λ_=>True) ⟨_,rfl,trivial⟩ λy6 _=> ?_
 refine .bind _ (aGM hF hl) λy hy=> ?_
 refine .loop (λs=>0≤s.2∧s.2 % 64=0∧s.2≤y.length) (λs=>(y.length - s.2).toNat) (λ_=>True) (by simp; omega) (by simp) (λs hs=> ?_) (λs _=> ?_)
 ·obtain⟨h,i⟩:=s
  unfold CT
  simp only at hs ⊢
  refine .ite (λhc=> ?_) λhc=>.brk trivial
  have hc:=of_decide_eq_true hc
  refine .loop (λs=>0≤s.2∧s.2≤64) (λs=>(64 - s.2).toNat) (λ_=>True) (by simp; omega) (by simp) (λs hs2=> ?_) (λs _=> ?_)
  ·obtain⟨w,j⟩:=s
   unfold CQ
   simp only at hs2 ⊢
   refine .ite (λhc2=> ?_) λhc2=>.brk trivial
   have hc2:=of_decide_eq_true hc2
   have fin:IntKind.wrap .i64 (j+1)=j+1:=wr (by omega) (by omega)
   refine .after (.ite (λhc3=> ?_) λhc3=> ?_)
   ·have hc3:=of_decide_eq_true hc3
    refine .loop (λs=>0≤s.2∧s.2≤4) (λs=>(4 - s.2).toNat) (λ_=>True) (by simp; omega) (by simp) (λs hs4=> ?_) (λs _=>.brk (.go (by rw[fin]; simp only; omega)))
    obtain⟨w,k⟩:=s
    unfold CP
    simp only at hs4 ⊢
    refine .ite (λhc4=> ?_) λhc4=>.brk trivial
    have hc4:=of_decide_eq_true hc4
    rw[wr (n:=4*j) (by omega) (by omega),wr (n:=i+4*j) (by omega) (by omega),wr (n:=i+4*j+k) (by omega) (by omega),wr (n:=k+1) (by omega) (by omega)]
    refine .ix (by omega) (by rw[J7]; omega) λ_ _ _=>.ix (by omega) (by omega) λ_ _ _=>.ix (by omega) (by rw[J7]; omega) λ_ _ _=>.go ?_
    simp only
    omega
   ·have hc3:¬j < 16:=by simpa using hc3
    rw[wr (n:=j - 15) (by omega) (by omega),wr (n:=j - 2) (by omega) (by omega),wr (n:=j - 16) (by omega) (by omega),wr (n:=j - 7) (by omega) (by omega)]
    refine .ix (by omega) (by rw[J7]; omega) λ_ _ _=>.ix (by omega) (by rw[J7]; omega) λ_ _ _=>.ix (by omega) (by rw[J7]; omega) λ_ _ _=>.ix (by omega) (by rw[J7]; omega) λ_ _ _=> ?_
    refine .bind _ (NT (by omega)) λ_ _=>.bind _ (NT (by omega)) λ_ _=>.bind _ (NT (by omega)) λ_ _=>.bind _ (NT (by omega)) λ_ _=> ?_
    refine .ix (by omega) (by rw[J7]; omega) λ_ _ _=>.brk (.go ?_)
    rw[fin]; simp only; omega
  ·refine .loop (λs=>0≤s.2∧s.2≤64) (λs=>(64 - s.2).toNat) (λ_=>True) (by simp; omega) (by simp) (λs hs2=> ?_) (λs _=> ?_)
   ·obtain⟨w,j⟩:=s
    unfold CR
    simp only at hs2 ⊢
    refine .ite (λhc2=> ?_) λhc2=>.brk trivial
    have hc2:=of_decide_eq_true hc2
    have fin:IntKind.wrap .i64 (j+1)=j+1:=wr (by omega) (by omega)
    rw[fin]
    repeat' (first | exact trivial | refine T.bind _ (NT (by omega)) λ_ _=> ?_ | refine T.ix (by omega) (by rw[J7]; omega) λ_ _ _=> ?_)
    refine .go ?_
    simp only; omega
   ·refine .loop (λs=>0≤s.2∧s.2≤8) (λs=>(8 - s.2).toNat) (λ_=>True) (by simp; omega) (by simp) (λs hs2=> ?_) (λs _=> ?_)
    ·obtain⟨w,j⟩:=s
     unfold CS
     simp only at hs2 ⊢
     refine .ite (λhc2=> ?_) λhc2=>.brk trivial
     have hc2:=of_decide_eq_true hc2
     rw[wr (n:=j+1) (by omega) (by omega)]
     refine .ix (by omega) (by rw[J7]; omega) λ_ _ _=>.ix (by omega) (by rw[J7]; omega) λ_ _ _=>.ix (by omega) (by rw[J7]; omega) λ_ _ _=>.go ?_
     simp only; omega
    ·rw[wr (n:=i+64) (by omega) (by omega)]
     refine .go ?_
     simp only; omega
 ·refine .loop (λs=>0≤s.2∧s.2≤32∧mD s.1) (λs=>(32 - s.2).toNat) (λs=>mD s.1) (by simp; omega) ⟨by simp,by simp, ?_⟩ (λs hs2=> ?_) (λs hs=>.some hs)
  ·intro x hx
   have:x=0:=List.eq_of_mem_replicate hx
   subst this
   exact⟨by omega,by omega⟩
  ·obtain⟨w,j⟩:=s
   unfold wG
   simp only at hs2 ⊢
   refine .ite (λhc2=> ?_) λhc2=>.brk hs2.2.2
   have hc2:=of_decide_eq_true hc2
   rw[wr (n:=j+1) (by omega) (by omega),Int.tdiv_eq_ediv_of_nonneg (by omega),wr (n:=j / 4) (by omega) (by omega)]
   refine .ix (by omega) (by rw[J7]; omega) λ_ _ _=>.grd (by simpa using QT _) (.ix (by omega) (by rw[J7]; omega) λ_ _ _=>.go ⟨⟨?_, ?_, ?_⟩, ?_⟩)
   ·simp only; omega
   ·simp only; omega
   ·intro x hx
    rcases List.mem_or_eq_of_mem_set hx with h | rfl
    ·exact hs2.2.2 x h
    ·exact aBF _
   ·simp only; omega
end Go.Proofs.YtbbifdfldpfphaaGreat
namespace Go.Vm
section
variable {α β ρ:Type} {Q:β→Prop}
theorem T.ins {l:List α} {r:Int} {y:α} {k:List α→Option β} (h:0≤r∧r≤l.length) (hl:l.length≤1000000) (hk:∀z:List α,z.length=l.length+1→(∀x∈z,x∈l∨x=y)→T (k z) Q):
    T ((Go.Vm.slc l 0 r).bind λx=>(Go.Vm.app ([]:List α) x).bind λz=>(Go.Vm.app z ([y]:List α)).bind λz2=>(Go.Vm.slc l r l.length).bind λx2=>(Go.Vm.app z2 x2).bind k) Q:=by
  refine .slc (by omega) (.app (by simp; omega) (.app (by simp; omega) (.slc (by omega) (.app (by simp; omega) (hk _ (by simp; omega) λx hx=> ?_)))))
  simp only[List.mem_append,List.mem_singleton] at hx
  rcases hx with ((h | h) | h) | h
  · simp at h
  · exact .inl (List.mem_of_mem_take (List.mem_of_mem_drop h))
  · exact .inr h
  · exact .inl (List.mem_of_mem_take (List.mem_of_mem_drop h))
theorem T.scan {Q:ρ→Prop} {l:List α} {F:Nat} {body:Int→Option (Lp Int ρ)} {g:α→Option (Lp Bool (Lp Int ρ))} {k:Int→Option ρ} (hF:l.length < F) (hl:l.length < 1000000)
    (hb:∀i,body i=Go.Vm.after (if decide (i < (l.length:Int))=true then (Go.Vm.ix l i).bind g else Option.some (.brk false)) λj=>if j=true then Option.some (.go (IntKind.wrap .i64 (i+1))) else Option.some (.brk i))
    (hg:∀x∈l,T (g x) (L3 (λ_=>False) (λ_=>True) (λ_=>False))) (hk:∀r:Int,0≤r∧r≤l.length→T (k r) Q):T (Go.Vm.after (aT body F 0) k) Q:=by
  refine .loop (λi=>0≤i∧i≤l.length) (λi=>(l.length - i).toNat) (λi=>0≤i∧i≤l.length) (by omega) (by omega) (λi hi=> ?_) (λi hi=>hk i hi)
  rw[hb]
  refine .after (.ite (λhc=> ?_) λhc=>.brk ?_)
  · have hc:=of_decide_eq_true hc
    refine .ix (by omega) (by omega) λx _ hx=>(hg x hx).mono λa ha=> ?_
    cases a with
    | go s=>exact ha
    | ret s=>exact ha.elim
    | brk s=>
      refine T.ite (λ_=>.go ?_) λ_=>.brk hi
      rw[wr (by omega) (by omega)]
      omega
  · exact T.ite (λh=>by cases h) λ_=>.brk hi
end
end Go.Vm
namespace Go.Proofs.YtbbifdfldpfphaaGreat
open Go.Vm
def fOk (f:dS):Prop:=f.Path.size≤100∧gL gB f.Data
def UN (f:dS):Prop:=fOk f∧f.Data.length≤200
theorem aBH {F:Nat} {l:List dS} (hF:1000≤F):T (J6 F l) λb=>b=false→l.length≤6∧∀x∈l,x.Data.length≤200:=by
 unfold J6
 refine .ite (λhc=>.some λh=>by cases h) λhc=> ?_
 have hc:l.length≤6:=by simp at hc; omega
 rw[mT (l:=l) (λx=>decide (200 < (x.Data.length:Int))) true (by omega) (λi x hx _ hi=>by
  unfold tB
  rw[hH (by omega)]
  simp only[bO,hx,Option.bind_some,Int.ofNat_lt,hi,decide_true,if_true]
  split <;> rfl) (by unfold tB; simp)]
 cases h:l.any λx=>decide (200 < (x.Data.length:Int))
 ·refine .some λ_=>⟨hc,λx hx=> ?_⟩
  have:=List.any_eq_false.1 h x hx
  simp at this
  omega
 ·exact .some λh=>by cases h
theorem aGN {F:Nat} {l:List dS} (hF:1000≤F) (ho:∀f∈l,fOk f):T (M85 F l) λr=>r.2=0→r.1.length≤6∧∀f∈r.1,UN f:=by
  unfold M85
  refine .bind _ (aBH hF) λb hb=>.ite (λ_=>.some λh=>by simp at h) λhc=> ?_
  obtain⟨hn,hd⟩:=hb (by simpa using hc)
  refine .loop (λi=>0≤i∧i≤l.length) (λi=>(l.length - i).toNat) (λ_=>True) (by omega) (by omega) (λi hi=> ?_) (λi _=> ?_)
  · unfold CM
    refine .ite (λhc=> ?_) λhc=>.brk trivial
    have hc:=of_decide_eq_true hc
    refine .ix (by omega) (by omega) λx _ hx=>.bindEq (MF hF (ho x hx).1) (.ite (λ_=>.ret λh=>by simp at h) λ_=>.go ?_)
    rw[wr (by omega) (by omega)]
    omega
  · refine .loop (λs=>0≤s.2∧s.2≤l.length∧(s.1.length:Int)=s.2∧∀f∈s.1,UN f) (λs=>(l.length - s.2).toNat) (λs=>s.1.length≤6∧∀f∈s.1,UN f) (by simp; omega) (by simp) (λs hs=> ?_) (λs hs=>.some λ_=>hs)
    obtain⟨q,i⟩:=s
    simp only at hs
    unfold CO
    refine .ite (λhc=> ?_) λhc=>.brk ⟨by simp only; omega,hs.2.2.2⟩
    have hc:=of_decide_eq_true hc
    simp only at hc
    refine .loop (λj=>0≤j∧j≤q.length) (λj=>(q.length - j).toNat) (λj=>0≤j∧j≤q.length) (by omega) (by omega) (λj hj=> ?_) (λj hj=> ?_)
    · unfold CN
      have fin:j < q.length→0≤IntKind.wrap .i64 (j+1)∧IntKind.wrap .i64 (j+1)≤q.length∧(q.length - IntKind.wrap .i64 (j+1)).toNat < (q.length - j).toNat:=λh=>by
        rw[wr (by omega) (by omega)]; omega
      refine .after (.ite (λhc2=> ?_) λhc2=>.brk (T.ite (λh=>by cases h) λ_=>.brk hj))
      have hc2:=of_decide_eq_true hc2
      have:=fin hc2
      refine .ix (by omega) (by omega) λx _ hx=>.ix (by omega) (by omega) λy _ hy=>.brk (T.ite (λ_=>.go (by omega)) λ_=>.brk hj)
    · have rest:T (if (false:Bool)=true then some (.ret ([],9)) else (slc q 0 j).bind λx494=>(ix l i).bind λx496=>(ix l i).bind λx498=>(app ([]:List dS) x494).bind λz500=>(zQ F x498.Data).bind λy506=>(app z500 ([({ Path:=x496.Path,Data:=y506}:dS)]:List dS)).bind λz508=>(slc q j (q.length:Int)).bind λx513=>(app z508 x513).bind λz515=>some (.go (z515,IntKind.wrap .i64 (i+1))))
          (L3 (λs':List dS×Int=>(0≤s'.2∧s'.2≤l.length∧(s'.1.length:Int)=s'.2∧∀f∈s'.1,UN f)∧(l.length - s'.2).toNat < (l.length - i).toNat) (λs=>s.1.length≤6∧∀f∈s.1,UN f) (λr:List dS×Int=>r.2=0→r.1.length≤6∧∀f∈r.1,UN f)):=by
        refine T.ite (λh=>by cases h) λ_=> ?_
        rw[wr (n:=i+1) (by omega) (by omega)]
        refine .slc (by omega) (.ix (by omega) (by omega) λx _ hx=>.ix (by omega) (by omega) λy _ hy=>.app (by simp; omega) (.bindEq (QD (by have:=hd y hy; omega)) (.app (by simp; omega) (.slc (by omega) (.app (by simp; omega) (.go ?_))))))
        refine⟨⟨by simp only; omega,by simp only; omega,by simp; omega,λf hf=> ?_⟩,by simp only; omega⟩
        simp only[List.mem_append,List.mem_singleton] at hf
        rcases hf with ((h | h) | h) | h
        · simp at h
        · exact hs.2.2.2 f (List.mem_of_mem_take (List.mem_of_mem_drop h))
        · subst h
          exact⟨⟨(ho x hx).1,(ho y hy).2⟩,hd y hy⟩
        · exact hs.2.2.2 f (List.mem_of_mem_take (List.mem_of_mem_drop h))
      refine .after (.ite (λhc2=> ?_) λhc2=>.brk rest)
      have hc2:=of_decide_eq_true hc2
      refine .ix (by omega) (by omega) λx _ hx=>.ix (by omega) (by omega) λy _ hy=>.brk ?_
      cases x.Path.toList==y.Path.toList
      · exact rest
      · exact .ret λh=>by simp at h
theorem aGO {F:Nat} {l:List Int} (hF:1000≤F) (h0:0 < l.length) (hl:l.length≤300):T (NR F l) λk=>0 < k∧k≤l.length∧(8≤k∨k=l.length):=by
 unfold NR
 refine .loop (λs=>0≤s.2∧s.2≤l.length) (λs=>(l.length - s.2).toNat) (λ_=>True) (by simp; omega) (by simp) (λs hs=> ?_) (λs _=>.some (by omega))
 obtain⟨h,i⟩:=s
 simp only at hs
 unfold wJ
 refine .ite (λhc=> ?_) λhc=>.brk trivial
 have hc:=of_decide_eq_true hc
 simp only at hc
 rw[wr (n:=i+1) (by omega) (by omega)]
 have k2:(8≤i+1)∨¬(8≤i+1):=by omega
 have e64:(i+1==64)=decide (i+1=64):=rfl
 refine .ix (by omega) (by omega) λx _ hx=>.after (.ite (λhc2=> ?_) λhc2=> ?_)
 ·have hc2:=of_decide_eq_true hc2
  refine .ite (λ_=>.brk (T.ite (λ_=>.ret (by omega)) λh=>absurd rfl h)) λ_=>.brk (T.ite (λ_=>.ret (by omega)) λ_=>.go (by simp only; omega))
 ·refine .brk (T.ite (λh=>.ret ?_) λ_=>.go (by simp only; omega))
  have:i+1=64:=by simpa using h
  omega
theorem aGP {F:Nat} {l:List Int} (hF:1000≤F) (hl:l.length≤200) (gl:gL gB l):T (NS F l) λr=>r.length≤25∧∀x∈r,x.length≤300∧gL gB x:=by
 unfold NS
 refine .loop (λs=>s.2.length≤l.length∧gL gB s.2∧(8*s.1.length+s.2.length≤l.length∨(s.2.length=0∧8*s.1.length≤l.length+7))∧∀x∈s.1,x.length≤300∧gL gB x) (λs=>s.2.length) (λs=>s.1.length≤25∧∀x∈s.1,x.length≤300∧gL gB x) (by simp; omega) (by simp[gl]) (λs hs=> ?_) (λs hs=>.some hs)
 obtain⟨q,d⟩:=s
 simp only at hs
 obtain⟨s1,s2,s3,s4⟩:=hs
 unfold wK
 refine .ite (λhc=> ?_) λhc=>.brk ⟨by simp only; omega,s4⟩
 have hc:=of_decide_eq_true hc
 simp only at hc
 refine .bind _ (aGO hF (by simp only; omega) (by simp only; omega)) λk hk=>.slc (by omega) (.bindEq (QD (by simp; omega)) (.app (by simp; omega) (.slc (by simp only at hk ⊢; omega) (.go ?_))))
 simp only at hk ⊢
 refine⟨⟨by simp; omega,λx hx=>s2 x (List.mem_of_mem_take (List.mem_of_mem_drop hx)),by simp; omega,λx hx=> ?_⟩,by simp; omega⟩
 rcases List.mem_append.1 hx with h | h
 ·exact s4 x h
 ·rw[List.mem_singleton] at h
  subst h
  exact⟨by simp; omega,λy hy=>s2 y (List.mem_of_mem_take (List.mem_of_mem_drop hy))⟩
theorem aGQ {F:Nat} {l:List dS} (hF:1000≤F) (ho:∀f∈l,fOk f):T (NQ F l) λ_=>True:=by
 unfold NQ
 refine .bind _ (aBH hF) λb hb=>.ite (λ_=>.some trivial) λhc=> ?_
 obtain⟨hn,hd⟩:=hb (by simpa using hc)
 refine .loop (λi=>0≤i∧i≤l.length) (λi=>(l.length - i).toNat) (λ_=>True) (by omega) (by omega) (λi hi=> ?_) (λi _=>.some trivial)
 unfold wH
 refine .ite (λhc=> ?_) λhc=>.brk trivial
 have hc:=of_decide_eq_true hc
 rw[wr (n:=i+1) (by omega) (by omega)]
 have fin:∀b:Bool,T (if b=true then (some (.ret 1):Option (Lp Int Int)) else some (.go (i+1))) (L3 (λs'=>(0≤s'∧s'≤l.length)∧(l.length - s').toNat < (l.length - i).toNat) (λ_=>True) (λ_=>True)):=λb=>T.ite (λ_=>.ret trivial) λ_=>.go (by omega)
 refine .after (.ix (by omega) (by omega) λx _ hx=>.bindEq (MF hF (ho x hx).1) (.ite (λ_=>.brk (fin _)) λ_=>.ite (λh=> ?_) λ_=>.brk (fin _)))
 have h:=of_decide_eq_true h
 rw[wr (by omega) (by omega)]
 exact .ix (by omega) (by omega) λ_ _ _=>.ix (by omega) (by omega) λ_ _ _=>.brk (fin _)
theorem aGR {F:Nat} {l:List bL} {d:bL} (hF:1000≤F) (hl:l.length < 900) (gl:∀x∈l,mD x) (hd:mD d):
    T (EA F l d) λr=>0≤r.2.1∧r.2.1≤l.length∧r.1.length=l.length+(if r.2.2=true then 1 else 0)∧∀x∈r.1,mD x:=by
  unfold EA
  refine T.scan (by omega) (by omega) (λ_=>rfl) (λx hx=>.bindEq (YM hF (gl x hx) hd) (.brk trivial)) λr hr=> ?_
  have rest:T ((slc l 0 r).bind λx84=>(app ([]:List bL) x84).bind λz86=>(app z86 ([d]:List bL)).bind λz92=>(slc l r (l).length).bind λx98=>(app z92 x98).bind λz100=>some (z100,r,true))
      λr=>0≤r.2.1∧r.2.1≤l.length∧r.1.length=l.length+(if r.2.2=true then 1 else 0)∧∀x∈r.1,mD x:=by
    refine .ins hr (by omega) λz h1 h2=>.some ⟨hr.1,hr.2,h1,λx hx=> ?_⟩
    rcases h2 x hx with h | rfl
    · exact gl x h
    · exact hd
  refine .after (.ite (λhc=> ?_) λ_=>.brk (T.ite (λh=>by cases h) λ_=>rest))
  have hc:=of_decide_eq_true hc
  refine .ix (by omega) (by omega) λx _ hx=>.brk ?_
  refine T.ite (λ_=>.some ?_) λ_=>rest
  exact⟨hr.1,hr.2,rfl,gl⟩
open Go.Vm
def IN (m:bB):Prop:=m.Name.size≤100∧m.Parts.length≤10∧(∀p∈m.Parts,p.Path.size≤100∧p.Ids.length≤40)∧xP m
def NU (l:List (List Int)) (n:Nat):Prop:=l.length≤n∧∀x∈l,x.length≤300∧gL gB x
structure J8 (c:aP):Prop where
 seq:gI c.Snap.Seq
 man:IN c.Snap.Man
 locs:c.Snap.Locs= []
 cn:c.Chunks.length≤160
 ch:∀x∈c.Chunks,mD x.Id∧x.Data.length≤300∧gL gB x.Data∧x.Locs= []
 sq:gI c.Seq
 vol:gI c.Vol
 it:c.Items.length≤64
 iti:∀x∈c.Items,gI x.Seq∧gI x.Of∧gI x.Off∧gI x.Len
theorem UO:IN { Name:=ByteArray.empty,Parts:= []}:=⟨by decide,by simp,by simp,trivial,λ_ h=>by simp at h⟩
theorem aGS {F:Nat} {nm:ByteArray} {fs:List dS} (hF:1000≤F) (hn:nm.size≤100) (h6:fs.length≤6) (ho:∀f∈fs,UN f):T (M86 F nm fs) λr=>IN r.1∧NU r.2.1 150:=by
 unfold M86
 refine .bindEq (MF hF hn) (.ite (λ_=>.some ⟨UO,by simp,by simp⟩) λ_=>.bind _ (aGQ hF λf hf=>(ho f hf).1) λy _=>.ite (λ_=>.some ⟨UO,by simp,by simp⟩) λ_=> ?_)
 refine .loop (λs=>0≤s.2.2.2∧s.2.2.2≤fs.length∧(s.1.length:Int)=s.2.2.2∧(∀p∈s.1,(p.Path.size≤100∧p.Ids.length≤40)∧GK p)∧(s.2.1.length:Int)≤25*s.2.2.2∧(∀x∈s.2.1,x.length≤300∧gL gB x)∧s.2.2.1.length=s.2.1.length∧∀x∈s.2.2.1,mD x)
  (λs=>(fs.length - s.2.2.2).toNat) (λs=>(s.1.length≤6∧∀p∈s.1,(p.Path.size≤100∧p.Ids.length≤40)∧GK p)∧NU s.2.1 150) (by simp; omega) (by simp) (λs hs=> ?_) (λs hs=> ?_)
 ·obtain⟨ps,ds,ids,i⟩:=s
  simp only at hs
  obtain⟨s1,s2,s3,s4,s5,s6,s7,s8⟩:=hs
  unfold CV
  refine .ite (λhc=> ?_) λhc=>.brk ⟨⟨by simp only; omega,s4⟩,by simp only; omega,s6⟩
  have hc:=of_decide_eq_true hc
  simp only at hc
  rw[wr (n:=i+1) (by omega) (by omega)]
  refine .ix (by omega) (by omega) λx e hx=>.ix (by omega) (by omega) λx2 e2 hx2=>.ix (by omega) (by omega) λx3 e3 hx3=>.bind _ (aGP hF (ho x3 hx3).2 (ho x3 hx3).1.2) λy hy=> ?_
  obtain⟨y1,y2⟩:=hy
  refine .loop (λs=>0≤s.2.2.2∧s.2.2.2≤y.length∧(s.1.length:Int)=s.2.2.2∧(∀d∈s.1,mD d)∧(s.2.1.length:Int)≤25*i+s.2.2.2∧(∀x∈s.2.1,x.length≤300∧gL gB x)∧s.2.2.1.length=s.2.1.length∧∀x∈s.2.2.1,mD x)
   (λs=>(y.length - s.2.2.2).toNat) (λs=>(s.1.length≤25∧(∀d∈s.1,mD d))∧(s.2.1.length:Int)≤25*i+25∧(∀x∈s.2.1,x.length≤300∧gL gB x)∧s.2.2.1.length=s.2.1.length∧∀x∈s.2.2.1,mD x) (by simp; omega) ⟨by simp,by simp,by simp,by simp,by simp only; omega,s6,s7,s8⟩ (λs hs=> ?_) (λs hs=> ?_)
  ·obtain⟨q,ds,ids,j⟩:=s
   simp only at hs
   obtain⟨r1,r2,r3,r4,r5,r6,r7,r8⟩:=hs
   unfold CU
   refine .ite (λhc2=> ?_) λhc2=>.brk ⟨⟨by simp only; omega,r4⟩,by simp only; omega,r6,r7,r8⟩
   have hc2:=of_decide_eq_true hc2
   simp only at hc2
   rw[wr (n:=j+1) (by omega) (by omega)]
   refine .ix (by omega) (by omega) λz _ hz=>.bind _ (aBG hF (y2 z hz).1) λd hd=>.app (by simp; omega) (.bind _ (aGR hF (by simp only; omega) r8 hd) λr hr=> ?_)
   obtain⟨q1,q2,q3,q4⟩:=hr
   simp only at q2 q3
   have hq:∀a∈q++ [d],mD a:=λa ha=>by
    rcases List.mem_append.1 ha with h | h
    ·exact r4 a h
    ·rw[List.mem_singleton] at h; exact h ▸ hd
   refine .after (.ite (λhi=> ?_) λhi=>.brk (.go ?_))
   ·rw[if_pos hi] at q3
    refine .slc (by simp only; omega) (.ix (by omega) (by omega) λz2 _ hz2=>.app (by simp; omega) (.app (by simp; omega) (.slc (by simp only; omega) (.app (by simp; omega) (.brk (.go ?_))))))
    refine⟨⟨by simp only; omega,by simp only; omega,by simp; omega,hq,by simp; omega,λa ha=> ?_,by simp; omega,q4⟩,by simp only; omega⟩
    simp only[List.mem_append,List.mem_singleton] at ha
    rcases ha with ((h | h) | h) | h
    ·simp at h
    ·exact r6 a (List.mem_of_mem_take (List.mem_of_mem_drop h))
    ·exact h ▸ y2 z2 hz2
    ·exact r6 a (List.mem_of_mem_take (List.mem_of_mem_drop h))
   ·rw[if_neg hi] at q3
    exact⟨⟨by simp only; omega,by simp only; omega,by simp; omega,hq,by simp only; omega,r6,by simp only; omega,q4⟩,by simp only; omega⟩
  ·obtain⟨q,ds2,ids2,j⟩:=s
   simp only at hs
   obtain⟨⟨a1,a2⟩,a3,a4,a5,a6⟩:=hs
   refine .app (by simp; omega) (.go ?_)
   refine⟨⟨by simp only; omega,by simp only; omega,by simp; omega,λp hp=> ?_,by simp only; omega,a4,a5,a6⟩,by simp only; omega⟩
   rcases List.mem_append.1 hp with h | h
   ·exact s4 p h
   ·rw[List.mem_singleton] at h
    subst h
    have:=(ho x2 hx2).2
    exact⟨⟨(ho x hx).1.1,by simp only; omega⟩,trivial,by simp only[gI]; omega,a2⟩
 ·obtain⟨ps,ds,ids,i⟩:=s
  exact .some ⟨⟨hn,by have:=hs.1.1; simp only at this ⊢; omega,λp hp=>(hs.1.2 p hp).1,trivial,λp hp=>(hs.1.2 p hp).2⟩,hs.2⟩
theorem aBI (n:Int):∃b,LM [IntKind.wrap .u8 n]=some b∧b.size=1:=by
 have h:=aBF n
 refine⟨_,by unfold LM; rw[if_pos (by simp; omega)], ?_⟩
 rfl
structure Ok (c:aB):Prop where
 sm:Sm c
 rg:Rng c
theorem yJ (n:Int):gI (IntKind.wrap .i64 n):=wrI n
theorem HD {k s:Int} {v:Int} (hs:gI s) (hv:gI v) {l:List bE} (h6:l.length≤64) (hl:∀x∈l,gI x.Seq∧gI x.Of∧gI x.Off∧gI x.Len):
    J8 { Kind:=k,Snap:= { Seq:=0,Man:= { Name:=ByteArray.empty,Parts:= []},Locs:= []},Chunks:= [],Seq:=s,Vol:=v,Items:=l}:=
  ⟨by simp[gI],UO,rfl,by simp,by simp,hs,hv,h6,hl⟩
structure R9 (c:aB) (n:Int) (x:bE):Prop where
 id:mD x.Id
 q:0≤x.Seq∧x.Seq≤1073741824
 of:gI x.Of
 off:gI x.Off
 len:gI x.Len
 w:(x.Kind=1∧x.Seq=0∧∃j:Nat,(j:Int) < n∧∃y,c.Chunks[j]? =some y∧y.Id=x.Id)∨(x.Kind=2∧x.Id=jX∧∃j:Nat,(c.Chunks.length:Int)+j < n∧∃y,c.Snaps[j]? =some y∧y.Seq=x.Seq)∨
  (x.Kind=3∧x.Id=jX∧∃j:Nat,(c.Chunks.length:Int)+c.Snaps.length+j < n∧∃y,c.Exps[j]? =some y∧y.Seq=x.Seq∧y.Of=x.Of)
def Nd (q:List bE):Prop:=q.Pairwise λa b=>a.Kind=b.Kind→a.Id=b.Id→a.Seq≠b.Seq
structure J9 (c:aB) (n:Int) (q:List bE):Prop where
 a:∀x∈q,R9 c n x
 d:Nd q
theorem R9.mono {c:aB} {n m:Int} {x:bE} (h:R9 c n x) (hm:n≤m):R9 c m x:=⟨h.id,h.q,h.of,h.off,h.len,by
 rcases h.w with⟨a,b,j,k,e⟩ | ⟨a,b,j,k,e⟩ | ⟨a,b,j,k,e⟩
 ·exact .inl ⟨a,b,j,by omega,e⟩
 ·exact .inr (.inl ⟨a,b,j,by omega,e⟩)
 ·exact .inr (.inr ⟨a,b,j,by omega,e⟩)⟩
theorem QU {α:Type} {R:α→α→Prop} {l:List α} (h:l.Pairwise R) {i j:Nat} {x y:α} (hx:l[i]? =some x) (hy:l[j]? =some y) (hij:i < j):R x y:=by
 obtain⟨h1,rfl⟩:=List.getElem?_eq_some_iff.1 hx
 obtain⟨h2,rfl⟩:=List.getElem?_eq_some_iff.1 hy
 exact List.pairwise_iff_getElem.1 h i j h1 h2 hij
theorem NV:mD jX:=by
 intro x hx
 have:x=0:=List.eq_of_mem_replicate (n:=32) hx
 subst this
 exact⟨by omega,by omega⟩
theorem J9.put {c:aB} {n:Int} {q:List bE} {y:bE} (hG:Gd c) (h:J9 c n q) (hy:R9 c (n+1) y) (hn:¬R9 c n y):J9 c (n+1) (q++ [y]):=by
 refine⟨λx hx=> ?_,List.pairwise_append.2 ⟨h.d,List.pairwise_singleton _ _,λx hx z hz e1 e2 e3=> ?_⟩⟩
 ·rcases List.mem_append.1 hx with h1 | h1
  ·exact(h.a x h1).mono (by omega)
  ·rw[List.mem_singleton.1 h1]; exact hy
 ·rw[List.mem_singleton.1 hz] at e1 e2 e3
  refine hn ⟨hy.id,hy.q,hy.of,hy.off,hy.len, ?_⟩
  rcases(h.a x hx).w with⟨a,b,j,k,u,u1,u2⟩ | ⟨a,b,j,k,u,u1,u2⟩ | ⟨a,b,j,k,u,u1,u2,u3⟩
  ·exact .inl ⟨by omega,by omega,j,k,u,u1,by rw[u2,e2]⟩
  ·exact .inr (.inl ⟨by omega,by rw[← e2,b],j,k,u,u1,by omega⟩)
  ·rcases hy.w with⟨a',_⟩ | ⟨a',_⟩ | ⟨a',b',j',k',v,v1,v2,v3⟩
   ·omega
   ·omega
   ·rcases Nat.lt_trichotomy j j' with w | w | w
    ·have:=QU hG.eo u1 v1 w; omega
    ·subst w
     exact .inr (.inr ⟨a',b',j,k,v,v1,v2,v3⟩)
    ·have:=QU hG.eo v1 u1 w; omega
structure Mk (c:aB) (d:aP):Prop where
 k:0≤d.Kind∧d.Kind≤5
 v:0≤d.Vol∧d.Vol < c.Vols.length
 e:d.Kind≠3→d.Items= []
 it:J9 c 1000 d.Items∨∃s∈c.Snaps,d.Items= [{ Kind:=3,Id:=jX,Seq:=c.Seq,Of:=s.Seq,Off:=13,Len:=17}]
theorem HE (c:aB) (n:Int):J9 c n []:=⟨by simp,.nil⟩
theorem UP {c:aB} {k s v:Int} {p:aG} {l:List bE} {m:List aA} (hk:0≤k∧k≤5) (hv:0≤v∧v < c.Vols.length) (he:k≠3→l= []) (h:J9 c 1000 l):Mk c { Kind:=k,Snap:=p,Chunks:=m,Seq:=s,Vol:=v,Items:=l}:=⟨hk,hv,he,.inl h⟩
theorem t66 {F:Nat} {c:aB} {a:lP} (hF:1000≤F) (hc:Ok c) (hG:Gd c) (ho:∀f∈a.Tree,fOk f):T (V3 F c a) λr=>J8 r.1∧Mk c r.1:=by
  have g0:gI 0:=by simp[gI]
  have c1:=hc.rg.ch
  have c2:=hc.rg.sn
  have c3:=hc.rg.ex
  have c4:=hc.rg.vo
  have gq:=hc.sm.g.1
  unfold V3
  obtain⟨b,hb,hb1⟩:=aBI (IntKind.wrap .u64 (97+((IntKind.wrap .u64 a.N).tmod 5)))
  rw[hb]
  have e1:(ByteArray.mk #[110]).size=1:=rfl
  have e2:((ByteArray.mk #[110])++b).size=2:=by rw[ByteArray.size_append,e1,hb1]
  have hvn:=hG.vn
  simp only[gW,Bool.and_eq_true,decide_eq_true_eq] at hvn
  have v0:(0:Int)≤0∧(0:Int) < c.Vols.length:=by omega
  have hq:=hG.q
  simp only[gW,Bool.and_eq_true,decide_eq_true_eq] at hq
  refine .bindEq rfl (.grd (by rw[e1,hb1]; rfl) ?_)
  refine .after (T.mono (P:=L3 (λ_=>False) (λv=>gI v∧0≤v∧v < c.Vols.length) (λ_=>False)) (.ite (λh=> ?_) λ_=>.brk ⟨g0,v0⟩) λj hj=> ?_)
  · have h:=of_decide_eq_true h
    obtain⟨w,hw1,hw⟩:=aAY a.Vol (n:=c.Vols.length) (by omega) (by omega)
    rw[← wru (n:=c.Vols.length) (by omega)] at hw
    refine .grd ?_ (.brk ⟨yJ _,by rw[hw]; omega⟩)
    rw[wru (by omega)]
    simp
    intro h2
    rw[h2] at h
    simp at h
  cases j with
  | go s=>exact hj
  | ret s=>exact hj.elim
  | brk v=>
  replace hj:gI v∧0≤v∧v < c.Vols.length:=hj
  refine T.after (T.mono (P:=L3 (λ_=>False) (λ_=>True) (λ_=>False)) (.ite (λ_=>.brk trivial) λ_=>.brk trivial) λj hj2=> ?_)
  cases j with
  | go s=>exact hj2
  | ret s=>exact hj2.elim
  | brk v2=>
  refine T.ite (λ_=> ?_) λ_=> ?_
  · refine .bind _ (aGN hF ho) λy hy=>.ite (λ_=>.some ⟨HD g0 g0 (by simp) (by simp),UP (by decide) v0 (λ_=>rfl) (HE _ _)⟩) λh0=> ?_
    obtain⟨y1,y2⟩:=hy (by simpa using h0)
    refine .bind _ (aGS hF (by omega) y1 y2) λm hm=> ?_
    obtain⟨m1,m2,m3⟩:=hm
    refine .loop (λs=>0≤s.2∧s.2≤m.2.1.length∧(s.1.length:Int)≤s.2∧∀x∈s.1,mD x.Id∧x.Data.length≤300∧gL gB x.Data∧x.Locs= []) (λs=>(m.2.1.length - s.2).toNat) (λs=>s.1.length≤160∧∀x∈s.1,mD x.Id∧x.Data.length≤300∧gL gB x.Data∧x.Locs= []) (by simp; omega) (by simp) (λs hs=> ?_) (λs hs=> ?_)
    · obtain⟨q,i⟩:=s
      simp only at hs
      unfold CW
      refine .ite (λh=> ?_) λ_=>.brk ⟨by simp only; omega,hs.2.2.2⟩
      have h:=of_decide_eq_true h
      simp only at h
      rw[wr (n:=i+1) (by omega) (by omega)]
      obtain⟨n,hn,_⟩:=m64 (F:=F) (c:=c) (d:=jX) hF (by omega)
      refine .ix (by omega) (by omega) λx _ hx=>.bind _ (aBG hF (m3 x hx).1) λd hd=> ?_
      obtain⟨n,hn,_⟩:=m64 (F:=F) (c:=c) (d:=d) hF (by omega)
      refine .bindEq hn (.after (.ite (λ_=>.ix (by omega) (by omega) λx2 _ hx2=>.app (by simp; omega) (.brk (.go ?_))) λ_=>.brk (.go ⟨⟨by simp only; omega,by simp only; omega,by simp only; omega,hs.2.2.2⟩,by simp only; omega⟩)))
      refine⟨⟨by simp only; omega,by simp only; omega,by simp; omega,λy hy=> ?_⟩,by simp only; omega⟩
      rcases List.mem_append.1 hy with h | h
      · exact hs.2.2.2 y h
      · rw[List.mem_singleton] at h
        subst h
        exact⟨hd,(m3 x2 hx2).1,(m3 x2 hx2).2,rfl⟩
    · obtain⟨q,i⟩:=s
      exact .some ⟨⟨gq,m1,rfl,hs.1,hs.2,g0,g0,by simp,by simp⟩,UP (by decide) v0 (λ_=>rfl) (HE _ _)⟩
  · refine T.after (T.mono (P:=L3 (λ_=>False) (λ_=>True) (λ_=>False)) (.ite (λ_=>.brk trivial) λ_=>.brk trivial) λj hj2=> ?_)
    cases j with
    | go s=>exact hj2
    | ret s=>exact hj2.elim
    | brk v3=>
    refine T.ite (λ_=> ?_) λ_=> ?_
    · refine .ite (λ_=>.some ⟨HD g0 g0 (by simp) (by simp),UP (by decide) v0 (λ_=>rfl) (HE _ _)⟩) λh0=> ?_
      have h0:0 < c.Snaps.length:=by
        have:¬((c.Snaps.length:Int)=0):=by simpa using h0
        omega
      obtain⟨k,hk,ek⟩:=aAY a.N h0 (by omega)
      rw[wru (by omega),ek]
      refine .grd (by simp; intro h; rw[h] at h0; simp at h0) (.ix (by omega) (by omega) λx _ hx=> ?_)
      have gx:=hc.sm.g.2.1 x hx
      refine .ite (λ_=>.some ⟨HD gx.1 g0 (by simp) (by simp),UP (by decide) v0 (λ_=>rfl) (HE _ _)⟩) λ_=>.some ⟨HD g0 hj.1 (by simp) λy hy=> ?_,(show (0:Int)≤3∧(3:Int)≤5 by decide),hj.2,λh=>absurd rfl h,.inr ⟨x,hx,rfl⟩⟩
      rw[List.mem_singleton] at hy
      subst hy
      exact⟨gq,gx.1,by simp[gI],by simp[gI]⟩
    · refine T.after (T.mono (P:=L3 (λ_=>False) (λ_=>True) (λ_=>False)) (.ite (λ_=>.brk trivial) λ_=>.brk trivial) λj hj2=> ?_)
      cases j with
      | go s=>exact hj2
      | ret s=>exact hj2.elim
      | brk v4=>
      refine T.ite (λ_=> ?_) λ_=>.ite (λ_=>.some ⟨HD g0 hj.1 (by simp) (by simp),UP (by decide) hj.2 (λ_=>rfl) (HE _ _)⟩) λ_=>.some ⟨HD g0 hj.1 (by simp) (by simp),UP (by decide) hj.2 (λ_=>rfl) (HE _ _)⟩
      have w1:IntKind.wrap .i64 ((c.Chunks.length:Int)+(c.Snaps.length:Int))=(c.Chunks.length:Int)+(c.Snaps.length:Int):=wr (by omega) (by omega)
      have w2:IntKind.wrap .i64 ((c.Chunks.length:Int)+(c.Snaps.length:Int)+(c.Exps.length:Int))=(c.Chunks.length:Int)+(c.Snaps.length:Int)+(c.Exps.length:Int):=wr (by omega) (by omega)
      refine .loop (λs=>0≤s.2.2∧s.2.2≤420∧s.1.length≤64∧J9 c s.2.2 s.1∧gI s.2.1) (λs=>(420 - s.2.2).toNat) (λs=>s.1.length≤64∧J9 c 1000 s.1) (by simp; omega) ⟨by simp,by simp,by simp,HE _ _,by simp[gI]⟩ (λs hs=> ?_) (λs hs=> ?_)
      · obtain⟨q,o,i⟩:=s
        simp only at hs
        obtain⟨s1,s2,s3,s4,s5⟩:=hs
        unfold CX
        simp only[w1,w2]
        have fin:J9 c 1000 q:=⟨λx hx=>(s4.a x hx).mono (by omega),s4.d⟩
        have s4':J9 c (i+1) q:=⟨λx hx=>(s4.a x hx).mono (by omega),s4.d⟩
        refine .after (.ite (λh=>.brk (T.ite (λh2=> ?_) λ_=>.brk ⟨s3,fin⟩)) λ_=>.brk (T.ite (λh=>by cases h) λ_=>.brk ⟨s3,fin⟩))
        have h:=of_decide_eq_true h
        have h2:=of_decide_eq_true h2
        rw[wr (n:=i+1) (by omega) (by omega)]
        have put:∀y:bE,R9 c (i+1) y→¬R9 c i y→T ((app q ([y]:List bE)).bind λz1648=>some (.brk (z1648,IntKind.wrap .i64 (o+20))):Option (Lp (List bE×Int) (Lp (List bE×Int×Int) (aP×Bool))))
            (L3 (λ_=>False) (λs=>s.1.length≤64∧J9 c (i+1) s.1∧gI s.2) (λ_=>False)):=λy hy hy2=>.app (by simp; omega) (.brk ⟨by simp; omega,s4.put hG hy hy2,yJ _⟩)
        have g20:gI 20:=by simp[gI]
        refine .after (T.mono (P:=L3 (λ_=>False) (λs=>s.1.length≤64∧J9 c (i+1) s.1∧gI s.2) (λ_=>False)) (.after ?_) λj hj3=> ?_)
        · have mid:T (after (if (decide (i < (c.Chunks.length:Int)))=true then ((ix c.Chunks i).bind λx1596=>some (.brk { { ({ Kind:=0,Id:=jX,Seq:=0,Of:=0,Off:=o,Len:=20}:bE) with Kind:=1} with Id:=x1596.Id})) else after (if (decide (i < (c.Chunks.length:Int)+(c.Snaps.length:Int)))=true then ((ix c.Snaps (IntKind.wrap .i64 (i - (c.Chunks.length:Int)))).bind λx1629=>some (.brk { { ({ Kind:=0,Id:=jX,Seq:=0,Of:=0,Off:=o,Len:=20}:bE) with Kind:=2} with Seq:=x1629.Seq})) else (ix c.Exps (IntKind.wrap .i64 ((IntKind.wrap .i64 (i - (c.Chunks.length:Int))) - (c.Snaps.length:Int)))).bind λx1634=>some (.brk { { { ({ Kind:=0,Id:=jX,Seq:=0,Of:=0,Off:=o,Len:=20}:bE) with Kind:=3} with Seq:=x1634.Seq} with Of:=x1634.Of}):Option (Lp (bE) (Lp (bE) (Lp ((List bE)×Int) (Lp ((List bE)×Int×Int) (aP×Bool)))))) λj1623=>some (.brk j1623):Option (Lp (bE) (Lp ((List bE)×Int) (Lp ((List bE)×Int×Int) (aP×Bool))))) λj1590=>(app q ([j1590]:List bE)).bind λz1648=>some (.brk (z1648,IntKind.wrap .i64 (o+20))):Option (Lp ((List bE)×Int) (Lp ((List bE)×Int×Int) (aP×Bool))))
              (L3 (λ_=>False) (λs=>s.1.length≤64∧J9 c (i+1) s.1∧gI s.2) (λ_=>False)):=by
            refine .after (.ite (λh3=> ?_) λh3=>.after (.ite (λh4=> ?_) λh4=> ?_))
            · have h3:=of_decide_eq_true h3
              refine .ix (by omega) (by omega) λx ex hx=>.brk (put _ ⟨(hc.sm.g.2.2.1 x hx).1,by simp,g0,s5,g20,.inl ⟨rfl,rfl,i.toNat,by omega,x,ex,rfl⟩⟩ λh=> ?_)
              rcases h.w with⟨_,_,j,k,u,u1,u2⟩ | ⟨a,_⟩ | ⟨a,_⟩
              · have:=QU hG.co u1 ex (by omega)
                rw[u2] at this
                simp only at this; omega
              · exact absurd (show (1:Int)=2 from a) (by decide)
              · exact absurd (show (1:Int)=3 from a) (by decide)
            · have h4:=of_decide_eq_true h4
              have h3:¬(i < (c.Chunks.length:Int)):=by simpa using h3
              rw[wr (n:=i - (c.Chunks.length:Int)) (by omega) (by omega)]
              refine .ix (by omega) (by omega) λx ex hx=>.brk (.brk (put _ ⟨NV,by have:=hc.rg.s x hx; simp only; omega,g0,s5,g20,.inr (.inl ⟨rfl,rfl,(i - (c.Chunks.length:Int)).toNat,by omega,x,ex,rfl⟩)⟩ λh=> ?_))
              rcases h.w with⟨a,_⟩ | ⟨_,_,j,k,u,u1,u2⟩ | ⟨a,_⟩
              · exact absurd (show (2:Int)=1 from a) (by decide)
              · have:=QU hG.so u1 ex (by omega)
                simp only at u2; omega
              · exact absurd (show (2:Int)=3 from a) (by decide)
            · have h4:¬(i < (c.Chunks.length:Int)+(c.Snaps.length:Int)):=by simpa using h4
              rw[wr (n:=i - (c.Chunks.length:Int)) (by omega) (by omega),wr (n:=i - (c.Chunks.length:Int) - (c.Snaps.length:Int)) (by omega) (by omega)]
              refine .ix (by omega) (by omega) λx ex hx=>.brk (.brk (put _ ⟨NV,by have:=hc.rg.e x hx; simp only; omega,(hc.sm.g.2.2.2.1 x hx).2.1,s5,g20,.inr (.inr ⟨rfl,rfl,(i - (c.Chunks.length:Int) - (c.Snaps.length:Int)).toNat,by omega,x,ex,rfl,rfl⟩)⟩ λh=> ?_))
              rcases h.w with⟨a,_⟩ | ⟨a,_⟩ | ⟨_,_,j,k,u,u1,u2,u3⟩
              · exact absurd (show (3:Int)=1 from a) (by decide)
              · exact absurd (show (3:Int)=2 from a) (by decide)
              · have:=QU hG.eo u1 ex (by omega)
                simp only at u2; omega
          refine .ite (λh3=> ?_) λ_=>.brk (T.ite (λh=>by cases h) λ_=>mid)
          have h3:=of_decide_eq_true h3
          exact .ix (by omega) (by omega) λx _ _=>.brk (T.ite (λ_=>.brk ⟨s3,s4',s5⟩) λ_=>mid)
        · cases j with
          | go s=>exact hj3
          | ret s=>exact hj3.elim
          | brk s=>
            obtain⟨q2,o2⟩:=s
            exact .go ⟨⟨by simp only; omega,by simp only; omega,hj3.1,hj3.2.1,hj3.2.2⟩,by simp only; omega⟩
      · obtain⟨q,o,i⟩:=s
        exact .some ⟨HD g0 hj.1 hs.1 λx hx=>⟨by have:=(hs.2.a x hx).q; exact⟨by omega,by omega⟩,(hs.2.a x hx).of,(hs.2.a x hx).off,(hs.2.a x hx).len⟩,UP (by decide) hj.2 (λh=>absurd rfl h) hs.2⟩
open Go.Vm
def KA (l:List aA) (d:bL):List aA:=l.filter λx=>decide (ky x.Id < ky d)
def EX (l:List aA) (d:bL):List aA:=l.filter λx=>decide (ky d < ky x.Id)
def tD (l:List aA) (n:aA):List aA:=KA l n.Id++ { (match l.find? λx=>decide (x.Id=n.Id) with | some x=>x | none=> { Id:=n.Id,Staged:=false,Data:= [],Locs:= []}) with Staged:=true,Data:=n.Data}::EX l n.Id
theorem NW {l:List aA} {d:bL} {p:Nat} (ha:At l d p):l.take p=KA l d:=by
 unfold KA
 have e:l.filter (λx=>decide (ky x.Id < ky d))=(l.take p++l.drop p).filter λx=>decide (ky x.Id < ky d):=by rw[List.take_append_drop]
 rw[e,List.filter_append,List.filter_eq_self.2 λy hy=>decide_eq_true (ha.lo y hy),List.filter_eq_nil_iff.2 λy hy=>by
  have:=ha.hi y hy
  simp; omega]
 simp
theorem UQ {l:List aA} {d:bL} {p:Nat} (ha:At l d p) (hr:uO l) (hd:mD d) (hn:kM l d=false):l.drop p=EX l d:=by
 unfold EX
 have e:l.filter (λx=>decide (ky d < ky x.Id))=(l.take p++l.drop p).filter λx=>decide (ky d < ky x.Id):=by rw[List.take_append_drop]
 rw[e,List.filter_append,List.filter_eq_nil_iff.2 λy hy=>by
  have:=ha.lo y hy
  simp; omega,List.filter_eq_self.2 λy hy=>by
   have hm:=List.mem_of_mem_drop hy
   have h1:=ha.hi y hy
   have h2:ky d≠ky y.Id:=λe=>by
    have:=List.any_eq_false.1 hn y hm
    simp[GM hd (hr.1 y hm) e] at this
   exact decide_eq_true (by omega)]
 simp
theorem QV {l:List aA} {d:bL} {p:Nat} {x:aA} (ha:At l d p) (hr:uO l) (hx:l[p]? =some x) (hd:x.Id=d):l.drop (p+1)=EX l d:=by
 obtain⟨hp,e0⟩:=List.getElem?_eq_some_iff.1 hx
 unfold EX
 have e:l.filter (λx=>decide (ky d < ky x.Id))=(l.take p++l[p]::l.drop (p+1)).filter λx=>decide (ky d < ky x.Id):=by
  rw[← List.drop_eq_getElem_cons hp,List.take_append_drop]
 rw[e,List.filter_append,List.filter_eq_nil_iff.2 λy hy=>by
  have:=ha.lo y hy
  simp; omega,List.filter_cons_of_neg (by rw[e0,hd]; simp),List.filter_eq_self.2 λy hy=>by
   obtain⟨j,hj,rfl⟩:=List.getElem_of_mem hy
   simp only[List.length_drop] at hj
   rw[List.getElem_drop]
   have:=hr.2 p (p+1+j) _ _ hx (List.getElem?_eq_getElem (by omega)) (by omega)
   rw[hd] at this
   exact decide_eq_true this]
 simp
theorem IP {l:List aA} {p:Nat} {x:aA} (hr:uO l) (hx:l[p]? =some x):(l.find? λy=>decide (y.Id=x.Id))=some x:=by
 cases e:l.find? λy=>decide (y.Id=x.Id) with
 | none=>
  have:=List.find?_eq_none.1 e x (List.mem_of_getElem? hx)
  simp at this
 | some y=>
  have h1:=List.find?_some e
  have h1:y.Id=x.Id:=by simpa using h1
  obtain⟨j,hj,rfl⟩:=List.getElem_of_mem (List.mem_of_find?_eq_some e)
  rcases Nat.lt_trichotomy j p with h | h | h
  ·have:=hr.2 j p _ _ (List.getElem?_eq_getElem hj) hx h
   rw[h1] at this; omega
  ·subst h
   rw[List.getElem?_eq_getElem hj] at hx
   exact hx
  ·have:=hr.2 p j _ _ hx (List.getElem?_eq_getElem hj) h
   rw[h1] at this; omega
theorem NX {l:List aA} {n:aA}:(tD l n).length≤l.length+1:=by
 have:∀m:List aA,(m.filter λx=>decide (ky x.Id < ky n.Id)).length+(m.filter λx=>decide (ky n.Id < ky x.Id)).length≤m.length:=by
  intro m
  induction m with
  | nil=>simp
  | cons a m ih=>
   by_cases h1:ky a.Id < ky n.Id
   ·have h2:¬ky n.Id < ky a.Id:=by omega
    simp[List.filter_cons,h1,h2]; omega
   ·by_cases h2:ky n.Id < ky a.Id <;> simp[List.filter_cons,h1,h2] <;> omega
 unfold tD KA EX
 have:=this l
 simp only[List.length_append,List.length_cons]
 omega
theorem NY {F:Nat} {d:aP} {l:List aA} {n:aA} {i:Nat} (hF:1000≤F) (hr:uO l) (hn:mD n.Id) (hl:l.length < 900) (hi:i < d.Chunks.length) (hx:d.Chunks[i]? =some n) (hd:d.Chunks.length≤400) (hdl:n.Data.length≤1000):
    qX F d l (i:Int)=some (.go (tD l n,((i+1:Nat):Int))):=by
  obtain⟨p,ha,e⟩:=UI hF hr hn (by omega)
  have hp:=ha.le
  unfold qX RJ
  rw[hH (by omega)]
  have ea:app [] n.Data=some n.Data:=by rw[dV (by simp; omega)]; rfl
  simp only[bO,hx,Int.ofNat_lt,hi,decide_true,if_true,Option.bind_some,e,ea]
  cases hh:kM l n.Id with
  | false=>
    have g0:(l.take p++({ Id:=n.Id,Staged:=false,Data:= [],Locs:= []}:aA)::l.drop p)[p]? =some { Id:=n.Id,Staged:=false,Data:= [],Locs:= []}:=by
      rw[List.getElem?_append_right (by simp; omega)]
      simp[Nat.min_eq_left hp]
    simp only[Bool.not_false,if_true,CE hp (show l.length < 1000 by omega),Option.bind_some,aJ,g0,Int.toNat_natCast]
    rw[List.getElem?_set_self (by simp; omega)]
    simp only[Option.bind_some,List.set_set]
    have hf:(l.find? λx=>decide (x.Id=n.Id))=none:=List.find?_eq_none.2 λx hx=>by
      have:=List.any_eq_false.1 hh x hx
      simpa using this
    unfold tD
    rw[hf,← NW ha,← UQ ha hr hn hh,List.set_append_right _ _ (by simp; omega)]
    simp[Nat.min_eq_left hp]
  | true=>
    obtain⟨x,h1,h2⟩:=G9 hr ha hn hh
    obtain⟨hpl,e0⟩:=List.getElem?_eq_some_iff.1 h1
    simp only[Bool.not_true,Bool.false_eq_true,if_false,aJ,h1,Option.bind_some,Int.toNat_natCast]
    rw[List.getElem?_set_self hpl]
    simp only[Option.bind_some,List.set_set]
    have hf:=IP hr h1
    rw[h2] at hf
    unfold tD
    rw[hf,← NW ha,← QV ha hr h1 h2]
    simp only
    rw[List.set_eq_take_append_cons_drop,if_pos hpl]
open Go.Vm
def zS (l:List aA) (d:bL):aA:=match l.find? λx=>decide (x.Id=d) with | some x=>x | none=> { Id:=d,Staged:=false,Data:= [],Locs:= []}
theorem QW (l:List aA) (d:bL):(zS l d).Id=d:=by
 unfold zS
 cases e:l.find? λx=>decide (x.Id=d) with
 | none=>rfl
 | some x=>simpa using List.find?_some e
theorem C2 (l:List aA) (n:aA):tD l n=KA l n.Id++ { zS l n.Id with Staged:=true,Data:=n.Data}::EX l n.Id:=rfl
theorem EY {l:List aA} {n:aA} (hr:uO l) (hn:mD n.Id):uO (tD l n):=by
 rw[uT] at*
 obtain⟨h1,h2⟩:=hr
 rw[C2]
 have hid:({ zS l n.Id with Staged:=true,Data:=n.Data}:aA).Id=n.Id:=QW l n.Id
 generalize ({ zS l n.Id with Staged:=true,Data:=n.Data}:aA)=z at hid
 refine⟨λy hy=> ?_,List.pairwise_append.2 ⟨h2.sublist List.filter_sublist,List.pairwise_cons.2 ⟨λy hy=> ?_,h2.sublist List.filter_sublist⟩,λa ha b hb=> ?_⟩⟩
 ·rcases List.mem_append.1 hy with h | h
  ·exact h1 y (List.mem_filter.1 h).1
  ·rcases List.mem_cons.1 h with rfl | h
   ·rw[hid]; exact hn
   ·exact h1 y (List.mem_filter.1 h).1
 ·rw[hid]
  exact of_decide_eq_true (List.mem_filter.1 hy).2
 ·have ha':=of_decide_eq_true (List.mem_filter.1 ha).2
  rcases List.mem_cons.1 hb with rfl | hb
  ·rw[hid]; exact ha'
  ·have:=of_decide_eq_true (List.mem_filter.1 hb).2
   omega
theorem EZ {l:List aA} {n y:aA} (hr:uO l) (hn:mD n.Id):y∈tD l n↔(y∈l∧y.Id≠n.Id)∨y= { zS l n.Id with Staged:=true,Data:=n.Data}:=by
 rw[C2,List.mem_append,List.mem_cons]
 unfold KA EX
 simp only[List.mem_filter,decide_eq_true_eq]
 constructor
 ·rintro(⟨h,k⟩ | h | ⟨h,k⟩)
  ·exact .inl ⟨h,λe=>by rw[e] at k; omega⟩
  ·exact .inr h
  ·exact .inl ⟨h,λe=>by rw[e] at k; omega⟩
 ·rintro(⟨h,k⟩ | h)
  ·have:ky y.Id≠ky n.Id:=λe=>k (GM (hr.1 y h) hn e)
   rcases Int.lt_or_gt_of_ne this with q | q
   ·exact .inl ⟨h,q⟩
   ·exact .inr (.inr ⟨h,q⟩)
  ·exact .inr (.inl h)
def mX (l ns:List aA):List aA:=ns.foldl tD l
theorem yK:∀ {ns l:List aA},uO l→(∀n∈ns,mD n.Id)→uO (mX l ns)
 | [],_,h,_=>h
 | n::ns,_,h,hn=>yK (ns:=ns) (EY h (hn n List.mem_cons_self)) λm hm=>hn m (List.mem_cons_of_mem _ hm)
theorem qZ:∀ {ns l:List aA},(mX l ns).length≤l.length+ns.length
 | [],_=>by simp[mX]
 | n::ns,l=>by
  have h1:=qZ (ns:=ns) (l:=tD l n)
  have h2:=NX (l:=l) (n:=n)
  have:mX l (n::ns)=mX (tD l n) ns:=rfl
  rw[this,List.length_cons]
  omega
def pQ (l:List aA):Bool:= !l.any λx=> !x.Staged || decide (0 < (x.Locs.length:Int))
theorem aGT {F:Nat} {l:List aA} (hF:1000≤F) (hl:l.length≤400):J3 F l=some (pQ l):=by
 unfold J3 NC pQ
 rw[m98 (f:=λx0=>NB F x0) (λx=> !x.Staged || decide (0 < (x.Locs.length:Int))) (by omega) (by omega) (λx _=>by
  unfold NB
  cases x.Staged <;> rfl)]
 simp only[Option.bind_some]
 cases ha:l.any (λx=> !x.Staged || decide (0 < (x.Locs.length:Int))) with
 | false=>rw[gZ ha]; rfl
 | true=>
  obtain⟨i,x,h1, -⟩:=iQ ha
  rw[h1]
  simp
def ad (c:aB) (d:aP):aB:= { c with Seq:=c.Seq+1,Snaps:=c.Snaps++ [{ Seq:=d.Snap.Seq,Man:=d.Snap.Man,Locs:= []}],Chunks:=mX c.Chunks d.Chunks}
theorem n72 {F:Nat} {c:aB} {d:aP} (hF:1000≤F) (h:Sm c) (hg:Gd c) (hd:J8 d):
    VZ F c d=some (if d.Snap.Seq=c.Seq∧pQ d.Chunks=true then (if c.Snaps.any (λs=>s.Man.Name.toList==d.Snap.Man.Name.toList) then (9,c.Seq,c.Snaps,c.Chunks) else (0,(ad c d).Seq,(ad c d).Snaps,(ad c d).Chunks)) else (1,c.Seq,c.Snaps,c.Chunks)):=by
  have hsn:=h.sn
  have hcn:=hg.cn
  have hdn:=hd.cn
  have hq:=hg.q
  unfold gW at hq
  simp only[Bool.and_eq_true,decide_eq_true_eq] at hq
  have hr:uO c.Chunks:=uT.2 ⟨λx hx=>(h.g.2.2.1 x hx).1,hg.co⟩
  unfold VZ
  rw[hd.locs,aGT hF (by omega)]
  by_cases e1:d.Snap.Seq=c.Seq
  · rw[if_neg (by simp[e1])]
    simp only[List.length_nil,show decide ((0:Int) < ((0:Nat):Int))=false from rfl,Bool.false_eq_true,if_false,Option.bind_some,aJ]
    cases e2:pQ d.Chunks with
    | false=>simp[e1]
    | true=>
      simp only[Bool.not_true,Bool.false_eq_true,if_false,e1,and_self,if_true]
      rw[m47 hF (by show c.Snaps.length < 1000; omega)]
      simp only[Option.bind_some]
      cases ha:c.Snaps.any (λs=>s.Man.Name.toList==d.Snap.Man.Name.toList) with
      | true=>
        obtain⟨i,x,h1, -⟩:=iQ ha
        rw[h1]
        simp
      | false=>
        rw[gZ ha]
        simp only[show decide ((0:Int)≤ -1)=false from rfl,Bool.false_eq_true,if_false]
        rw[AT hF hd.man.2.1 (λp hp=>(hd.man.2.2.1 p hp).2)]
        simp only[Option.bind_some]
        rw[dV (by simp; omega)]
        simp only[Option.bind_some]
        have:=jS (body:=λs:List aA×Int=>qX F d s.1 s.2) (s0:=(c.Chunks,(0:Int))) (n:=d.Chunks.length) (F:=F) (λi:Nat=>(mX c.Chunks (d.Chunks.take i),(i:Int))) (by omega) rfl (λi hi=>by
          have hx:d.Chunks[i]? =some d.Chunks[i]:=List.getElem?_eq_getElem hi
          have hm:=List.getElem_mem hi
          have ht:d.Chunks.take (i+1)=d.Chunks.take i++ [d.Chunks[i]]:=List.take_succ_eq_append_getElem hi
          have hR:=yK (ns:=d.Chunks.take i) hr λn hn=>(hd.ch n (List.mem_of_mem_take hn)).1
          have hL:=qZ (ns:=d.Chunks.take i) (l:=c.Chunks)
          rw[List.length_take] at hL
          rw[ht]
          generalize d.Chunks[i]=n at hx hm
          rw[NY hF hR (hd.ch n hm).1 (by omega) hi hx (by omega) (by have:=(hd.ch n hm).2.1; omega)]
          unfold mX
          rw[List.foldl_append]
          rfl) (by unfold qX; simp)
        rw[this]
        simp only[aJ,List.take_length,wr (n:=c.Seq+1) (by omega) (by omega)]
        rw[show (ad c d).Snaps=c.Snaps++ [{ Seq:=d.Snap.Seq,Man:=d.Snap.Man,Locs:= []}] from rfl,e1]
        rfl
  · rw[if_pos (by simpa using e1)]
    simp[aJ,e1]
open Go.Vm
theorem rA {P:aA→Prop}:∀ {ns l:List aA},(∀x∈l,P x)→(∀n∈ns,P { Id:=n.Id,Staged:=true,Data:=n.Data,Locs:= []})→(∀x,P x→∀n∈ns,P { x with Staged:=true,Data:=n.Data})→∀y∈mX l ns,P y
  | [],_,h,_,_=>h
  | n :: ns, l, h, hn, hs => rA (ns := ns) (l := tD l n) (fun y hy => by
      rw[C2,List.mem_append,List.mem_cons] at hy
      rcases hy with h1 | h1 | h1
      · exact h y (List.mem_filter.1 h1).1
      · rw[h1]
        unfold zS
        cases e:l.find? λx=>decide (x.Id=n.Id) with
        | none=>exact hn n List.mem_cons_self
        | some x=>exact hs x (h x (List.mem_of_find?_eq_some e)) n List.mem_cons_self
      · exact h y (List.mem_filter.1 h1).1) (λm hm=>hn m (List.mem_cons_of_mem _ hm)) λx hx m hm=>hs x hx m (List.mem_cons_of_mem _ hm)
theorem SA {c:aB} {d:aP} (h:Sm c) (hg:Gd c) (hd:J8 d):Sm (ad c d):=by
 have hq:=hg.q
 have hsn:=hg.sn
 have hcn:=hg.cn
 have hdn:=hd.cn
 unfold gW at hq
 simp only[Bool.and_eq_true,decide_eq_true_eq] at hq
 obtain⟨m1,m2,m3,m4⟩:=hd.man
 have L:=qZ (ns:=d.Chunks) (l:=c.Chunks)
 refine⟨⟨⟨by show _≤c.Seq+1; omega,by show c.Seq+1 < _; omega⟩, ?_, ?_,h.g.2.2.2.1,h.g.2.2.2.2⟩, ?_, ?_,h.ex,h.vo, ?_, ?_,h.el, ?_⟩
 ·intro s hs
  rcases List.mem_append.1 hs with h1 | h1
  ·exact h.g.2.1 s h1
  ·obtain rfl:=List.mem_singleton.1 h1
   exact⟨hd.seq,m4,λx hx=>by cases hx⟩
 ·exact rA (P:=H9) h.g.2.2.1 (λn hn=>⟨(hd.ch n hn).1,trivial,(hd.ch n hn).2.2.1,λx hx=>by cases hx⟩) λx hx n hn=>⟨hx.1,trivial,(hd.ch n hn).2.2.1,hx.2.2.2⟩
 ·show (c.Snaps++_).length≤12
  simp; omega
 ·show (mX c.Chunks d.Chunks).length≤400
  omega
 ·intro s hs
  rcases List.mem_append.1 hs with h1 | h1
  ·exact h.sl s h1
  ·obtain rfl:=List.mem_singleton.1 h1
   simp
 ·exact rA (P:=λx=>x.Locs.length≤300∧x.Data.length≤300) h.cl (λn hn=>⟨by simp,(hd.ch n hn).2.1⟩) λx hx n hn=>⟨hx.1,(hd.ch n hn).2.1⟩
 ·intro s hs
  rcases List.mem_append.1 hs with h1 | h1
  ·exact h.man s h1
  ·obtain rfl:=List.mem_singleton.1 h1
   exact⟨m1,m2,m3⟩
theorem tE (c:aB) (y:aA):(KI c y).Locs=y.Locs∧(KI c y).Id=y.Id∧((KI c y).Data=y.Data∨(KI c y).Data= []):=by
 unfold KI
 split
 ·exact⟨rfl,rfl,.inl rfl⟩
 ·exact⟨rfl,rfl,.inr rfl⟩
theorem IQ {c:aB} (h:Sm c):Sm { c with Chunks:=J4 c}:=by
 obtain⟨g0,g1,g2,g3,g4⟩:=h.g
 refine { h with g:=⟨g0,g1, ?_,g3,g4⟩,ch:= ?_,cl:= ?_}
 ·intro y hy
  obtain⟨x,hx,rfl⟩:=List.mem_map.1 hy
  obtain⟨e1,e2,e3⟩:=tE c x
  have:=g2 x (List.mem_filter.1 hx).1
  refine⟨by rw[e2]; exact this.1,trivial, ?_,by rw[e1]; exact this.2.2.2⟩
  rcases e3 with e | e <;> rw[e]
  ·exact this.2.2.1
  ·intro z hz; cases hz
 ·show (List.map _ _).length≤400
  rw[List.length_map]
  exact Nat.le_trans (List.length_filter_le _ _) h.ch
 ·intro y hy
  obtain⟨x,hx,rfl⟩:=List.mem_map.1 hy
  obtain⟨e1,e2,e3⟩:=tE c x
  have:=h.cl x (List.mem_filter.1 hx).1
  refine⟨by rw[e1]; exact this.1, ?_⟩
  rcases e3 with e | e <;> rw[e]
  ·exact this.2
  ·simp
theorem NZ {c:aB} {n:Int} (h:Sm c):Sm (R5 c n):=IQ (tA h _)
theorem UR {F:Nat} {c:aB} {d:aP} (hF:1000≤F) (h:Sm c) (hg:Gd c) (hd:J8 d) (hk:d.Kind=1):
    DH F c d=some (if d.Snap.Seq=c.Seq∧pQ d.Chunks=true then (if c.Snaps.any (λs=>s.Man.Name.toList==d.Snap.Man.Name.toList) then (dJ,9) else if iX (ad c d) then (ad c d,0) else (dJ,1)) else (dJ,1)):=by
  have hk2:jV.find? (λe=>e.1==d.Kind)=some (d.Kind,72):=by rw[hk]; rfl
  have go:∀(e:aB) (n:Int),gO F 72 c d=some (e,n)→(n=0→Sm e)→_:=λe n=>n29 (n:=n) hF h (lJ.2 hg) hk2
  have e0:gO F 72 c d=(VZ F c d).bind λo=>some ({ c with Seq:=o.2.1,Snaps:=o.2.2.1,Chunks:=o.2.2.2},o.1):=by
    unfold gO
    rw[if_pos rfl]
  rw[n72 hF h hg hd] at e0
  by_cases e1:d.Snap.Seq=c.Seq∧pQ d.Chunks=true
  · rw[if_pos e1] at e0 ⊢
    cases ha:c.Snaps.any (λs=>s.Man.Name.toList==d.Snap.Man.Name.toList) with
    | true=>
      rw[ha,if_pos rfl] at e0
      rw[go _ _ e0 nofun]
      rfl
    | false=>
      rw[ha,if_neg (by decide)] at e0
      rw[go (ad c d) 0 e0 λ_=>SA h hg hd]
      rfl
  · rw[if_neg e1] at e0 ⊢
    rw[go _ _ e0 nofun]
    rfl
theorem QX {F:Nat} {c:aB} {d:aP} (hF:1000≤F) (h:Sm c) (hg:Gd c) (hk:d.Kind=2):
    DH F c d=some (if c.Snaps.any (λs=>s.Seq==d.Seq) then (if iX (R5 c d.Seq) then (R5 c d.Seq,0) else (dJ,1)) else (dJ,8)):=by
  have hk2:jV.find? (λe=>e.1==d.Kind)=some (d.Kind,73):=by rw[hk]; rfl
  have go:∀(e:aB) (n:Int),gO F 73 c d=some (e,n)→(n=0→Sm e)→_:=λe n=>n29 (n:=n) hF h (lJ.2 hg) hk2
  have e0:gO F 73 c d=(VW F c d).bind λo=>some ({ c with Snaps:=o.2.1,Chunks:=o.2.2},o.1):=by
    unfold gO
    rw[if_neg (by decide),if_pos rfl]
  rw[n73 hF h hg] at e0
  cases ha:c.Snaps.any (λs=>s.Seq==d.Seq) with
  | true=>
    rw[ha,if_pos rfl] at e0
    rw[go (R5 c d.Seq) 0 e0 λ_=>NZ h]
    rfl
  | false=>
    rw[ha,if_neg (by decide)] at e0
    rw[go _ _ e0 nofun]
    rfl
open Go.Vm
theorem aGU {F:Nat} {l:List aG} {f:aG→Option Bool} (q:aG→Bool) (hF:1000≤F) (hl:l.length≤400) (hf:∀x∈l,f x=some (q x)):ER F l f=some (l.filter λx=> !q x):=by
 have h119:u6 F l f=some (oH l q):=by
  unfold u6
  refine iP q (by omega) (λi x hx hm hi=> ?_) (by unfold mV; simp)
  unfold mV
  rw[hH (by omega)]
  simp only[bO,hx,hf x hm,Option.bind_some,Int.ofNat_lt,hi,decide_true,if_true]
  split <;> rfl
 unfold ER
 rw[h119]
 simp only[Option.bind_some]
 cases ha:l.any q with
 | false=>
  rw[gZ ha]
  simp only[beq_self_eq_true,if_true]
  rw[List.filter_eq_self.2 λx hx=>by simpa using List.any_eq_false.1 ha x hx]
 | true=>
  obtain⟨i,x,h1,h2,h3,h4⟩:=iQ ha
  rw[h1]
  have hn:((i:Int)== -1)=false:=by simp
  have hil:=(List.getElem?_eq_some_iff.1 h2).1
  rw[hn,hH (by omega)]
  simp only[Bool.false_eq_true,if_false]
  obtain⟨cur,w,e1,e2,e3,e4⟩:=sN (l:=l) (q:=q) (F:=F) (body:=λs=>nR F f s.1 s.2.1 s.2.2) (by omega) h2 h3 h4 (λcur w r x hc hw hr hx hm=>by
   unfold nR
   simp only
   rw[hH (i:=r) (by omega),hH (i:=w) (by omega)]
   have hcw:cur[w]? =some cur[w]:=List.getElem?_eq_getElem (by omega)
   simp only[bO,hx,hf x hm,Option.bind_some,hc,Int.ofNat_lt,hr,decide_true,if_true,hcw,Int.toNat_natCast]
   cases q x <;> rfl) (λcur w hc=>by unfold nR; simp[hc])
  rw[e1]
  simp only[aJ]
  have g1:(decide ((0:Int)≤(w:Int)) && decide ((w:Int) < (cur.length:Int)))=true:=by simp; omega
  have g2:(decide ((0:Int)≤(w:Int)) && decide ((w:Int)≤(cur.length:Int)))=true:=by simp; omega
  simp only[grd,g1,g2,if_true,Int.toNat_natCast,e4]
open Go.Vm
def nF (l:List bI) (x:bI):List bI:=(l.reverse.dropWhile λy=>nM y x).reverse++x::(l.reverse.takeWhile λy=>nM y x).reverse
theorem QY {l:List bI} {x:bI} {p:Nat} (h:Pt l x p):l.take p++x::l.drop p=nF l x:=by
 have e:l.reverse=(l.drop p).reverse++(l.take p).reverse:=by rw[← List.reverse_append,List.take_append_drop]
 have h1:∀y∈(l.drop p).reverse,nM y x=true:=λy hy=>h.hi y (List.mem_reverse.1 hy)
 have h2:((l.take p).reverse.takeWhile λy=>nM y x)= []∧((l.take p).reverse.dropWhile λy=>nM y x)=(l.take p).reverse:=by
  cases p with
  | zero=>simp
  | succ q=>
   have hl:=h.le
   have hq:l[q]? =some l[q]:=List.getElem?_eq_getElem (by omega)
   have:=h.lo l[q] (by omega) (by simp[hq])
   rw[List.take_succ_eq_append_getElem (by omega),List.reverse_append,List.reverse_singleton,List.singleton_append]
   simp[this]
 unfold nF
 rw[e,List.takeWhile_append_of_pos h1,List.dropWhile_append_of_pos h1,h2.1,h2.2]
 simp
theorem IR {F:Nat} {l:List bI} {x:bI} (hF:1000≤F) (hl:l.length≤400):u7 F l x=some (nF l x):=by
 obtain⟨p,hp,e⟩:=aF3 hF hl (x:=x)
 rw[e,QY hp]
theorem IS (l:List bI) (x:bI):∃a b,l=a++b∧nF l x=a++x::b:=by
 refine⟨_,_, ?_,rfl⟩
 rw[← List.reverse_append,List.takeWhile_append_dropWhile,List.reverse_reverse]
theorem yL {l:List bI} {x y:bI}:y∈nF l x↔y∈l∨y=x:=by
 obtain⟨a,b,e,e2⟩:=IS l x
 rw[e2,e]
 simp only[List.mem_append,List.mem_cons]
 constructor
 ·rintro(h | h | h)
  ·exact .inl (.inl h)
  ·exact .inr h
  ·exact .inl (.inr h)
 ·rintro((h | h) | h)
  ·exact .inl h
  ·exact .inr (.inr h)
  ·exact .inr (.inl h)
theorem E2 {l:List bI} {x:bI}:(nF l x).length=l.length+1:=by
 obtain⟨a,b,e,e2⟩:=IS l x
 rw[e2,e]
 simp; omega
open Go.Vm
theorem E3 {α:Type} {R:α→α→Prop} {l:List α} (h:l.Pairwise R) {i j:Nat} {x y:α} (hx:l[i]? =some x) (hy:l[j]? =some y) (hij:i < j):R x y:=by
 obtain⟨h1,rfl⟩:=List.getElem?_eq_some_iff.1 hx
 obtain⟨h2,rfl⟩:=List.getElem?_eq_some_iff.1 hy
 exact List.pairwise_iff_getElem.1 h i j h1 h2 hij
theorem C3 {α:Type} {l:List α} {k:Nat} {x:α} (q:α→Prop) [DecidablePred q] (f:α→α) (hx:l[k]? =some x) (hq:q x) (h1:∀y∈l.take k,¬q y) (h2:∀y∈l.drop (k+1),¬q y):l.set k (f x)=l.map λy=>if q y then f y else y:=by
 obtain⟨hk,rfl⟩:=List.getElem?_eq_some_iff.1 hx
 rw[List.set_eq_take_append_cons_drop,if_pos hk]
 have e:(l.map λy=>if q y then f y else y)=(l.take k++l[k]::l.drop (k+1)).map λy=>if q y then f y else y:=by
  rw[← List.drop_eq_getElem_cons hk,List.take_append_drop]
 have m:∀m:List α,(∀y∈m,¬q y)→(m.map λy=>if q y then f y else y)=m:=λm hm=>by
  conv=>rhs; rw[← List.map_id m]
  exact List.map_congr_left λy hy=>by rw[if_neg (hm y hy)]; rfl
 rw[e,List.map_append,List.map_cons,if_pos hq,m _ h1,m _ h2]
theorem yM {α:Type} {l:List α} {f:α→α} (h:∀y∈l,f y=y):l.map f=l:=by
 conv=>rhs; rw[← List.map_id l]
 exact List.map_congr_left λy hy=>h y hy
structure AtE (l:List aQ) (q:Int) (p:Nat):Prop where
 le:p≤l.length
 lo:∀x∈l.take p,x.Seq < q
 hi:∀x∈l.drop p,q≤x.Seq
def QZ (l:List aQ) (q:Int):Bool:=l.any λx=>x.Seq==q
theorem US {F:Nat} {l:List aQ} {q:Int} (hr:l.Pairwise λy x=>y.Seq < x.Seq) (hq:0≤q∧q≤1073741824) (hs:∀x∈l,0≤x.Seq∧x.Seq≤1073741824) (hl:l.length < 1000):∀(G lo hi:Nat),lo≤hi→hi≤l.length→hi - lo < G→
    (∀j x,l[j]? =some x→j < lo→x.Seq < q)→(∀j x,l[j]? =some x→hi≤j→q≤x.Seq)→
    ∃p:Nat,p≤l.length∧aT (λs=>sR F l q (λx0 x1=>CD F x0 x1) s.1 s.2) G ((lo:Int),(hi:Int))=some (.brk ((p:Int),(p:Int)))∧
      (∀j x,l[j]? =some x→j < p→x.Seq < q)∧(∀j x,l[j]? =some x→p≤j→q≤x.Seq)
  | 0,_,_,_,_,h,_,_=>by omega
  | G+1,lo,hi,h1,h2,h3,h4,h5=>by
    unfold aT sR
    by_cases hlt:lo < hi
    · have hm:(lo+hi) / 2 < l.length:=by omega
      have hx:l[(lo+hi) / 2]? =some l[(lo+hi) / 2]:=List.getElem?_eq_getElem hm
      generalize l[(lo+hi) / 2]=x at hx
      have gx:=hs x (List.mem_of_getElem? hx)
      have e:CD F x q=some (x.Seq - q):=by unfold CD; rw[wr (by omega) (by omega)]
      simp only[Int.ofNat_lt,hlt,decide_true,if_true,YO (show lo+hi < 1000000000 by omega),bO,hx,Option.bind_some,e]
      by_cases hk:x.Seq < q
      · simp only[show x.Seq - q < 0 by omega,decide_true,if_true,aJ]
        rw[hH (by omega)]
        exact US hr hq hs hl G ((lo+hi) / 2+1) hi (by omega) h2 (by omega) (λj y hy hj=>by
          rcases Nat.lt_or_ge j ((lo+hi) / 2) with w | w
          · exact Int.lt_trans (E3 hr hy hx w) hk
          · obtain rfl:j=(lo+hi) / 2:=by omega
            rw[hx] at hy; cases hy; exact hk) h5
      · simp only[show ¬x.Seq - q < 0 by omega,decide_false,Bool.false_eq_true,if_false,aJ]
        exact US hr hq hs hl G lo ((lo+hi) / 2) (by omega) (by omega) (by omega) h4 (λj y hy hj=>by
          rcases Nat.lt_or_ge ((lo+hi) / 2) j with w | w
          · have:=E3 hr hx hy w; omega
          · obtain rfl:j=(lo+hi) / 2:=by omega
            rw[hx] at hy; cases hy; omega)
    · obtain rfl:lo=hi:=by omega
      refine⟨lo,h2, ?_,h4,h5⟩
      simp
theorem aGV {F:Nat} {l:List aQ} {q:Int} (hF:1000≤F) (hr:l.Pairwise λy x=>y.Seq < x.Seq) (hq:0≤q∧q≤1073741824) (hs:∀x∈l,0≤x.Seq∧x.Seq≤1073741824) (hl:l.length < 1000):
    ∃p:Nat,AtE l q p∧MZ F l q (λx0 x1=>CD F x0 x1)=some ((p:Int),QZ l q):=by
  obtain⟨p,hp,e,h1,h2⟩:=US (F:=F) hr hq hs hl F 0 l.length (by omega) (Nat.le_refl _) (by omega) (λj x _ hj=>by omega) (λj x hx hj=>by have:=(List.getElem?_eq_some_iff.1 hx).1; omega)
  refine⟨p,⟨hp,λx hx=> ?_,λx hx=> ?_⟩, ?_⟩
  · obtain⟨i,hi,rfl⟩:=List.getElem_of_mem hx
    simp only[List.length_take] at hi
    rw[List.getElem_take]
    exact h1 i _ (List.getElem?_eq_getElem (by omega)) (by omega)
  · obtain⟨i,hi,rfl⟩:=List.getElem_of_mem hx
    simp only[List.length_drop] at hi
    rw[List.getElem_drop]
    exact h2 (p+i) _ (List.getElem?_eq_getElem (by omega)) (by omega)
  · unfold MZ
    rw[show ((0:Int),(l.length:Int))=(((0:Nat):Int),(l.length:Int)) from rfl,e]
    simp only[aJ]
    by_cases hlt:p < l.length
    · have hx:l[p]? =some l[p]:=List.getElem?_eq_getElem hlt
      have hmem:=List.getElem_mem hlt
      generalize l[p]=x at hx hmem
      have gx:=hs x hmem
      have hge:=h2 p x hx (Nat.le_refl _)
      have e:CD F x q=some (x.Seq - q):=by unfold CD; rw[wr (by omega) (by omega)]
      simp only[Int.ofNat_lt,hlt,decide_true,if_true,bO,hx,Option.bind_some,e,aJ]
      congr 2
      rw[Bool.eq_iff_iff]
      unfold QZ
      simp only[beq_iff_eq,List.any_eq_true]
      constructor
      · intro h; exact⟨x,hmem,by omega⟩
      · rintro⟨y,hy,e⟩
        obtain⟨j,hj,rfl⟩:=List.getElem_of_mem hy
        have hj':l[j]? =some l[j]:=List.getElem?_eq_getElem hj
        rcases Nat.lt_trichotomy j p with w | w | w
        · have:=h1 j _ hj' w; omega
        · subst w; rw[hj'] at hx; cases hx; omega
        · have:=E3 hr hx hj' w; omega
    · simp only[show ¬((p:Int) < (l.length:Int)) by omega,decide_false,Bool.false_eq_true,if_false,aJ]
      congr 2
      symm
      unfold QZ
      rw[List.any_eq_false]
      intro x hx
      obtain⟨j,hj,rfl⟩:=List.getElem_of_mem hx
      have:=h1 j _ (List.getElem?_eq_getElem hj) (by omega)
      simp; omega
structure It (i:bE):Prop where
 id:mD i.Id
 q0:0≤i.Seq∧i.Seq≤1073741824
 k:1≤i.Kind∧i.Kind≤3
 of:gI i.Of
 off:gI i.Off
 len:gI i.Len
def HF (i:bE) (a:bI) (y:aA):aA:=if i.Kind=1∧y.Id=i.Id then { y with Locs:=nF y.Locs a} else y
def KJ (i:bE) (a:bI) (s:aG):aG:=if i.Kind=2∧s.Seq=i.Seq then { s with Locs:=nF s.Locs a} else s
def C4 (l:List aQ) (i:bE):aQ:=match l.find? λx=>decide (x.Seq=i.Seq) with | some x=>x | none=> { Seq:=i.Seq,Of:=i.Of,Locs:= []}
def vQ (l:List aQ) (i:bE) (a:bI):List aQ:=(l.filter λx=>decide (x.Seq < i.Seq))++ { C4 l i with Locs:=nF (C4 l i).Locs a}::l.filter λx=>decide (i.Seq < x.Seq)
def KB (c:aB) (i:bE) (a:bI):aB:= { c with
 Seq:=if i.Kind=3 then max c.Seq (i.Seq+1) else c.Seq
 Snaps:=c.Snaps.map (KJ i a)
 Chunks:=c.Chunks.map (HF i a)
 Exps:=if i.Kind=3 then vQ c.Exps i a else c.Exps}
def oP (c:aB) (i:bE):Bool:=if i.Kind=1 then kM c.Chunks i.Id else if i.Kind=2 then c.Snaps.any (λs=>s.Seq==i.Seq) else true
structure Wm (n:Nat) (c:aB):Prop where
 g:AQ c
 r:uO c.Chunks
 cn:c.Chunks.length≤400
 cl:∀x∈c.Chunks,x.Locs.length≤n∧x.Data.length≤300
 so:c.Snaps.Pairwise λy x=>y.Seq < x.Seq
 sn:c.Snaps.length≤12
 sl:∀x∈c.Snaps,x.Locs.length≤n
 man:∀s∈c.Snaps,s.Man.Name.size≤100∧s.Man.Parts.length≤10∧∀p∈s.Man.Parts,p.Path.size≤100∧p.Ids.length≤40
 eo:c.Exps.Pairwise λy x=>y.Seq < x.Seq
 en:c.Exps.length≤n
 el:∀x∈c.Exps,x.Locs.length≤n
 eq:∀x∈c.Exps,0≤x.Seq∧x.Seq≤1073741824∧x.Seq < c.Seq
 q:0≤c.Seq∧c.Seq≤1073741826
 vo:c.Vols.length≤20
theorem Wm.sm {n:Nat} {c:aB} (h:Wm n c) (hn:n≤300):Sm c:=
 ⟨h.g,h.sn,h.cn,Nat.le_trans h.en hn,h.vo,λs hs=>Nat.le_trans (h.sl s hs) hn,λs hs=>⟨Nat.le_trans (h.cl s hs).1 hn,(h.cl s hs).2⟩,λs hs=>Nat.le_trans (h.el s hs) hn,h.man⟩
theorem aGW {F n:Nat} {c:aB} {i:bE} {a:bI} (hF:1000≤F) (h:Wm n c) (hn:n≤300) (hi:It i):
    G8 F c i a=some (if oP c i then (0,(KB c i a).Seq,(KB c i a).Snaps,(KB c i a).Chunks,(KB c i a).Exps) else (8,c.Seq,c.Snaps,c.Chunks,c.Exps)):=by
  have hcn:=h.cn
  have hsn:=h.sn
  have hen:=h.en
  have hk:=hi.k
  unfold G8 KB oP
  by_cases k1:i.Kind=1
  · have e2:c.Snaps.map (KJ i a)=c.Snaps:=yM λy _=>by unfold KJ; rw[if_neg (by omega)]
    obtain⟨p,ha,e⟩:=UI hF h.r hi.id (l:=c.Chunks) (by omega)
    rw[if_pos (by simp[k1]),e]
    simp only[Option.bind_some,k1,if_true,e2,show ¬((1:Int)=3) by omega,if_false]
    cases hh:kM c.Chunks i.Id with
    | false=>simp[dC]
    | true=>
      obtain⟨x,h1,h2⟩:=G9 h.r ha hi.id hh
      have hx:=List.mem_of_getElem? h1
      simp only[Bool.not_true,Bool.false_eq_true,if_false,bO,h1,Option.bind_some,IR hF (show x.Locs.length≤400 by have:=(h.cl x hx).1; omega),aJ,Int.toNat_natCast]
      rw[C3 (λy:aA=>y.Id=i.Id) (λy=> { y with Locs:=nF y.Locs a}) h1 h2 (λy hy e=>by
        have:=ha.lo y hy
        rw[e] at this; omega) (λy hy e=>by
        obtain⟨j,hj,rfl⟩:=List.getElem_of_mem hy
        simp only[List.length_drop] at hj
        rw[List.getElem_drop] at e
        have:=h.r.2 p (p+1+j) _ _ h1 (List.getElem?_eq_getElem (by omega)) (by omega)
        rw[e,h2] at this; omega)]
      simp[HF,k1]
  · have e1:c.Chunks.map (HF i a)=c.Chunks:=yM λy _=>by unfold HF; rw[if_neg (by omega)]
    rw[if_neg (by simpa using k1)]
    by_cases k2:i.Kind=2
    · have hi2:pN F c.Snaps (λx0=>MY F x0 i)=some (oH c.Snaps λs=>s.Seq==i.Seq):=by
        unfold pN
        refine iP (l:=c.Snaps) (λs:aG=>s.Seq==i.Seq) (by omega) (λi' x hx hm hi'=> ?_) (by unfold lL; simp)
        unfold lL MY
        rw[hH (by omega)]
        simp only[bO,hx,Option.bind_some,Int.ofNat_lt,hi',decide_true,if_true]
        split <;> rfl
      rw[if_pos (by simp[k2]),hi2]
      simp only[Option.bind_some,k2,show ¬((2:Int)=1) by omega,if_true,e1,show ¬((2:Int)=3) by omega,if_false]
      cases ha:c.Snaps.any (λs=>s.Seq==i.Seq) with
      | false=>rw[gZ ha]; simp[dC]
      | true=>
        obtain⟨p,x,h1,h2,h3,h4⟩:=iQ ha
        have hx:=List.mem_of_getElem? h2
        rw[h1]
        simp only[show decide ((p:Int) < 0)=false from decide_eq_false (by omega),Bool.false_eq_true,if_false,bO,h2,Option.bind_some,IR hF (show x.Locs.length≤400 by have:=h.sl x hx; omega),aJ,Int.toNat_natCast,if_true]
        have h3:x.Seq=i.Seq:=by simpa using h3
        rw[C3 (λy:aG=>y.Seq=i.Seq) (λy=> { y with Locs:=nF y.Locs a}) h2 h3 (λy hy e=>by
          have:=h4 y hy
          simp[e] at this) (λy hy e=>by
          obtain⟨j,hj,rfl⟩:=List.getElem_of_mem hy
          simp only[List.length_drop] at hj
          rw[List.getElem_drop] at e
          have:=E3 h.so h2 (List.getElem?_eq_getElem (show p+1+j < c.Snaps.length by omega)) (by omega)
          omega)]
        simp[KJ,k2]
    · have k3:i.Kind=3:=by omega
      have e2:c.Snaps.map (KJ i a)=c.Snaps:=yM λy _=>by unfold KJ; rw[if_neg (by omega)]
      obtain⟨p,ha,e⟩:=aGV hF h.eo hi.q0 (λx hx=>⟨(h.eq x hx).1,(h.eq x hx).2.1⟩) (l:=c.Exps) (by omega)
      have hp:=ha.le
      rw[if_neg (by simpa using k2),if_pos (by simp[k3]),e]
      simp only[Option.bind_some,k3,if_true,e1,e2,show ¬((3:Int)=1) by omega,show ¬((3:Int)=2) by omega,if_false]
      have hq0:=hi.q0
      have lowE:(c.Exps.filter λx=>decide (x.Seq < i.Seq))=c.Exps.take p:=by
        have e:(c.Exps.filter λx=>decide (x.Seq < i.Seq))=(c.Exps.take p++c.Exps.drop p).filter λx=>decide (x.Seq < i.Seq):=by rw[List.take_append_drop]
        rw[e,List.filter_append,List.filter_eq_self.2 λy hy=>decide_eq_true (ha.lo y hy),List.filter_eq_nil_iff.2 λy hy=>by
          have:=ha.hi y hy
          simp; omega]
        simp
      have higE:∀m,p+m≤c.Exps.length→(∀y∈(c.Exps.drop p).take m,y.Seq=i.Seq)→(∀y∈c.Exps.drop (p+m),y.Seq≠i.Seq)→(c.Exps.filter λx=>decide (i.Seq < x.Seq))=c.Exps.drop (p+m):=λm hm h5 h6=>by
        have e:(c.Exps.filter λx=>decide (i.Seq < x.Seq))=(c.Exps.take p++((c.Exps.drop p).take m++(c.Exps.drop p).drop m)).filter λx=>decide (i.Seq < x.Seq):=by rw[List.take_append_drop,List.take_append_drop]
        rw[e,List.filter_append,List.filter_append,List.filter_eq_nil_iff.2 λy hy=>by
          have:=ha.lo y hy
          simp; omega,List.filter_eq_nil_iff.2 λy hy=>by simp[h5 y hy],List.drop_drop,List.filter_eq_self.2 λy hy=>by
          have h7:=ha.hi y (by
            have:y∈(c.Exps.drop p).drop m:=by rw[List.drop_drop]; exact hy
            exact List.mem_of_mem_drop this)
          have:=h6 y hy
          exact decide_eq_true (by omega)]
        simp
      cases hh:QZ c.Exps i.Seq with
      | false=>
        have hf:(c.Exps.find? λx=>decide (x.Seq=i.Seq))=none:=List.find?_eq_none.2 λx hx=>by
          have:=List.any_eq_false.1 hh x hx
          simpa using this
        have g0:(c.Exps.take p++({ Seq:=i.Seq,Of:=i.Of,Locs:= []}:aQ)::c.Exps.drop p)[p]? =some { Seq:=i.Seq,Of:=i.Of,Locs:= []}:=by
          rw[List.getElem?_append_right (by simp; omega)]
          simp[Nat.min_eq_left hp]
        have eh:=higE 0 hp (λy hy=>by simp at hy) (λy hy e=>by
          have:=List.any_eq_false.1 hh y (List.mem_of_mem_drop hy)
          simp[e] at this)
        simp only[Nat.add_zero] at eh
        simp only[Bool.not_false,if_true,CE hp (show c.Exps.length < 1000 by omega),Option.bind_some,aJ,bO,g0,IR hF (show ([]:List bI).length≤400 by simp),Int.toNat_natCast,wr (n:=i.Seq+1) (by omega) (by omega)]
        unfold vQ C4
        rw[hf,lowE,eh,List.set_append_right _ _ (by simp; omega)]
        simp[Nat.min_eq_left hp]
      | true=>
        obtain⟨y,hy,ey⟩:=List.any_eq_true.1 hh
        have ey:y.Seq=i.Seq:=by simpa using ey
        have hpl:p < c.Exps.length:=by
          rcases Nat.lt_or_ge p c.Exps.length with w | w
          · exact w
          · have:y∈c.Exps.take p:=by rw[List.take_of_length_le w]; exact hy
            have:=ha.lo y this; omega
        have h1:c.Exps[p]? =some c.Exps[p]:=List.getElem?_eq_getElem hpl
        have hx:=List.getElem_mem hpl
        have h2:(c.Exps[p]).Seq=i.Seq:=by
          have hge:=ha.hi c.Exps[p] (by rw[List.drop_eq_getElem_cons hpl]; exact List.mem_cons_self)
          obtain⟨j,hj,rfl⟩:=List.getElem_of_mem hy
          rcases Nat.lt_trichotomy j p with w | w | w
          · have:=ha.lo (c.Exps[j]) (List.mem_of_getElem? (i:=j) (by rw[List.getElem?_take_of_lt w]; exact List.getElem?_eq_getElem hj)); omega
          · subst w; exact ey
          · have:=E3 h.eo h1 (List.getElem?_eq_getElem hj) w; omega
        generalize c.Exps[p]=x at h1 h2 hx
        have hdr:∀z∈c.Exps.drop (p+1),x.Seq < z.Seq:=λz hz=>by
          obtain⟨j,hj,rfl⟩:=List.getElem_of_mem hz
          simp only[List.length_drop] at hj
          rw[List.getElem_drop]
          exact E3 h.eo h1 (List.getElem?_eq_getElem (show p+1+j < c.Exps.length by omega)) (by omega)
        have hf:(c.Exps.find? λz=>decide (z.Seq=i.Seq))=some x:=by
          cases e:c.Exps.find? λz=>decide (z.Seq=i.Seq) with
          | none=>
            have:=List.find?_eq_none.1 e x hx
            simp[h2] at this
          | some z=>
            have h5:z.Seq=i.Seq:=by simpa using List.find?_some e
            obtain⟨j,hj,rfl⟩:=List.getElem_of_mem (List.mem_of_find?_eq_some e)
            rcases Nat.lt_trichotomy j p with w | w | w
            · have:=E3 h.eo (List.getElem?_eq_getElem hj) h1 w; omega
            · subst w; rw[List.getElem?_eq_getElem hj] at h1; exact h1
            · have:=E3 h.eo h1 (List.getElem?_eq_getElem hj) w; omega
        have eh:=higE 1 (by omega) (λz hz=>by
          rw[List.drop_eq_getElem_cons hpl,List.take_succ_cons,List.take_zero] at hz
          have:z=c.Exps[p]:=List.mem_singleton.1 hz
          rw[List.getElem?_eq_getElem hpl] at h1
          rw[this,Option.some.inj h1,h2]) (λz hz e=>by have:=hdr z hz; omega)
        have hsq:=(h.eq x hx).2.2
        simp only[Bool.not_true,Bool.false_eq_true,if_false,aJ,bO,h1,Option.bind_some,IR hF (show x.Locs.length≤400 by have:=h.el x hx; omega),Int.toNat_natCast]
        unfold vQ C4
        rw[hf,lowE,eh,List.set_eq_take_append_cons_drop,if_pos hpl,show max c.Seq (i.Seq+1)=c.Seq by omega]
open Go.Vm
theorem E4 {S ρ:Type} {body:S→Option (Lp S ρ)} {n:Nat} (emb:Nat→S) (p:Nat→Bool) (R:ρ→Prop) (hb:∀i,i < n→p i=true→body (emb i)=some (.go (emb (i+1))))
    (hb2:∀i,i < n→p i=false→∃r,R r∧body (emb i)=some (.ret r)) (he:body (emb n)=some (.brk (emb n))):∀(m k G:Nat),k+m=n→m < G→
    ((∀j,k≤j→j < n→p j=true)∧aT body G (emb k)=some (.brk (emb n)))∨((∃j,k≤j∧j < n∧p j=false)∧∃r,R r∧aT body G (emb k)=some (.ret r))
  | 0,k,G+1,h,_=>.inl ⟨λj h1 h2=>by omega,by
      obtain rfl:k=n:=by omega
      unfold aT; rw[he]⟩
  | m+1,k,G+1,h,hG=>by
    unfold aT
    cases hp:p k with
    | false=>
      obtain⟨r,h1,h2⟩:=hb2 k (by omega) hp
      exact .inr ⟨⟨k,Nat.le_refl _,by omega,hp⟩,r,h1,by rw[h2]⟩
    | true=>
      rw[hb k (by omega) hp]
      rcases E4 emb p R hb hb2 he m (k+1) G (by omega) (by omega) with⟨h1,h2⟩ | ⟨⟨j,h1,h2,h3⟩,h4⟩
      · refine .inl ⟨λj h3 h4=> ?_,h2⟩
        rcases Nat.lt_or_ge k j with w | w
        · exact h1 j w h4
        · obtain rfl:j=k:=by omega
          exact hp
      · exact .inr ⟨⟨j,by omega,h2,h3⟩,h4⟩
def KC (p:Int) (i:bE) (y:aA):aA:=if p=0∧i.Kind=1∧y.Id=i.Id then { y with Staged:=false,Data:= []} else y
def yU (p:Int) (c:aB) (i:bE) (a:bI):aB:= { KB c i a with Chunks:=(KB c i a).Chunks.map (KC p i)}
def wL (v f:Int) (i:bE):bI:= { Vol:=v,File:=f,Off:=i.Off,Len:=i.Len}
def C5 (p v f:Int) (c:aB) (l:List bE):aB:=l.foldl (λc i=>yU p c i (wL v f i)) c
def ws (c:aB) (v:Int) (x:aR):aB:= { c with Vols:=c.Vols.set v.toNat { x with State:=2,Files:=x.Files+1}}
def iL (l:List bE) (s:aG):Bool:=l.any λi=>i.Kind==3 && s.Seq==i.Of
def oQ (c:aB) (d:aP) (x:aR):aB:=C5 x.Pool d.Vol (x.Files+1) (ws c d.Vol x) d.Items
def E5 (c:aB) (d:aP) (x:aR):aB:= { oQ c d x with Snaps:=(oQ c d x).Snaps.filter λs=> !iL d.Items s}
def C6 (c:aB) (d:aP) (x:aR):aB:=if (E5 c d x).Snaps.length < (oQ c d x).Snaps.length then { E5 c d x with Chunks:=J4 (E5 c d x)} else E5 c d x
theorem yN (i:bE) (a:bI) (y:aA):(HF i a y).Id=y.Id:=by unfold HF; split <;> rfl
theorem HG (p:Int) (i:bE) (y:aA):(KC p i y).Id=y.Id:=by unfold KC; split <;> rfl
theorem wM (i:bE) (a:bI) (y:aG):(KJ i a y).Seq=y.Seq∧(KJ i a y).Man=y.Man:=by unfold KJ; split <;> exact⟨rfl,rfl⟩
theorem N0 (l:List aQ) (i:bE):(C4 l i).Seq=i.Seq:=by
 unfold C4
 cases e:l.find? λx=>decide (x.Seq=i.Seq) with
 | none=>rfl
 | some x=>simpa using List.find?_some e
theorem Q0 (l:List aQ) (i:bE):C4 l i∈l∨C4 l i= { Seq:=i.Seq,Of:=i.Of,Locs:= []}:=by
 unfold C4
 cases e:l.find? λx=>decide (x.Seq=i.Seq) with
 | none=>exact .inr rfl
 | some x=>exact .inl (List.mem_of_find?_eq_some e)
theorem yO {l:List aA} {f:aA→aA} (h:∀y,(f y).Id=y.Id) (d:bL):kM (l.map f) d=kM l d:=by
 unfold kM
 rw[List.any_map]
 congr 1
 funext y
 simp[h y]
theorem N1 {p:Int} {c:aB} {i j:bE} {a:bI}:oP (yU p c i a) j=oP c j:=by
 unfold oP
 have e1:kM (yU p c i a).Chunks j.Id=kM c.Chunks j.Id:=by
  show kM ((c.Chunks.map (HF i a)).map (KC p i)) j.Id=_
  rw[yO (HG p i),yO (yN i a)]
 have e2:(yU p c i a).Snaps.any (λs=>s.Seq==j.Seq)=c.Snaps.any λs=>s.Seq==j.Seq:=by
  show (c.Snaps.map (KJ i a)).any _=_
  rw[List.any_map]
  congr 1
  funext y
  simp[(wM i a y).1]
 rw[e1,e2]
theorem N2 (l:List aQ) (i:bE) (a:bI):(vQ l i a).length≤l.length+1:=by
 have:∀m:List aQ,(m.filter λx=>decide (x.Seq < i.Seq)).length+(m.filter λx=>decide (i.Seq < x.Seq)).length≤m.length:=by
  intro m
  induction m with
  | nil=>simp
  | cons b m ih=>
   by_cases h1:b.Seq < i.Seq
   ·have h2:¬i.Seq < b.Seq:=by omega
    simp[List.filter_cons,h1,h2]; omega
   ·by_cases h2:i.Seq < b.Seq <;> simp[List.filter_cons,h1,h2] <;> omega
 have:=this l
 unfold vQ
 simp only[List.length_append,List.length_cons]
 omega
theorem N3 {P:aQ→Prop} {l:List aQ} {i:bE} {a:bI} (h:∀x∈l,P x) (h1:∀x∈l,P { x with Locs:=nF x.Locs a}) (h2:P { Seq:=i.Seq,Of:=i.Of,Locs:=nF [] a}):∀x∈vQ l i a,P x:=by
 intro x hx
 unfold vQ at hx
 rcases List.mem_append.1 hx with hx | hx
 ·exact h x (List.mem_filter.1 hx).1
 ·rcases List.mem_cons.1 hx with rfl | hx
  ·rcases Q0 l i with e | e
   ·exact h1 _ e
   ·rw[e]; exact h2
  ·exact h x (List.mem_filter.1 hx).1
theorem Q1 {l:List aQ} {i:bE} {a:bI} (h:l.Pairwise λy x=>y.Seq < x.Seq):(vQ l i a).Pairwise λy x=>y.Seq < x.Seq:=by
 unfold vQ
 have hs:=N0 l i
 refine List.pairwise_append.2 ⟨h.sublist List.filter_sublist,List.pairwise_cons.2 ⟨λy hy=> ?_,h.sublist List.filter_sublist⟩,λy hy z hz=> ?_⟩
 ·have:=of_decide_eq_true (List.mem_filter.1 hy).2
  simp only[hs]; exact this
 ·have h1:=of_decide_eq_true (List.mem_filter.1 hy).2
  rcases List.mem_cons.1 hz with rfl | hz
  ·simp only[hs]; exact h1
  ·have:=of_decide_eq_true (List.mem_filter.1 hz).2
   omega
theorem HH {l:List bI} {a:bI} (h:gL m7 l) (ha:m7 a):gL m7 (nF l a):=λx hx=>by
 rcases yL.1 hx with h1 | rfl
 ·exact h x h1
 ·exact ha
theorem C7 {l:List aA} {f:aA→aA} (h:∀y,(f y).Id=y.Id) (hr:uO l):uO (l.map f):=by
 rw[uT] at*
 refine⟨λx hx=> ?_,List.pairwise_map.2 (hr.2.imp fun {a b} e=>by rw[h a,h b]; exact e)⟩
 obtain⟨y,hy,rfl⟩:=List.mem_map.1 hx
 rw[h y]; exact hr.1 y hy
theorem Wm.step {n:Nat} {c:aB} {i:bE} {a:bI} (p:Int) (h:Wm n c) (hi:It i) (ha:m7 a):Wm (n+1) (yU p c i a):=by
 obtain⟨g0,g1,g2,g3,g4⟩:=h.g
 have hq:=h.q
 have hiq:=hi.q0
 have hsq:0≤(yU p c i a).Seq∧(yU p c i a).Seq≤1073741826∧c.Seq≤(yU p c i a).Seq∧(i.Kind=3→i.Seq < (yU p c i a).Seq):=by
  show 0≤(if i.Kind=3 then max c.Seq (i.Seq+1) else c.Seq)∧(if i.Kind=3 then max c.Seq (i.Seq+1) else c.Seq)≤_∧c.Seq≤(if i.Kind=3 then max c.Seq (i.Seq+1) else c.Seq)∧(i.Kind=3→i.Seq < (if i.Kind=3 then max c.Seq (i.Seq+1) else c.Seq))
  split <;> omega
 have el:∀P:aQ→Prop,(∀x∈c.Exps,P x)→(∀x∈c.Exps,P { x with Locs:=nF x.Locs a})→(i.Kind=3→P { Seq:=i.Seq,Of:=i.Of,Locs:=nF [] a})→∀x∈(yU p c i a).Exps,P x:=λP h1 h2 h3 x hx=>by
  have hx:x∈(if i.Kind=3 then vQ c.Exps i a else c.Exps):=hx
  split at hx
  ·rename_i k; exact N3 h1 h2 (h3 k) x hx
  ·exact h1 x hx
 have cl:∀P:aA→Prop,(∀x∈c.Chunks,∀l d s,(l=x.Locs∨l=nF x.Locs a)→(d=x.Data∨d= [])→P { Id:=x.Id,Staged:=s,Data:=d,Locs:=l})→∀x∈(yU p c i a).Chunks,P x:=λP h1 x hx=>by
  obtain⟨y,hy,rfl⟩:=List.mem_map.1 hx
  obtain⟨z,hz,rfl⟩:=List.mem_map.1 hy
  unfold KC HF
  split <;> split <;> first | exact h1 z hz _ _ _ (.inr rfl) (.inr rfl) | exact h1 z hz _ _ _ (.inl rfl) (.inr rfl) | exact h1 z hz _ _ _ (.inr rfl) (.inl rfl) | exact h1 z hz _ _ _ (.inl rfl) (.inl rfl)
 have sl:∀P:aG→Prop,(∀x∈c.Snaps,∀l,(l=x.Locs∨l=nF x.Locs a)→P { x with Locs:=l})→∀x∈(yU p c i a).Snaps,P x:=λP h1 x hx=>by
  obtain⟨z,hz,rfl⟩:=List.mem_map.1 hx
  unfold KJ
  split
  ·exact h1 z hz _ (.inr rfl)
  ·exact h1 z hz _ (.inl rfl)
 have pl:∀l l':List bI,(l'=l∨l'=nF l a)→l.length≤n→l'.length≤n+1:=λl l' e hl=>by
  rcases e with rfl | rfl
  ·omega
  ·rw[E2]; omega
 have pg:∀l l':List bI,(l'=l∨l'=nF l a)→gL m7 l→gL m7 l':=λl l' e hl=>by
  rcases e with rfl | rfl
  ·exact hl
  ·exact HH hl ha
 have p0:(nF [] a).length≤n+1:=by rw[E2]; simp
 refine⟨⟨⟨by omega,by omega⟩,sl _ λx hx l e=>⟨(g1 x hx).1,(g1 x hx).2.1,pg _ _ e (g1 x hx).2.2⟩,cl _ λx hx l d s e e2=>⟨(g2 x hx).1,trivial, ?_,pg _ _ e (g2 x hx).2.2.2⟩,el _ g3 (λx hx=>⟨(g3 x hx).1,(g3 x hx).2.1,HH (g3 x hx).2.2 ha⟩) λ_=>⟨⟨by show _≤i.Seq; omega,by show i.Seq < _; omega⟩,hi.of,HH (λ_ h=>by cases h) ha⟩,g4⟩,C7 (HG p i) (C7 (yN i a) h.r), ?_,cl _ λx hx l d s e e2=>⟨pl _ _ e (h.cl x hx).1, ?_⟩,List.pairwise_map.2 (h.so.imp fun {y z} e=>by rw[(wM i a y).1,(wM i a z).1]; exact e), ?_,sl _ λx hx l e=>pl _ _ e (h.sl x hx),sl _ λx hx l e=>h.man x hx, ?_, ?_,el _ (λx hx=>Nat.le_succ_of_le (h.el x hx)) (λx hx=>pl _ _ (.inr rfl) (h.el x hx)) λ_=>p0, ?_,⟨hsq.1,hsq.2.1⟩,h.vo⟩
 ·rcases e2 with rfl | rfl
  ·exact(g2 x hx).2.2.1
  ·intro z hz; cases hz
 ·show ((c.Chunks.map _).map _).length≤_
  simp; exact h.cn
 ·rcases e2 with rfl | rfl
  ·exact(h.cl x hx).2
  ·simp
 ·show (c.Snaps.map _).length≤_
  simp; exact h.sn
 ·show List.Pairwise _ (if i.Kind=3 then vQ c.Exps i a else c.Exps)
  split
  ·exact Q1 h.eo
  ·exact h.eo
 ·show (if i.Kind=3 then vQ c.Exps i a else c.Exps).length≤_
  have:=h.en
  split
  ·have:=N2 c.Exps i a; omega
  ·omega
 ·refine λx hx=>⟨?_, ?_, ?_⟩
  ·exact el (λx=>0≤x.Seq) (λx hx=>(h.eq x hx).1) (λx hx=>(h.eq x hx).1) (λ_=>hiq.1) x hx
  ·exact el (λx=>x.Seq≤1073741824) (λx hx=>(h.eq x hx).2.1) (λx hx=>(h.eq x hx).2.1) (λ_=>hiq.2) x hx
  ·exact el (λx=>x.Seq < (yU p c i a).Seq) (λx hx=>by have:=(h.eq x hx).2.2; omega) (λx hx=>by have:=(h.eq x hx).2.2; simp only; omega) (λk=>hsq.2.2.2 k) x hx
theorem C8 {p v f:Int} (gv:gI v) (gf:gI f):∀ {l:List bE} {n:Nat} {c:aB},Wm n c→(∀i∈l,It i)→Wm (n+l.length) (C5 p v f c l)
 | [],_,_,h,_=>h
 | i::l,n,c,h,hi=>by
  have:=C8 (p:=p) gv gf (l:=l) (h.step p (hi i List.mem_cons_self) (a:=wL v f i) ⟨gv,gf,(hi i List.mem_cons_self).off,(hi i List.mem_cons_self).len⟩) λj hj=>hi j (List.mem_cons_of_mem _ hj)
  rw[List.length_cons,show n+(l.length+1)=n+1+l.length by omega]
  exact this
theorem E6 {p v f:Int} {j:bE}:∀ {l:List bE} {c:aB},oP (C5 p v f c l) j=oP c j
 | [],_=>rfl
 | i::l,c=>by
  show oP (C5 p v f (yU p c i (wL v f i)) l) j=_
  rw[E6,N1]
open Go.Vm
structure Wd (d:aP):Prop where
 n:d.Items.length≤64
 it:∀i∈d.Items,mD i.Id∧(0≤i.Seq∧i.Seq≤1073741824)∧gI i.Of∧gI i.Off∧gI i.Len
def gs (l:List bE):List Int:=l.foldl (λa i=>if i.Kind==3 then mB a i.Of else a) []
theorem N4 {l:List Int} {x:Int} (q:Int→Bool):(mB l x).any q=(l.any q || q x):=by
 unfold mB
 split
 ·rename_i h
  obtain⟨y,hy,e⟩:=List.any_eq_true.1 h
  have e:x=y:=by simpa using e
  subst e
  cases hq:q x with
  | false=>simp
  | true=>simp[List.any_eq_true.2 ⟨x,hy,hq⟩]
 ·simp
theorem UT (s:aG):∀(l:List bE),((gs l).any λz=>s.Seq==z)=iL l s:=by
 have:∀(l:List bE) (a:List Int),((l.foldl (λa i=>if i.Kind==3 then mB a i.Of else a) a).any λz=>s.Seq==z)=(a.any (λz=>s.Seq==z) || iL l s):=by
  intro l
  induction l with
  | nil=>intro a; simp[iL]
  | cons i l ih=>
   intro a
   rw[List.foldl_cons,ih]
   unfold iL
   rw[List.any_cons]
   cases e:i.Kind==3 with
   | false=>simp[e]
   | true=>simp[e,N4,Bool.or_assoc]
 intro l
 unfold gs
 rw[this]
 simp
theorem Q2 (l:List bE) (i:bE):gs (l++ [i])=if i.Kind==3 then mB (gs l) i.Of else gs l:=by
 unfold gs
 rw[List.foldl_append]
 rfl
theorem N5 (p v f:Int) (c:aB) (l:List bE) (i:bE):C5 p v f c (l++ [i])=yU p (C5 p v f c l) i (wL v f i):=by
 unfold C5
 rw[List.foldl_append]
 rfl
theorem yP (p v f:Int):∀(l:List bE) (c:aB),(C5 p v f c l).Vols=c.Vols
 | [],_=>rfl
 | i::l,c=>yP p v f l (yU p c i (wL v f i))
theorem SB {c:aB} {v:Int} {x:aR} (h:Sm c) (hg:Gd c) (hx:c.Vols[v.toNat]? =some x):Wm 200 (ws c v x):=by
 obtain⟨g0,g1,g2,g3,g4⟩:=h.g
 have hq:=hg.q
 unfold gW at hq
 simp only[Bool.and_eq_true,decide_eq_true_eq] at hq
 have hxb:=hg.v x (List.mem_of_getElem? hx)
 unfold oG gW at hxb
 simp only[Bool.and_eq_true,Bool.or_eq_true,decide_eq_true_eq,beq_iff_eq] at hxb
 refine⟨⟨g0,g1,g2,g3,λy hy=> ?_⟩,uT.2 ⟨λy hy=>(g2 y hy).1,hg.co⟩,h.ch,λy hy=>⟨(hg.cl y hy).n,(h.cl y hy).2⟩,hg.so,h.sn,λy hy=>(hg.sl y hy).n,h.man,hg.eo,hg.en,λy hy=>(hg.el y hy).n,λy hy=> ?_,⟨hq.1,by show c.Seq≤_; omega⟩, ?_⟩
 ·rcases List.mem_or_eq_of_mem_set hy with h1 | rfl
  ·exact g4 y h1
  ·have:=g4 x (List.mem_of_getElem? hx)
   exact⟨this.1,this.2.1,(⟨by decide,by decide⟩:gI 2),(⟨by show _≤x.Files+1; omega,by show x.Files+1 < _; omega⟩:gI (x.Files+1))⟩
 ·have:=(hg.eq y hy).1
  unfold gW at this
  simp only[Bool.and_eq_true,decide_eq_true_eq] at this
  exact⟨this.1,by omega,by show y.Seq < c.Seq; omega⟩
 ·show (c.Vols.set _ _).length≤20
  rw[List.length_set]; exact h.vo
theorem aGX {F:Nat} {l:List bE} (hF:1000≤F) (hl:l.length≤64):J1 F l (λx0=>J0 F x0)=some (l.any λi=>decide (i.Kind < 1) || decide (3 < i.Kind)):=by
 have h1:M6 F l (λx0=>J0 F x0)=some (oH l λi=>decide (i.Kind < 1) || decide (3 < i.Kind)):=by
  unfold M6
  refine iP (l:=l) (λi:bE=>decide (i.Kind < 1) || decide (3 < i.Kind)) (by omega) (λi x hx hm hi=> ?_) (by unfold sU; simp)
  unfold sU J0
  rw[hH (by omega)]
  simp only[bO,hx,Option.bind_some,Int.ofNat_lt,hi,decide_true,if_true]
  by_cases a:x.Kind < 1 <;> by_cases b:3 < x.Kind <;> simp[a,b,aJ]
 unfold J1
 rw[h1]
 simp only[Option.bind_some]
 cases ha:l.any (λi=>decide (i.Kind < 1) || decide (3 < i.Kind)) with
 | false=>rw[gZ ha]; rfl
 | true=>
  obtain⟨i,x,h1, -⟩:=iQ ha
  rw[h1]
  simp
def oX (x:aR) (d:aP):Bool:= !(x.State==3) && !d.Items.isEmpty && !d.Items.any λi=>decide (i.Kind < 1) || decide (3 < i.Kind)
theorem Q3 {l:List aA} {d:bL} {p:Nat} {y:aA} (f:aA→aA) (hr:uO l) (ha:At l d p) (hy:l[p]? =some y) (hd:y.Id=d):l.set p (f y)=l.map λz=>if z.Id=d then f z else z:=
 C3 (λz:aA=>z.Id=d) f hy hd (λz hz e=>by
  have:=ha.lo z hz
  rw[e] at this; omega) λz hz e=>by
  obtain⟨j,hj,rfl⟩:=List.getElem_of_mem hz
  simp only[List.length_drop] at hj
  rw[List.getElem_drop] at e
  have:=hr.2 p (p+1+j) _ _ hy (List.getElem?_eq_getElem (by omega)) (by omega)
  rw[e,hd] at this; omega
theorem E7 {F:Nat} {c:aB} {d:aP} {x:aR} {i:bE} {k:Nat} (hF:1000≤F) (hW:Wm 200 (ws c d.Vol x)) (gv:gI d.Vol) (gf:0≤x.Files∧x.Files≤65535) (hn:d.Items.length≤64) (hI:∀i∈d.Items,It i) (hk:k < d.Items.length) (hi:d.Items[k]? =some i)
    (e:aB) (he:e=C5 x.Pool d.Vol (x.Files+1) (ws c d.Vol x) (d.Items.take k)):
    (oP (ws c d.Vol x) i=true→oN F c d x (gs (d.Items.take k)) e.Seq e.Snaps e.Chunks e.Exps (k:Int)=some (.go (gs (d.Items.take (k+1)),(yU x.Pool e i (wL d.Vol (x.Files+1) i)).Seq,(yU x.Pool e i (wL d.Vol (x.Files+1) i)).Snaps,(yU x.Pool e i (wL d.Vol (x.Files+1) i)).Chunks,(yU x.Pool e i (wL d.Vol (x.Files+1) i)).Exps,((k+1:Nat):Int))))∧
    (oP (ws c d.Vol x) i=false→∃r,r.1=8∧oN F c d x (gs (d.Items.take k)) e.Seq e.Snaps e.Chunks e.Exps (k:Int)=some (.ret r)):=by
  have gF:gI (x.Files+1):=⟨by omega,by omega⟩
  have hm:=List.mem_of_getElem? hi
  have It':=hI i hm
  have hWe:=C8 (p:=x.Pool) gv gF (l:=d.Items.take k) hW λj hj=>hI j (List.mem_of_mem_take hj)
  have hp:=E6 (p:=x.Pool) (v:=d.Vol) (f:=x.Files+1) (j:=i) (l:=d.Items.take k) (c:=ws c d.Vol x)
  have hv:=yP x.Pool d.Vol (x.Files+1) (d.Items.take k) (ws c d.Vol x)
  rw[← he] at hWe hp hv
  rw[List.length_take] at hWe
  have hV:(c.Vols.set d.Vol.toNat { x with State:=2}).set d.Vol.toNat { ({ x with State:=2}:aR) with Files:=x.Files+1}=e.Vols:=by
    rw[hv,List.set_set]; rfl
  have hga:m7 (wL d.Vol (x.Files+1) i):=⟨gv,gF,It'.off,It'.len⟩
  have hgs:gs (d.Items.take (k+1))=if i.Kind==3 then mB (gs (d.Items.take k)) i.Of else gs (d.Items.take k):=by
    obtain⟨hk',rfl⟩:=List.getElem?_eq_some_iff.1 hi
    rw[List.take_succ_eq_append_getElem hk,Q2]
  have h123:=aGW (a:=wL d.Vol (x.Files+1) i) hF hWe (by omega) It'
  have wF:IntKind.wrap .i64 (x.Files+1)=x.Files+1:=wr (by omega) (by omega)
  have h123':G8 F { Seq:=e.Seq,Snaps:=e.Snaps,Chunks:=e.Chunks,Exps:=e.Exps,Vols:=e.Vols} i { Vol:=d.Vol,File:=x.Files+1,Off:=i.Off,Len:=i.Len}=G8 F e i (wL d.Vol (x.Files+1) i):=rfl
  constructor
  · intro hpr
    rw[hp,hpr,if_pos rfl] at h123
    have hr:=C7 (yN i (wL d.Vol (x.Files+1) i)) hWe.r
    obtain⟨p,ha,e116⟩:=UI hF hr It'.id (l:=e.Chunks.map (HF i (wL d.Vol (x.Files+1) i))) (by simp; have:=hWe.cn; omega)
    have e116':vP F (KB e i (wL d.Vol (x.Files+1) i)).Chunks i.Id=_:=e116
    unfold oN
    rw[hH (by omega)]
    simp only[bO,hi,Option.bind_some,Int.ofNat_lt,hk,decide_true,if_true,wF,hV,h123',h123,e116']
    rw[if_neg (by simp),hgs]
    have gn:∀ {ρ:Type} (k':List Int→Option ρ),(after (if (i.Kind==3)=true then some (.brk (mB (gs (d.Items.take k)) i.Of)) else some (.brk (gs (d.Items.take k))):Option (Lp (List Int) ρ)) k')=k' (if i.Kind==3 then mB (gs (d.Items.take k)) i.Of else gs (d.Items.take k)):=λk'=>by split <;> rfl
    rw[gn]
    have fin:(yU x.Pool e i (wL d.Vol (x.Files+1) i)).Chunks=(KB e i (wL d.Vol (x.Files+1) i)).Chunks.map (KC x.Pool i):=rfl
    by_cases k1:i.Kind=1
    · have hhas:kM (KB e i (wL d.Vol (x.Files+1) i)).Chunks i.Id=true:=by
        show kM (e.Chunks.map (HF i (wL d.Vol (x.Files+1) i))) i.Id=true
        rw[yO (yN i _)]
        rw[← hp] at hpr
        unfold oP at hpr
        rwa [if_pos k1] at hpr
      rw[show kM (e.Chunks.map (HF i (wL d.Vol (x.Files+1) i))) i.Id=true from hhas]
      obtain⟨y,y1,y2⟩:=G9 hr ha It'.id hhas
      simp only[k1,beq_self_eq_true,if_true,aJ]
      by_cases p0:x.Pool=0
      · have y1':(KB e i (wL d.Vol (x.Files+1) i)).Chunks[p]? =some y:=y1
        have hpl:=(List.getElem?_eq_some_iff.1 y1').1
        have hb:(x.Pool==0)=true:=by simpa using p0
        simp only[hb,if_true,y1',Option.bind_some,Int.toNat_natCast]
        rw[List.getElem?_set_self hpl]
        simp only[Option.bind_some,List.set_set,aJ]
        rw[fin]
        have:=Q3 (λz:aA=> { z with Staged:=false,Data:= []}) (show uO (KB e i (wL d.Vol (x.Files+1) i)).Chunks from hr) (show At (KB e i (wL d.Vol (x.Files+1) i)).Chunks i.Id p from ha) y1' y2
        rw[this]
        have e9:(λz:aA=>if z.Id=i.Id then ({ z with Staged:=false,Data:= []}:aA) else z)=KC x.Pool i:=by
          funext z
          simp only[KC,p0,k1,true_and]
        rw[e9]
        rfl
      · simp only[show (x.Pool==0)=false from by simpa using p0,Bool.false_eq_true,if_false,aJ]
        rw[fin,yM λz _=>by unfold KC; rw[if_neg (by simp[p0])]]
        rfl
    · simp only[show (i.Kind==1)=false from by simpa using k1,Bool.false_eq_true,if_false,aJ]
      rw[fin,yM λz _=>by unfold KC; rw[if_neg (by simp[k1])]]
      rfl
  · intro hpr
    rw[hp,hpr,if_neg (by decide)] at h123
    refine⟨(8,e.Seq,e.Snaps,e.Chunks,e.Exps,e.Vols),rfl, ?_⟩
    unfold oN
    simp only[bO,hi,Option.bind_some,Int.ofNat_lt,hk,decide_true,if_true,wF,hV,h123',h123]
    rw[if_pos (by simp)]
theorem n74 {F:Nat} {c:aB} {d:aP} {x:aR} (hF:1000≤F) (h:Sm c) (hg:Gd c) (hd:Wd d) (gv:gI d.Vol) (h0:0≤d.Vol) (hx:c.Vols[d.Vol.toNat]? =some x):
    ∃r,VX F c d=some r∧(if oX x d=true then (if d.Items.all (oP c)=true then r=(0,(C6 c d x).Seq,(C6 c d x).Snaps,(C6 c d x).Chunks,(C6 c d x).Exps,(C6 c d x).Vols) else r.1=8) else r.1=1):=by
  have hxb:=hg.v x (List.mem_of_getElem? hx)
  have gf:0≤x.Files∧x.Files≤65535:=by
    unfold oG gW at hxb
    simp only[Bool.and_eq_true,Bool.or_eq_true,decide_eq_true_eq,beq_iff_eq] at hxb
    omega
  have gF:gI (x.Files+1):=⟨by omega,by omega⟩
  have hlt:=(List.getElem?_eq_some_iff.1 hx).1
  have hn:=hd.n
  have hW:=SB h hg hx
  unfold VX
  rw[aGX hF hn]
  simp only[Option.bind_some,uH _ h0,hx]
  rw[if_neg (by simp; omega),if_neg (by simp; omega)]
  by_cases c1:x.State=3
  · rw[if_pos (by simp[c1])]
    simp only[aJ,if_true]
    exact⟨_,rfl,by simp[oX,c1]⟩
  rw[if_neg (by simp[c1])]
  by_cases c2:d.Items= []
  · simp[c2,aJ,oX]
  have hpos:0 < d.Items.length:=List.length_pos_iff.2 c2
  rw[if_neg (by simp; omega),if_neg (by simp; omega)]
  simp only[aJ]
  cases c3:d.Items.any (λi=>decide (i.Kind < 1) || decide (3 < i.Kind)) with
  | true=>
    simp only[Bool.not_true,Bool.not_false,if_true]
    exact⟨_,rfl,by simp[oX,c3]⟩
  | false=>
  have hI:∀i∈d.Items,It i:=λi hi=>by
    obtain⟨a1,a2,a3,a4,a5⟩:=hd.it i hi
    have:=List.any_eq_false.1 c3 i hi
    simp only[Bool.or_eq_true,decide_eq_true_eq] at this
    exact⟨a1,a2,by omega,a3,a4,a5⟩
  have hwc:oX x d=true:=by simp[oX,c1,c2,c3]
  simp only[Bool.not_false,Bool.not_true,Bool.false_eq_true,if_false,hwc,if_true]
  have key:=E4 (body:=λs:List Int×Int×List aG×List aA×List aQ×Int=>oN F c d x s.1 s.2.1 s.2.2.1 s.2.2.2.1 s.2.2.2.2.1 s.2.2.2.2.2) (n:=d.Items.length)
    (λk=>(gs (d.Items.take k),(C5 x.Pool d.Vol (x.Files+1) (ws c d.Vol x) (d.Items.take k)).Seq,(C5 x.Pool d.Vol (x.Files+1) (ws c d.Vol x) (d.Items.take k)).Snaps,(C5 x.Pool d.Vol (x.Files+1) (ws c d.Vol x) (d.Items.take k)).Chunks,(C5 x.Pool d.Vol (x.Files+1) (ws c d.Vol x) (d.Items.take k)).Exps,(k:Int)))
    (λk=>(d.Items[k]?).any (oP c)) (λr=>r.1=8)
    (λk hk hp=>by
      have hi:d.Items[k]? =some d.Items[k]:=List.getElem?_eq_getElem hk
      have:=(E7 hF hW gv gf hn hI hk hi _ rfl).1 (by rw[hi] at hp; exact hp)
      refine this.trans ?_
      rw[← N5,← List.take_succ_eq_append_getElem hk])
    (λk hk hp=>by
      have hi:d.Items[k]? =some d.Items[k]:=List.getElem?_eq_getElem hk
      exact(E7 hF hW gv gf hn hI hk hi _ rfl).2 (by rw[hi] at hp; exact hp))
    (by unfold oN; simp) d.Items.length 0 F (by omega) (by omega)
  have st0:([],c.Seq,c.Snaps,c.Chunks,c.Exps,0)=(gs (d.Items.take 0),(C5 x.Pool d.Vol (x.Files+1) (ws c d.Vol x) (d.Items.take 0)).Seq,(C5 x.Pool d.Vol (x.Files+1) (ws c d.Vol x) (d.Items.take 0)).Snaps,(C5 x.Pool d.Vol (x.Files+1) (ws c d.Vol x) (d.Items.take 0)).Chunks,(C5 x.Pool d.Vol (x.Files+1) (ws c d.Vol x) (d.Items.take 0)).Exps,((0:Nat):Int)):=rfl
  rw[st0]
  rcases key with⟨k1,k2⟩ | ⟨⟨j, -,k1,k2⟩,r,k3,k4⟩
  · rw[k2]
    simp only[aJ,List.take_length]
    have hall:d.Items.all (oP c)=true:=List.all_eq_true.2 λi hi=>by
      obtain⟨j,hj,rfl⟩:=List.getElem_of_mem hi
      have:=k1 j (Nat.zero_le _) hj
      rw[List.getElem?_eq_getElem hj] at this
      exact this
    rw[hall]
    simp only[if_true]
    have hWe:=C8 (p:=x.Pool) gv gF hW hI
    have e1:C5 x.Pool d.Vol (x.Files+1) (ws c d.Vol x) d.Items=oQ c d x:=rfl
    have hVv:(c.Vols.set d.Vol.toNat { x with State:=2}).set d.Vol.toNat { ({ x with State:=2}:aR) with Files:=IntKind.wrap .i64 (x.Files+1)}=(oQ c d x).Vols:=by
      rw[← e1,yP,List.set_set,wr (by omega) (by omega)]; rfl
    rw[e1] at hWe ⊢
    have hsm:=hWe.sm (by omega)
    rw[aGU (l:=(oQ c d x).Snaps) (λs=>iL d.Items s) hF (by have:=hWe.sn; omega) (λs hs=>by unfold QL; rw[UT])]
    simp only[Option.bind_some]
    rw[hVv]
    have h120:G7 F { Seq:=(oQ c d x).Seq,Snaps:=(oQ c d x).Snaps.filter (λs=> !iL d.Items s),Chunks:=(oQ c d x).Chunks,Exps:=(oQ c d x).Exps,Vols:=(oQ c d x).Vols}=some (J4 (E5 c d x)):=aAU hF (tA hsm _)
    rw[h120]
    refine⟨_, ?_,rfl⟩
    unfold C6
    have e2:(E5 c d x).Snaps=(oQ c d x).Snaps.filter λs=> !iL d.Items s:=rfl
    rw[e2]
    by_cases hs:((oQ c d x).Snaps.filter λs=> !iL d.Items s).length < (oQ c d x).Snaps.length
    · rw[if_pos (by simpa using hs),if_pos hs]
      simp only[Option.bind_some,aJ]
      rfl
    · rw[if_neg (by simpa using hs),if_neg hs]
      simp only[aJ]
      rfl
  · have hall:d.Items.all (oP c)=false:=by
      rw[List.all_eq_false]
      refine⟨d.Items[j],List.getElem_mem k1, ?_⟩
      rw[List.getElem?_eq_getElem k1] at k2
      simpa using k2
    rw[k4,hall]
    exact⟨_,rfl,by simpa using k3⟩
theorem N6 {c:aB} {d:aP} {x:aR} (h:Sm c) (hg:Gd c) (hd:Wd d) (gv:gI d.Vol) (hx:c.Vols[d.Vol.toNat]? =some x) (hI:∀i∈d.Items,1≤i.Kind∧i.Kind≤3):Sm (C6 c d x):=by
 have hxb:=hg.v x (List.mem_of_getElem? hx)
 have gf:0≤x.Files∧x.Files≤65535:=by
  unfold oG gW at hxb
  simp only[Bool.and_eq_true,Bool.or_eq_true,decide_eq_true_eq,beq_iff_eq] at hxb
  omega
 have gF:gI (x.Files+1):=⟨by omega,by omega⟩
 have hn:=hd.n
 have hWe:=C8 (p:=x.Pool) gv gF (SB h hg hx) (λi hi=>⟨(hd.it i hi).1,(hd.it i hi).2.1,hI i hi,(hd.it i hi).2.2.1,(hd.it i hi).2.2.2.1,(hd.it i hi).2.2.2.2⟩)
 have hs:=tA (hWe.sm (by omega)) λs=> !iL d.Items s
 unfold C6
 split
 ·exact IQ hs
 ·exact hs
theorem N7 {F:Nat} {c:aB} {d:aP} {x:aR} (hF:1000≤F) (h:Sm c) (hg:Gd c) (hk:d.Kind=3) (hd:Wd d) (gv:gI d.Vol) (h0:0≤d.Vol) (hx:c.Vols[d.Vol.toNat]? =some x):
    DH F c d=some (if oX x d=true then (if d.Items.all (oP c)=true then (if iX (C6 c d x)=true then (C6 c d x,0) else (dJ,1)) else (dJ,8)) else (dJ,1)):=by
  have hk2:jV.find? (λe=>e.1==d.Kind)=some (d.Kind,74):=by rw[hk]; rfl
  have go:∀(e:aB) (n:Int),gO F 74 c d=some (e,n)→(n=0→Sm e)→_:=λe n=>n29 (n:=n) hF h (lJ.2 hg) hk2
  obtain⟨r,hr,hq⟩:=n74 hF h hg hd gv h0 hx
  have e0:gO F 74 c d=(VX F c d).bind λo=>some ({ c with Seq:=o.2.1,Snaps:=o.2.2.1,Chunks:=o.2.2.2.1,Exps:=o.2.2.2.2.1,Vols:=o.2.2.2.2.2},o.1):=by
    unfold gO
    simp only[if_neg (show ¬(74:Nat)=72 by decide),if_neg (show ¬(74:Nat)=73 by decide),if_true]
  rw[hr] at e0
  by_cases c1:oX x d=true
  · rw[if_pos c1] at hq ⊢
    by_cases c2:d.Items.all (oP c)=true
    · rw[if_pos c2] at hq ⊢
      subst hq
      rw[go (C6 c d x) 0 e0 λ_=>N6 h hg hd gv hx λi hi=>by
        unfold oX at c1
        simp only[Bool.and_eq_true,Bool.not_eq_true',List.any_eq_false,Bool.or_eq_true,decide_eq_true_eq,not_or,Int.not_lt] at c1
        exact c1.2 i hi]
      rfl
    · rw[if_neg c2] at hq ⊢
      rw[go _ _ e0 λh=>by rw[hq] at h; cases h]
      simp[hq]
  · rw[if_neg c1] at hq ⊢
    rw[go _ _ e0 λh=>by rw[hq] at h; cases h]
    simp[hq]
open Go.Vm
def yQ (n:Nat) (l:List bI):Prop:=l.length≤n∧gL m7 l
def C9 (n:Nat) (s:aG):Prop:=gI s.Seq∧IN s.Man∧yQ n s.Locs
def lN (n:Nat) (x:aA):Prop:=mD x.Id∧x.Data.length≤300∧gL gB x.Data∧yQ n x.Locs
def HI (n:Nat) (x:aQ):Prop:=gI x.Seq∧gI x.Of∧yQ n x.Locs
structure Md (n m:Nat) (q:Int) (s:List aG) (k:List aA) (e:List aQ) (v:List aR):Prop where
 q:gI q
 sn:s.length≤9
 s:∀x∈s,C9 n x
 kn:k.length≤360
 k:∀x∈k,lN n x
 en:e.length≤m
 e:∀x∈e,HI n x
 vn:v.length≤8
 v:∀x∈v,qE x
theorem yQ.mono {n n':Nat} {l:List bI} (h:yQ n l) (hn:n≤n'):yQ n' l:=⟨Nat.le_trans h.1 hn,h.2⟩
theorem C9.mono {n n':Nat} {x:aG} (h:C9 n x) (hn:n≤n'):C9 n' x:=⟨h.1,h.2.1,h.2.2.mono hn⟩
theorem lN.mono {n n':Nat} {x:aA} (h:lN n x) (hn:n≤n'):lN n' x:=⟨h.1,h.2.1,h.2.2.1,h.2.2.2.mono hn⟩
theorem HI.mono {n n':Nat} {x:aQ} (h:HI n x) (hn:n≤n'):HI n' x:=⟨h.1,h.2.1,h.2.2.mono hn⟩
theorem Md.mono {n m n' m':Nat} {q:Int} {s:List aG} {k:List aA} {e:List aQ} {v:List aR} (h:Md n m q s k e v) (hn:n≤n') (hm:m≤m'):Md n' m' q s k e v:=
 ⟨h.q,h.sn,λx hx=>(h.s x hx).mono hn,h.kn,λx hx=>(h.k x hx).mono hn,Nat.le_trans h.en hm,λx hx=>(h.e x hx).mono hn,h.vn,h.v⟩
theorem Md.sm {n m:Nat} {q:Int} {s:List aG} {k:List aA} {e:List aQ} {v:List aR} (h:Md n m q s k e v) (hn:n≤300) (hm:m≤300):Sm { Seq:=q,Snaps:=s,Chunks:=k,Exps:=e,Vols:=v} where
 g:=⟨h.q,λx hx=>⟨(h.s x hx).1,(h.s x hx).2.1.2.2.2,(h.s x hx).2.2.2⟩,λx hx=>⟨(h.k x hx).1,trivial,(h.k x hx).2.2.1,(h.k x hx).2.2.2.2⟩,λx hx=>⟨(h.e x hx).1,(h.e x hx).2.1,(h.e x hx).2.2.2⟩,h.v⟩
 sn:=Nat.le_trans h.sn (by omega)
 ch:=Nat.le_trans h.kn (by omega)
 ex:=Nat.le_trans h.en hm
 vo:=Nat.le_trans h.vn (by omega)
 sl:=λx hx=>Nat.le_trans (h.s x hx).2.2.1 hn
 cl:=λx hx=>⟨Nat.le_trans (h.k x hx).2.2.2.1 hn,(h.k x hx).2.1⟩
 el:=λx hx=>Nat.le_trans (h.e x hx).2.2.1 hn
 man:=λx hx=>⟨(h.s x hx).2.1.1,(h.s x hx).2.1.2.1,(h.s x hx).2.1.2.2.1⟩
theorem uU {c:aB} {l:List bI} (h:iZ c l=true):l.length≤200:=by
 unfold iZ at h
 simp only[Bool.and_eq_true,decide_eq_true_eq] at h
 exact h.1
theorem Ok.md {c:aB} (h:Ok c):Md 200 200 c.Seq c.Snaps c.Chunks c.Exps c.Vols where
 q:=h.sm.g.1
 sn:=Nat.le_trans h.rg.sn (by omega)
 s:=λx hx=>⟨(h.sm.g.2.1 x hx).1,⟨(h.sm.man x hx).1,(h.sm.man x hx).2.1,(h.sm.man x hx).2.2,(h.sm.g.2.1 x hx).2.1⟩,uU (h.rg.s x hx).2.2.2,(h.sm.g.2.1 x hx).2.2⟩
 kn:=Nat.le_trans h.rg.ch (by omega)
 k:=λx hx=>⟨(h.sm.g.2.2.1 x hx).1,(h.sm.cl x hx).2,(h.sm.g.2.2.1 x hx).2.2.1,uU (h.rg.k x hx).2,(h.sm.g.2.2.1 x hx).2.2.2⟩
 en:=h.rg.ex
 e:=λx hx=>⟨(h.sm.g.2.2.2.1 x hx).1,(h.sm.g.2.2.2.1 x hx).2.1,uU (h.rg.e x hx).2.2.2.2,(h.sm.g.2.2.2.1 x hx).2.2⟩
 vn:=h.rg.vo
 v:=h.sm.g.2.2.2.2
theorem t64 {F:Nat} {c:aB} {d:bL} (hF:1000≤F) (hl:c.Chunks.length < 1000):T (OS F c d) λn=>n < c.Chunks.length:=by
 unfold OS
 refine .loop (λi=>0≤i∧i≤c.Chunks.length) (λi=>(c.Chunks.length - i).toNat) (λ_=>True) (by omega) (by omega) (λi hi=> ?_) (λi _=>.some (by omega))
 unfold pI
 refine .ite (λhc=> ?_) λ_=>.brk trivial
 have hc:=of_decide_eq_true hc
 rw[wr (by omega) (by omega)]
 exact .ix (by omega) (by omega) λx _ _=>.ite (λ_=>.ret hc) λ_=>.go (by omega)
theorem aGY {F:Nat} {a b:bI}:T (NK F a b) λ_=>True:=by
 unfold NK
 exact .ite (λ_=>.some trivial) λ_=>.ite (λ_=>.some trivial) λ_=>.ite (λ_=>.some trivial) λ_=>.some trivial
theorem UU {F n:Nat} {l:List bI} {x:bI} (hF:1000≤F) (h:yQ n l) (hn:n≤300) (hx:m7 x):T (HA F l x) λr=>yQ (n+1) r:=by
 have h1:=h.1
 unfold HA
 refine T.scan (by omega) (by omega) (λ_=>rfl) (λy _=>.bind _ aGY λ_ _=>.brk trivial) λr hr=> ?_
 refine .ins hr (by omega) λz z1 z2=>.some ⟨by omega,λy hy=> ?_⟩
 rcases z2 y hy with h2 | rfl
 ·exact h.2 y h2
 ·exact hx
theorem UV {F n:Nat} {l:List bI} {v:Int} (hF:1000≤F) (h:yQ n l) (hn:n≤300):T (HB F l v) λr=>yQ n r:=by
 have h1:=h.1
 unfold HB
 refine .loop (λs=>0≤s.2∧s.2≤l.length∧(s.1.length:Int)≤s.2∧gL m7 s.1) (λs=>(l.length - s.2).toNat) (λs=>yQ n s.1) (by simp; omega) ⟨by simp,by simp,by simp,λ_ h=>by simp at h⟩ (λs hs=> ?_) (λs hs=>.some hs)
 obtain⟨q,i⟩:=s
 simp only at hs
 unfold vX
 refine .ite (λhc=> ?_) λ_=>.brk ⟨by simp only; omega,hs.2.2.2⟩
 have hc:=of_decide_eq_true hc
 simp only at hc
 rw[wr (n:=i+1) (by omega) (by omega)]
 refine .ix (by omega) (by omega) λx _ hx=>.after (.ite (λ_=>.ix (by omega) (by omega) λy _ hy=>.app (by simp; omega) (.brk (.go ?_))) λ_=>.brk (.go ⟨⟨by simp only; omega,by simp only; omega,by simp only; omega,hs.2.2.2⟩,by simp only; omega⟩))
 refine⟨⟨by simp only; omega,by simp only; omega,by simp; omega,λz hz=> ?_⟩,by simp only; omega⟩
 rcases List.mem_append.1 hz with h2 | h2
 ·exact hs.2.2.2 z h2
 ·rw[List.mem_singleton] at h2
  exact h2 ▸ h.2 y hy
theorem UW {F:Nat} {c:aB} {i a b:Int}:T (HC F c i a b) λr=>r=true→0≤i∧i < c.Vols.length:=by
 unfold HC
 refine .after (.ite (λh0=>.ite (λh1=> ?_) λ_=>.brk (.some λh=>by cases h)) λ_=>.brk (.some λh=>by cases h))
 have h0:=of_decide_eq_true h0
 have h1:=of_decide_eq_true h1
 exact .ix (by omega) (by omega) λx _ hx=>.ite (λ_=>.brk (.some λ_=>⟨h0,h1⟩)) λ_=>.ix (by omega) (by omega) λy _ _=>.brk (.some λ_=>⟨h0,h1⟩)
theorem aBJ {F n m:Nat} {q:Int} {s:List aG} {k:List aA} {e:List aQ} {v:List aR} {z:Int} (hF:1000≤F) (h:Md n m q s k e v) (hn:n≤300) (hm:m≤300):
    T (J5 F { Seq:=q,Snaps:=s,Chunks:=k,Exps:=e,Vols:=v} z) λr=>Md n m q r.2.1 r.2.2 e v:=by
  have h1:=h.sn
  have h2:=h.kn
  unfold J5
  refine .loop (λs'=>0≤s'.2∧s'.2≤s.length∧(s'.1.length:Int)≤s'.2∧∀x∈s'.1,C9 n x) (λs'=>(s.length - s'.2).toNat) (λs'=>s'.1.length≤9∧∀x∈s'.1,C9 n x) (by simp; omega) (by simp) (λs' hs=> ?_) (λs' hs=> ?_)
  · obtain⟨a,i⟩:=s'
    simp only at hs
    unfold vY
    refine .ite (λhc=> ?_) λ_=>.brk ⟨by simp only; omega,hs.2.2.2⟩
    have hc:=of_decide_eq_true hc
    simp only at hc
    rw[wr (n:=i+1) (by omega) (by omega)]
    refine .ix (by omega) (by simp only; omega) λx _ hx=>.after (.ite (λ_=>.ix (by omega) (by simp only; omega) λy _ hy=>.app (by simp; omega) (.brk (.go ?_))) λ_=>.brk (.go ⟨⟨by simp only; omega,by simp only; omega,by simp only; omega,hs.2.2.2⟩,by simp only; omega⟩))
    refine⟨⟨by simp only; omega,by simp only; omega,by simp; omega,λw hw=> ?_⟩,by simp only; omega⟩
    rcases List.mem_append.1 hw with h3 | h3
    · exact hs.2.2.2 w h3
    · rw[List.mem_singleton] at h3
      exact h3 ▸ h.s y hy
  · obtain⟨a,i0⟩:=s'
    have M1:Md n m q a k e v:=⟨h.q,hs.1,hs.2,h.kn,h.k,h.en,h.e,h.vn,h.v⟩
    refine .ite (λ_=>.some h) λ_=> ?_
    refine .loop (λs'=>0≤s'.2∧s'.2≤k.length∧(s'.1.length:Int)≤s'.2∧∀x∈s'.1,lN n x) (λs'=>(k.length - s'.2).toNat) (λs'=>s'.1.length≤360∧∀x∈s'.1,lN n x) (by simp; omega) (by simp) (λs' hs2=> ?_) (λs' hs2=>.some ⟨h.q,hs.1,hs.2,hs2.1,hs2.2,h.en,h.e,h.vn,h.v⟩)
    obtain⟨b,i⟩:=s'
    simp only at hs2
    unfold vZ
    refine .ite (λhc=> ?_) λ_=>.brk ⟨by simp only; omega,hs2.2.2.2⟩
    have hc:=of_decide_eq_true hc
    simp only at hc
    rw[wr (n:=i+1) (by omega) (by omega)]
    have put:∀y:aA,lN n y→T ((app b ([y]:List aA)).bind λz490=>some (.brk z490):Option (Lp (List aA) (Lp (List aA×Int) (Bool×List aG×List aA))))
        (L3 (λ_=>False) (λb':List aA=>b'.length≤b.length+1∧∀x∈b',lN n x) (λb':Lp (List aA×Int) (Bool×List aG×List aA)=>∃s,b'= .brk s∧s.1.length≤360∧∀x∈s.1,lN n x)):=λy hy=>by
      refine .app (by simp; omega) (.brk ⟨by simp,λx hx=> ?_⟩)
      rcases List.mem_append.1 hx with h3 | h3
      · exact hs2.2.2.2 x h3
      · rw[List.mem_singleton] at h3
        exact h3 ▸ hy
    refine .after (T.mono (P:=L3 (λ_=>False) (λb':List aA=>b'.length≤b.length+1∧∀x∈b',lN n x) (λb':Lp (List aA×Int) (Bool×List aG×List aA)=>∃s,b'= .brk s∧s.1.length≤360∧∀x∈s.1,lN n x)) (.ix (by omega) (by simp only; omega) λx _ hx=>.bindEq (m65 hF (M1.sm hn hm)) (.after ?_)) λj hj=> ?_)
    · have gx:=h.k x hx
      refine .ite (λ_=>.ite (λ_=>.ret (show b.length≤b.length+1∧_ from⟨by omega,hs2.2.2.2⟩)) λ_=>.brk (put _ ⟨gx.1,by simp,λ_ h=>by simp at h,gx.2.2.2⟩)) λ_=>.brk (put _ gx)
    · cases j with
      | go s=>exact hj
      | ret s=>
        obtain⟨s',rfl,h3⟩:=hj
        exact h3
      | brk b'=>
        have:=hj.1
        exact .go ⟨⟨by simp only; omega,by simp only; omega,by simp only; omega,hj.2⟩,by simp only; omega⟩
open Go.Vm
section
variable {n m:Nat} {q:Int} {s:List aG} {k:List aA} {e:List aQ} {v:List aR}
theorem Md.setK (h:Md n m q s k e v) {i:Nat} {x:aA} (hx:lN n x):Md n m q s (k.set i x) e v:=
 ⟨h.q,h.sn,h.s,by simp[h.kn],λy hy=>(kG hy).elim (h.k y) λe=>e ▸ hx,h.en,h.e,h.vn,h.v⟩
theorem Md.setS (h:Md n m q s k e v) {i:Nat} {x:aG} (hx:C9 n x):Md n m q (s.set i x) k e v:=
 ⟨h.q,by simp[h.sn],λy hy=>(kG hy).elim (h.s y) λe=>e ▸ hx,h.kn,h.k,h.en,h.e,h.vn,h.v⟩
theorem Md.setE (h:Md n m q s k e v) {i:Nat} {x:aQ} (hx:HI n x):Md n m q s k (e.set i x) v:=
 ⟨h.q,h.sn,h.s,h.kn,h.k,by simp[h.en],λy hy=>(kG hy).elim (h.e y) λe=>e ▸ hx,h.vn,h.v⟩
theorem Md.setV (h:Md n m q s k e v) {i:Nat} {x:aR} (hx:qE x):Md n m q s k e (v.set i x):=
 ⟨h.q,h.sn,h.s,h.kn,h.k,h.en,h.e,by simp[h.vn],λy hy=>(kG hy).elim (h.v y) λe=>e ▸ hx⟩
end
theorem aGZ {F n m:Nat} {q:Int} {s:List aG} {k:List aA} {e:List aQ} {v:List aR} {it:bE} {lc:bI} (hF:1000≤F) (h:Md n m q s k e v) (hn:n < 300) (hm:m < 300) (hl:m7 lc) (h1:gI it.Seq) (h2:gI it.Of):
    T (NO F { Seq:=q,Snaps:=s,Chunks:=k,Exps:=e,Vols:=v} it lc) λr=>Md (n+1) (m+1) r.2.1 r.2.2.1 r.2.2.2.1 r.2.2.2.2 v:=by
  have hsn:=h.sn
  have hkn:=h.kn
  have hen:=h.en
  have H:Md (n+1) (m+1) q s k e v:=h.mono (by omega) (by omega)
  have H1:Md (n+1) m q s k e v:=h.mono (by omega) (by omega)
  unfold NO
  refine .after (T.mono (P:=L3 (λ_=>False) (λj=>Md (n+1) (m+1) j.1 s j.2.1 j.2.2 v) λr=>Md (n+1) (m+1) r.2.1 r.2.2.1 r.2.2.2.1 r.2.2.2.2 v) (.ite (λ_=> ?_) λ_=>.ite (λ_=> ?_) λ_=> ?_) λj hj=> ?_)
  · refine .bind _ (t64 hF (by simp only; omega)) λy hy=>.ite (λ_=>.ret H) λhc=> ?_
    have hc:¬(y < 0):=by simpa using hc
    simp only at hy
    refine .ix (by omega) (by simp only; omega) λx _ hx=>.bind _ (UU hF (h.k x hx).2.2.2 (by omega) hl) λz hz=>.ix (by omega) (by simp only; omega) λx2 _ hx2=>.brk ?_
    exact H.setK ⟨(h.k x2 hx2).1,(h.k x2 hx2).2.1,(h.k x2 hx2).2.2.1,hz⟩
  · refine .loop (λi=>0≤i∧i≤s.length) (λi=>(s.length - i).toNat) (λ_=>True) (by omega) (by omega) (λi hi=> ?_) (λ_ _=>.ret H)
    unfold v8
    refine .ite (λhc=> ?_) λ_=>.brk trivial
    have hc:=of_decide_eq_true hc
    simp only at hc
    rw[wr (n:=i+1) (by omega) (by omega)]
    refine .ix (by omega) (by simp only; omega) λx _ hx=>.ite (λ_=> ?_) λ_=>.go (by omega)
    refine .ix (by omega) (by simp only; omega) λx _ hx=>.bind _ (UU hF (h.s x hx).2.2 (by omega) hl) λz hz=>.ix (by omega) (by simp only; omega) λx2 _ hx2=>.ret ?_
    exact H.setS (x:= { x2 with Locs:=z}) ⟨(h.s x2 hx2).1,(h.s x2 hx2).2.1,hz⟩
  · refine T.scan (by simp only; omega) (by simp only; omega) (λ_=>rfl) (λy _=>.brk trivial) λr hr=> ?_
    simp only at hr
    have rest:T ((slc e 0 r).bind λx441=>(app ([]:List aQ) x441).bind λz443=>(app z443 ([({ Seq:=it.Seq,Of:=it.Of,Locs:=([lc]:List bI)}:aQ)]:List aQ)).bind λz451=>(slc e r (e).length).bind λx459=>(app z451 x459).bind λz461=>after (if (decide (q≤it.Seq))=true then (some (.brk (decide (it.Seq < 4611686018427387904)))) else some (.brk false):Option (Lp (Bool) (Lp (Int×(List aA)×(List aQ)) (Bool×Int×(List aG)×(List aA)×(List aQ))))) λj471=>after (if j471=true then (some (.brk (IntKind.wrap .i64 (it.Seq+1)))) else some (.brk q):Option (Lp (Int) (Lp (Int×(List aA)×(List aQ)) (Bool×Int×(List aG)×(List aA)×(List aQ))))) λj476=>some (.brk (j476,k,z461)))
        (L3 (λ_=>False) (λj=>Md (n+1) (m+1) j.1 s j.2.1 j.2.2 v) λr=>Md (n+1) (m+1) r.2.1 r.2.2.1 r.2.2.2.1 r.2.2.2.2 v):=by
      refine .ins (by omega) (by omega) λz z1 z2=> ?_
      have fin:∀q':Int,gI q'→Md (n+1) (m+1) q' s k z v:=λq' hq=>⟨hq,H.sn,H.s,H.kn,H.k,by omega,λx hx=>by
        rcases z2 x hx with h3 | rfl
        · exact H.e x h3
        · exact⟨h1,h2,by simp,λy hy=>by rw[List.mem_singleton] at hy; exact hy ▸ hl⟩,H.vn,H.v⟩
      have fin2:∀b:Bool,T (after (if b=true then (some (.brk (IntKind.wrap .i64 (it.Seq+1)))) else some (.brk q):Option (Lp (Int) (Lp (Int×(List aA)×(List aQ)) (Bool×Int×(List aG)×(List aA)×(List aQ))))) λj476=>some (.brk (j476,k,z)))
          (L3 (λ_=>False) (λj=>Md (n+1) (m+1) j.1 s j.2.1 j.2.2 v) λr=>Md (n+1) (m+1) r.2.1 r.2.2.1 r.2.2.2.1 r.2.2.2.2 v):=λb=>.after (.ite (λ_=>.brk (.brk (fin _ (yJ _)))) λ_=>.brk (.brk (fin _ h.q)))
      exact .after (.ite (λ_=>.brk (fin2 _)) λ_=>.brk (fin2 _))
    refine .after (.ite (λhc=> ?_) λ_=>.brk (T.ite (λh=>by cases h) λ_=>rest))
    have hc:=of_decide_eq_true hc
    simp only at hc
    refine .ix (by omega) (by simp only; omega) λx _ hx=>.brk (T.ite (λ_=> ?_) λ_=>rest)
    refine .ix (by omega) (by simp only; omega) λx _ hx=>.bind _ (UU hF (h.e x hx).2.2 (by omega) hl) λz hz=>.ix (by omega) (by simp only; omega) λx2 _ hx2=>.ret ?_
    exact H.setE (x:= { x2 with Locs:=z}) ⟨(h.e x2 hx2).1,(h.e x2 hx2).2.1,hz⟩
  · cases j with
    | go _=>exact hj
    | brk j=>exact .some hj
    | ret r=>exact hj
theorem aG0 {F n:Nat} {k:List aA} {x:aA} (hF:1000≤F) (hk:k.length≤390) (h:∀y∈k,lN n y) (hx:lN n x) (hn:n≤300):T (EW F k x) λr=>r.length≤k.length+1∧∀y∈r,lN n y:=by
 unfold EW
 refine T.scan (by omega) (by omega) (λ_=>rfl) (λy hy=>.bindEq (m60 hF (h y hy).1 hx.1) (.brk trivial)) λr hr=> ?_
 have rest:T ((slc k 0 r).bind λx104=>(app ([]:List aA) x104).bind λz106=>(app z106 ([x]:List aA)).bind λz114=>(slc k r (k).length).bind λx122=>(app z114 x122).bind λz124=>some z124) λr=>r.length≤k.length+1∧∀y∈r,lN n y:=
  .ins hr (by omega) λz z1 z2=>.some ⟨by omega,λy hy=>by
   rcases z2 y hy with h3 | rfl
   ·exact h y h3
   ·exact hx⟩
 refine .after (.ite (λhc=> ?_) λ_=>.brk (T.ite (λh=>by cases h) λ_=>rest))
 have hc:=of_decide_eq_true hc
 refine .ix (by omega) (by omega) λy _ hy=>.brk (T.ite (λ_=> ?_) λ_=>rest)
 rw[aF7]
 refine .bindEq (m54 hF (by omega) λy hy=>⟨Nat.le_trans (h y hy).2.2.2.1 hn,(h y hy).2.1⟩) (.bindEq (QD (by have:=hx.2.1; omega)) (.ix (by omega) (by omega) λy2 _ hy2=>.ix (by omega) (by simp; omega) λy3 _ hy3=>.some ⟨by simp,λw hw=> ?_⟩))
 have g2:=h y2 hy2
 have g2':lN n { y2 with Staged:=true}:=g2
 have g3:lN n y3:=by
  rcases kG hy3 with h4 | rfl
  ·exact h y3 h4
  ·exact g2'
 rcases kG hw with h3 | rfl
 ·rcases kG h3 with h4 | rfl
  ·exact h w h4
  ·exact g2'
 ·exact⟨g3.1,hx.2.1,hx.2.2.1,g3.2.2.2⟩
theorem aG1 {F:Nat} {c:aP} (hF:1000≤F) (h:J8 c):T (V0 F c) J8:=by
 unfold V0
 have h1:=h.cn
 have h2:=h.it
 refine .bindEq (m52 hF h.man.2.1 λp hp=>(h.man.2.2.1 p hp).2) (.bindEq (m53 (by rw[h.locs]; simp)) (.bindEq (m54 hF (by simp only; omega) λy hy=>⟨by rw[(h.ch y hy).2.2.2]; simp,(h.ch y hy).2.1⟩) (.app (by simp; omega) (.some ?_))))
 exact⟨h.seq,h.man,h.locs,h.cn,h.ch,h.sq,h.vol,by simpa using h.it,by simpa using h.iti⟩
end Go.Proofs.YtbbifdfldpfphaaGreat
