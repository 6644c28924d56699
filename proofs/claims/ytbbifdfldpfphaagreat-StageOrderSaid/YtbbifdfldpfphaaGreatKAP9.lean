import Derived.Test.YtbbifdfldpfphaaGreatKAP5
import Derived.Test.YtbbifdfldpfphaaGreatKAP8
import Derived.Test.YtbbifdfldpfphaaGreatKAP7
import Derived.Test.YtbbifdfldpfphaaGreatKAP6
import Derived.Test.YtbbifdfldpfphaaGreatKAP3
set_option linter.unusedSimpArgs false
set_option linter.unusedVariables false
set_option maxHeartbeats 4000000
set_option maxRecDepth 100000
open Bool(and_eq_true false_eq_true or_eq_true)
open ByteArray(empty)
open Int(ofNat_lt toNat_natCast)
open Go.IntKind(wrap)
open List(any_eq_false any_eq_true any_map filter_append filter_cons filter_eq_nil_iff filter_eq_self filter_sublist find?_eq_none find?_some getElem?_eq_getElem getElem_drop getElem_mem getElem_of_mem getElem_take length_append length_cons length_drop length_filter_le length_nil length_take map map_id mem_append mem_cons mem_cons_of_mem mem_cons_self mem_filter mem_map mem_of_getElem? mem_of_mem_drop mem_of_mem_take mem_singleton nil_append set_set take_append_drop take_of_length_le)
open Nat(le_refl le_trans lt_or_ge lt_trichotomy zero_le)
open Option(any_some bind_some)
open Go.Proofs.Tryz(prog)
namespace Go.Proofs.YtbbifdfldpfphaaGreat
open Go.Vm
def DC (m:Nat) (p0:List iV) (q0:Int) (q1:Int):Option (Lp (Int) (Lp (Int) (Bool))):=
 (ix p0 q0).bind λx0=>if decide (q1 < (x0.Tree.length:Int)) then (after ((ix p0 q0).bind λx1=>(ix x1.Tree q1).bind λx2=>if decide (300 < (x2.Data.length:Int)) then Bk true else (ix p0 q0).bind λx3=>(ix x3.Tree q1).bind λx4=>Bk (decide (50 < (x4.Path.size:Int))):Option (Lp (Bool) (Lp (Int) (Lp (Int) (Bool))))) λj0=>if j0 then (Rk (.ret true)) else Gk (wrap .i64 (q1+1))) else Bk q1
def DD (m:Nat) (p0:List iV) (q0:Int):Option (Lp (Int) (Bool)):=
 after (if decide (q0 < (p0.length:Int)) then (Bk (decide (q0 < 30))) else Bk false:Option (Lp (Bool) (Lp (Int) (Bool)))) λj0=>if j0 then (after ((ix p0 q0).bind λx0=>if decide (300 < (x0.Pick.length:Int)) then Bk true else (ix p0 q0).bind λx1=>Bk (decide (10 < (x1.Tree.length:Int))):Option (Lp (Bool) (Lp (Int) (Bool)))) λj1=>if j1 then Rk true else after (aR (λs=>DC m p0 q0 s) m 0) λr0=>Gk (wrap .i64 (q0+1))) else Bk q0
def WY (m:Nat) (p0:List iV):Option (Bool):=
 if decide (120 < (p0.length:Int)) then (some true) else after (aR (λs=>DD m p0 s) m 0) λr0=>some false
theorem W14 {u:Nat} {p0:List iV} {o:Bool} (h:aF) (m:WY u p0=some o):
 aM prog 14 [.sl none 5 (map eF p0)] h (λr h'=>r= .sc (.bool o)/\h'=h):=by
 refine fQ 68 [.tmp 2] Tryz.func14 rfl rfl rfl rfl ?_
 unfold WY at m
 refine v (v (cU RC rfl (v ?_)))
 apply vi m<;>intro c4 m
 refine v (v ?_)
 obtain rfl:=eR m
 exact eH rfl
 refine v (v (jS m (σ:=Int) (λs=>[]) (λs=>.c 0 (.sl none 5 (map eF p0)) (.c 3 (nZ s) .nil)) (lx (.k2 .nil)) ?_ ?_))
 rintro _ q0 x m
 replace m:DD u p0 q0=some x:=m
 unfold DD at m
 refine vs (vs (fO m (σ:=Bool) (λs=>[]) (λs=>.c 0 (.sl none 5 (map eF p0)) (.c 3 (nZ q0) (.c 15 (.sc (.bool s)) .nil))) (λx m=> ?_) ?_))
 refine v (cU RC rfl ?_)
 apply vi m<;>intro b0 m
 rw[b0]
 exact hH m
 rw[b0]
 exact hH m
 rintro _ j0 m
 refine v ?_
 apply vi m<;>intro c0 m
 refine v (v (vs (vs (fO m (σ:=Bool) (λs=>[]) (λs=>.c 0 (.sl none 5 (map eF p0)) (.c 3 (nZ q0) (.c 33 (.sc (.bool s)) .nil))) (λx m=> ?_) ?_))))
 refine v (vx m EF rfl rfl λ_ _ m=>cU aAA rfl ?_)
 apply vi m<;>intro b1 m
 rw[b1]
 exact hH m
 rw[b1]
 exact vx m EF rfl rfl λ_ _ m=>cU z8 rfl (hH m)
 rintro _ j1 m
 refine v ?_
 apply vi m<;>intro c1 m
 refine v (v (fY m λm=> ?_))
 obtain rfl:=eR m
 exact eH rfl
 refine v (v (jS m (σ:=Int) (λs=>[]) (λs=>.c 0 (.sl none 5 (map eF p0)) (.c 3 (nZ q0) (.c 4 (nZ s) .nil))) (lx (.k3 .nil)) ?_ ?_))
 rintro _ q1 x m
 replace m:DC u p0 q0 q1=some x:=m
 unfold DC at m
 refine v (vx m EF rfl rfl λ_ _ m=>cU z8 rfl (v ?_))
 apply vi m<;>intro c2 m
 refine v (v (vs (fO m (σ:=Bool) (λs=>[]) (λs=>.c 0 (.sl none 5 (map eF p0)) (.c 3 (nZ q0) (.c 4 (nZ q1) (.c 67 (.sc (.bool s)) .nil)))) (λx m=> ?_) ?_)))
 refine v (vx m EF rfl rfl λ_ _ m=>vx m pI rfl rfl λ_ _ m=>cU nR rfl ?_)
 apply vi m<;>intro b2 m
 rw[b2]
 exact fZ m
 rw[b2]
 exact vx m EF rfl rfl λ_ _ m=>vx m pI rfl rfl λ_ _ m=>bU (rD U7 rfl) (fZ m)
 rintro _ j2 m
 refine v ?_
 apply vi m<;>intro c3 m
 refine v (v (fY m λm=>fY m λm=> ?_))
 obtain rfl:=eR m
 exact eH rfl
 exact v (v (hH m))
 exact v (GT m)
 rintro _ r0 m
 exact v (wQ m)
 exact v (LH m)
 rintro _ r1 m
 refine v (v ?_)
 obtain rfl:=eR m
 exact eH rfl
theorem aC6:aP prog 14=true:=by kernel_rfl
def DE (m:Nat) (p0:List Int) (q0:List Int) (q1:Int):Option (Lp ((List Int)×Int) ((List Int))):=
 after (if decide (q1 < (p0.length:Int)) then (Bk (decide (q1 < 8))) else Bk false:Option (Lp (Bool) (Lp ((List Int)×Int) ((List Int))))) λj0=>if j0 then ((ix p0 q1).bind λx0=>(app q0 ([bZ .and .i64 x0 1]:List Int)).bind λz0=>Gk (z0,wrap .i64 (q1+1))) else Bk (q0,q1)
def YN (m:Nat) (p0:List Int):Option ((List Int)):=
 after (aR (λs=>DE m p0 s.1 s.2) m ([],0)) λ⟨r0,r1⟩=>after (if ((r0.length:Int)==0)then (Bk ([0]:List Int)) else Bk r0:Option (Lp ((List Int)) ((List Int)))) λj0=>some j0
theorem W16 {w:Nat} {p0:List Int} {o:(List Int)} (h:aF) (m:YN w p0=some o):
 aM prog 16 [.sl none 1 (map eO p0)] h (λr h'=>r= .sl none 1 (map eO o)/\h'=h):=by
 refine fQ 28 [.tmp 2] Tryz.func16 rfl rfl rfl rfl ?_
 unfold YN at m
 refine v (v (v (pM (z6 (.tok 3 1 (([]:List Int).length*1)) 3 (ow none 1 (map eO [])) (gD _ _)) (nU m (σ:=(List Int)×Int) (τ:=Option bT) (λg s=>[(g,.tok 3 1 ((s.1:List Int).length*1))]) (λg s=>(g=none->s.1= [])) (λg s=>.c 0 (.sl none 1 (map eO p0)) (.c 3 (ow g 1 (map eO s.1)) (.c 4 (nZ s.2) .nil))) none (λ_=>rfl) (lx (.k3 .nil)) ?_ ?_))))
 rintro tg0 ⟨q0,q1⟩ x t0 m
 replace m:DE w p0 q0 q1=some x:=m
 unfold DE at m
 refine vs (vs (fO m (σ:=Bool) (λs=>[(tg0,.tok 3 1 ((q0:List Int).length*1))]) (λs=>.c 0 (.sl none 1 (map eO p0)) (.c 3 (ow tg0 1 (map eO q0)) (.c 4 (nZ q1) (.c 12 (.sc (.bool s)) .nil)))) (λx m=> ?_) ?_))
 refine v (cU J4 rfl ?_)
 apply vi m<;>intro b0 m
 rw[b0]
 exact fZ m
 rw[b0]
 exact fZ m
 rintro _ j0 m
 refine v ?_
 apply vi m<;>intro c0 m
 refine v (v (v (vx m U8 rfl rfl λx0 _ m=>bU (dX (map eO ([bZ .and .i64 x0 1]:List Int)) ML rfl rfl rfl rfl) ?_)))
 obtain⟨z0,Z0,m⟩:=aD m
 exact ve λu=>fC (c:=eO) 0 Z0 ML rfl rfl rfl t0 u rfl λtg1 t1 K0=>qk K0 rfl (v (eG m tg1 t1 (lx (.k3 .nil))))
 exact v (lR m tg0 t0 (lx (.k3 .nil)))
 rintro tg2 ⟨r0,r1⟩ t2 m
 refine v (bU (u0 J4 t2 rfl) (oI m (σ:=(List Int)) (τ:=Option bT) (λg s=>[(g,.tok 3 1 ((s:List Int).length*1))]) (λg s=>(g=none->s= [])) (λg s=>.c 3 (ow g 1 (map eO s)) .nil) (λx m=> ?_) ?_))
 refine v ?_
 apply vi m<;>intro c1 m
 exact v (ve λu=>L7 (c:=eO) ([0]:List Int) u ML rfl rfl rfl rfl λtg3 t3 K1=>qk K1 rfl (eG m tg3 t3 (mK [0] rfl rfl (.cons (bD.refl _ _) .nil))))
 exact v (eG m tg2 t2 (lx (.cons (bD.refl _ _) .nil)))
 rintro tg4 j1 t4 m
 refine v (v ?_)
 obtain rfl:=eR m
 exact vr λu=>dW.of1 (.inl rfl) (gQ _ _ (ow _ _ _) rfl) (aU (List.nil_sublist _) u).1 ((dU _ 0 t4 u rfl)) ⟨rfl,rfl⟩
theorem aC7:aP prog 16=true:=by kernel_rfl
def DF (m:Nat) (p1:List iV) (q0:aA) (q1:Int):Option (Lp (aA×Int) (aA)):=
 after (if decide (q1 < (p1.length:Int)) then (Bk (decide (q1 < 30))) else Bk false:Option (Lp (Bool) (Lp (aA×Int) (aA)))) λj0=>if j0 then ((ix p1 q1).bind λx0=>(M35 m q0 x0).bind λy0=>after (if y0.2 then ((FE m q0 y0.1).bind λy1=>after (if (y1.2==0)then Bk y1.1 else Bk q0:Option (Lp (aA) (Lp (aA) (Lp (aA×Int) (aA))))) λj1=>Bk j1) else Bk q0:Option (Lp (aA) (Lp (aA×Int) (aA)))) λj2=>Gk (j2,wrap .i64 (q1+1))) else Bk (q0,q1)
def YO (m:Nat) (p0:List Int) (p1:List iV):Option (aA):=
 (M33 m p0).bind λy6=>after (aR (λs=>DF m p1 s.1 s.2) m (y6,0)) λ⟨r0,r1⟩=>some r0
theorem W15 {w:Nat} {p0:List Int} {p1:List iV} {o:aA} (h:aF) (m:YO w p0 p1=some o):
 aM prog 15 [.sl none 1 (map eO p0),.sl none 5 (map eF p1)] h (λr h'=>r= .agg (aC o)/\h'=h):=by
 refine fQ 43 [.cell 4 30] Tryz.func15 rfl rfl rfl rfl ?_
 unfold YO at m
 refine v (ve λu=>bG (jF) u sP rfl rfl λk2 K3=>qk K3 rfl (v (vk W33 aG9 m rfl rfl λy6 m=>ve λu=>bG (jF) u sP rfl rfl λk8 K9=>qk K9 rfl (ve λu=>aL 0 (aC y6) u rfl rfl rfl rfl nB rfl rfl λK0=>qk K0 rfl (v (jS m (σ:=aA×Int) (λs=>[(some k8,.obj 30 (aC s.1)),(some k2,.obj 30 (jF))]) (λs=>.c 1 (.sl none 5 (map eF p1)) (.c 4 (.ptr k2 0) (.c 5 (.ptr k8 0) (.c 6 (nZ s.2) .nil)))) (lx (.k4 .nil)) ?_ ?_))))))
 rintro _ ⟨q0,q1⟩ x m
 replace m:DF w p1 q0 q1=some x:=m
 unfold DF at m
 refine vs (vs (fO m (σ:=Bool) (λs=>[(some k8,.obj 30 (aC q0)),(some k2,.obj 30 (jF))]) (λs=>.c 1 (.sl none 5 (map eF p1)) (.c 4 (.ptr k2 0) (.c 5 (.ptr k8 0) (.c 6 (nZ q1) (.c 20 (.sc (.bool s)) .nil))))) (λx m=> ?_) ?_))
 refine v (cU RC rfl ?_)
 apply vi m<;>intro b0 m
 rw[b0]
 exact kN m
 rw[b0]
 exact kN m
 rintro _ j0 m
 refine v ?_
 apply vi m<;>intro c0 m
 refine v (v (v (vz [(1000000,some k8,.obj 30 (aC q0))] mixed (λu=>⟨λ_=>aO 0 u rfl,trivial⟩) λu=>zL 0 0 (.agg (aC q0)) rfl dC rfl rfl rfl (zC 1 rfl (fJ (.sl _ _ _) rfl) (zI 2 rfl rfl ?_)))))
 obtain⟨x0,X0,m⟩:=aD m
 refine zC 3 rfl (lV X0 EF rfl rfl) (zC 4 rfl (l8 (.agg (eF x0)) aAC rfl rfl) ?_)
 obtain⟨y0,Y0,m⟩:=aD m
 refine zC 5 rfl (bV (W35 _ Y0) rfl aIL rfl) (zC 6 rfl (fJ (.tup _) rfl) (zC 7 rfl (QW (.agg _) rfl rfl) (zC 8 rfl (QW (.sc (.bool _)) rfl rfl) (zE 9 rfl (bG (zS) u RG rfl rfl λk155 K1=>⟨⟨λ_=>aO 1 K1 rfl,trivial⟩, ?_⟩)))))
 refine zE 10 rfl (aL 0 (aJ y0.1) K1 rfl rfl rfl rfl yA rfl rfl λK2=>⟨⟨λ_=>aO 1 K2 rfl,trivial⟩, ?_⟩)
 refine zC 11 rfl (iC (.sc (.bool _)) rfl) (zX (qk (f:=.c 8 _ (.c 7 _ (.c 31 _ (.c 30 _ (.c 23 _ (fq6 29 _ _ _ _ _ _ _)))))) K2 rfl (v (fO m (σ:=aA) (λs=>[(some k155,.obj 62 (aJ y0.1)),(some k8,.obj 30 (aC s)),(some k2,.obj 30 (jF))]) (λs=>.c 1 (.sl none 5 (map eF p1)) (.c 4 (.ptr k2 0) (.c 5 (.ptr k8 0) (.c 6 (nZ q1) .nil)))) (λx m=> ?_) ?_))))
 refine v ?_
 apply vi m<;>intro c1 m
 refine v (vl 1 (.agg (aC q0)) dC rfl rfl rfl (vl 0 (.agg (aJ y0.1)) sS rfl rfl rfl (vk W36 aID m rfl rfl λy1 m=>ve λu=>bG (jF) u sP rfl rfl λk180 K4=>qk K4 rfl (ve λu=>aL 0 (aC y1.1) u rfl rfl rfl rfl nB rfl rfl λK5=>qk K5 rfl (v (fO m (σ:=aA) (λs=>[(some k180,.obj 30 (aC y1.1)),(some k155,.obj 62 (aJ y0.1)),(some k8,.obj 30 (aC s)),(some k2,.obj 30 (jF))]) (λs=>.c 1 (.sl none 5 (map eF p1)) (.c 4 (.ptr k2 0) (.c 5 (.ptr k8 0) (.c 6 (nZ q1) .nil)))) (λx m=> ?_) ?_))))))
 refine v ?_
 apply vi m<;>intro c2 m
 exact v (vl 0 (.agg (aC y1.1)) dC rfl rfl rfl (ve λu=>aL 2 (aC y1.1) u rfl rfl rfl rfl nB rfl rfl λK6=>qk K6 rfl (fZ m)))
 exact v (fZ m)
 rintro _ j1 m
 exact zU m (mK [1,2,3] rfl rfl (.k4 .nil))
 exact v (fZ m)
 rintro _ j2 m
 exact v (zU m (mK [1,2] rfl rfl (.k4 .nil)))
 exact v (vB m)
 rintro _ ⟨r0,r1⟩ m
 refine v (vl 0 (.agg (aC r0)) dC rfl rfl rfl (ve λu=>aL 1 (aC r0) u rfl rfl rfl rfl nB rfl rfl λK7=>qk K7 rfl (v ?_)))
 obtain rfl:=eR m
 exact vr λu=>dW.of1 (.inl rfl) (sJ (.agg (aC r0)) dC rfl (aW 1 u rfl) rfl) (aU (List.nil_sublist _) u).1 (bD.refl _ _) ⟨rfl,rfl⟩
theorem aC8:aP prog 15=true:=by kernel_rfl
end Go.Proofs.YtbbifdfldpfphaaGreat
namespace Go.Vm
def T {α:Type} (m:Option α) (Q:α->Prop):Prop:=∃a,m=some a/\Q a
def L3 {σ ρ:Type} (G B:σ->Prop) (R:ρ->Prop):Lp σ ρ->Prop
 | .go s=>G s
 | .brk s=>B s
 | .ret r=>R r
section
variable {α β σ ρ:Type} {Q:β->Prop}
theorem T.some {a:β} (h:Q a):T (some a) Q:=⟨a,rfl,h⟩
theorem T.mono {P:β->Prop} {m:Option β} (h:T m P) (k:∀a,P a->Q a):T m Q:=by obtain⟨a,e,p⟩:=h; exact⟨a,e,k a p⟩
theorem T.of {m:Option β} {a:β} (h:m= .some a) (hq:Q a):T m Q:=⟨a,h,hq⟩
theorem T.bind {m:Option α} {k:α->Option β} (P:α->Prop) (h:T m P) (hk:∀a,P a->T (k a) Q):T (m.bind k) Q:=by
 obtain⟨a,e,p⟩:=h
 rw[e]; exact hk a p
theorem T.bindEq {m:Option α} {k:α->Option β} {a:α} (h:m= .some a) (hk:T (k a) Q):T (m.bind k) Q:=by rw[h]; exact hk
theorem T.ite {c:Prop} [Decidable c] {a b:Option β} (h1:c->T a Q) (h2:¬c->T b Q):T (if c then a else b) Q:=by
 by_cases h:c
 ·rw[if_pos h]; exact h1 h
 ·rw[if_neg h]; exact h2 h
theorem T.grd {b:Bool} {k:Option β} (hb:b=true) (h:T k Q):T (grd b k) Q:=by unfold Go.Vm.grd; rw[if_pos hb]; exact h
theorem T.ix {l:List α} {i:Int} {k:α->Option β} (h0:0<=i) (h1:i < l.length) (hk:∀x,l[i.toNat]? =Option.some x->x∈l->T (k x) Q):T ((ix l i).bind k) Q:=by
 have hx:l[i.toNat]? =Option.some l[i.toNat]:=getElem?_eq_getElem (by omega)
 rw[oQ l h0,hx]
 exact hk _ hx (getElem_mem _)
theorem T.app {xs ys:List α} {k:List α->Option β} (h:xs.length+ys.length<=1000000000) (hk:T (k (xs++ys)) Q):T ((app xs ys).bind k) Q:=by rw[bN h]; exact hk
theorem T.slc {l:List α} {a b:Int} {k:List α->Option β} (h:0<=a/\a<=b/\b<=l.length) (hk:T (k ((l.take b.toNat).drop a.toNat)) Q):T ((slc l a b).bind k) Q:=by unfold Go.Vm.slc; rw[if_pos h]; exact hk
variable {R:ρ->Prop} {G B:σ->Prop}
theorem T.go {s:σ} (h:G s):T (.some (Lp.go s)) (L3 G B R):=⟨_,rfl,h⟩
theorem T.brk {s:σ} (h:B s):T (.some (Lp.brk s)) (L3 G B R):=⟨_,rfl,h⟩
theorem T.ret {r:ρ} (h:R r):T (.some (Lp.ret r)) (L3 G B R):=⟨_,rfl,h⟩
theorem T.after {m:Option (Lp σ ρ)} {k:σ->Option ρ} (h:T m (L3 (λ_=>False) (λs=>T (k s) R) R)):T (after m k) R:=by
 obtain⟨a,e,p⟩:=h
 rw[e]
 cases a with
 | go s=>exact p.elim
 | brk s=>exact p
 | ret r=>exact⟨_,rfl,p⟩
theorem T.loopAt {step:σ->Option (Lp σ ρ)} (I:σ->Prop) (μ:σ->Nat) (hs:∀s,I s->T (step s) (L3 (λs'=>I s'/\μ s' < μ s) B R)):∀(F:Nat) (s:σ),I s->μ s < F->T (aR step F s) (L3 (λ_=>False) B R)
 | 0,_,_,h=>by omega
 | F+1,s,hi,hm=>by
  obtain⟨a,e,p⟩:=hs s hi
  unfold aR
  rw[e]
  cases a with
  | go s'=>exact T.loopAt I μ hs F s' p.1 (by have:=p.2; omega)
  | brk s'=>exact⟨_,rfl,p⟩
  | ret r=>exact⟨_,rfl,p⟩
theorem T.loop {step:σ->Option (Lp σ ρ)} {F:Nat} {s0:σ} {k:σ->Option ρ} (I:σ->Prop) (μ:σ->Nat) (B:σ->Prop) (hm:μ s0 < F) (h0:I s0) (hs:∀s,I s->T (step s) (L3 (λs'=>I s'/\μ s' < μ s) B R)) (hk:∀s,B s->T (k s) R):
    T (Go.Vm.after (aR step F s0) k) R:=T.after ((T.loopAt I μ hs F s0 h0 hm).mono λa=>by
      cases a with
      | go s=>exact λh=>h.elim
      | brk s=>exact hk s
      | ret r=>exact id)
end
theorem KP {n:Nat} (x:Ar n):x.1.length=n:=x.2
theorem aC9 (n:Int):0<=wrap .u8 n/\wrap .u8 n < 256:=by rw[D1]; omega
theorem wrI (n:Int): -9223372036854775808<=wrap .i64 n/\wrap .i64 n < 9223372036854775808:=by
 have e:wrap .i64 n=(if decide (n % 18446744073709551616>=9223372036854775808)then n % 18446744073709551616 - 18446744073709551616 else n % 18446744073709551616):=rfl
 rw[e]
 simp only[decide_eq_true_eq]
 split<;>omega
end Go.Vm
namespace Go.Proofs.YtbbifdfldpfphaaGreat
open Go.Vm
theorem OV {F:Nat} {a b:Int} (hb:0<=b):T (uM F a b) λ_=>True:=by
 unfold uM
 refine .grd (by simpa using hb) (.grd (by simpa using OQ _) (.some trivial))
theorem aIM {F:Nat} {l:List Int} (hF:1000<=F) (hl:l.length<=300):T (OR F l) λr=>r.length % 64=0/\r.length<=l.length+80:=by
 unfold OR
 refine .app (by simp; omega) (.app (by simp; omega) ?_)
 refine .loop (λq=>l.length+1<=q.length/\q.length<=(l.length+72) / 64*64 - 8+0/\l.length+9<=(l.length+72) / 64*64) (λq=>(l.length+72) / 64*64 - 8 - q.length) (λq=>(q.length+8) % 64=0/\q.length<=l.length+64) (by simp; omega) (by simp; omega) (λq hq=> ?_) (λq hq=> ?_)
 ·unfold wW
  rw[wr (by omega) (by omega),Int.tmod_eq_emod_of_nonneg (by omega)]
  refine .ite (λhc=> ?_) λhc=> ?_
  ·have:((q.length:Int)+8) % 64≠0:=by simpa using hc
   refine .app (by simp; omega) (.go ?_)
   simp only[length_append,List.length_singleton]
   omega
  ·have:((q.length:Int)+8) % 64=0:=by simpa using hc
   exact .brk (by omega)
 ·refine .loop (λs=> -1<=s.2/\s.2<=7/\(s.1.length:Int)+s.2=q.length+7) (λs=>(s.2+1).toNat) (λs=>s.1.length=q.length+8) (by simp; omega) (by simp) (λs hs=> ?_) (λs hs=>.some (by omega))
  obtain⟨a,i⟩:=s
  unfold wX
  simp only at hs ⊢
  refine .ite (λhc=> ?_) λhc=> ?_
  ·have hc:=of_decide_eq_true hc
   rw[wr (n:=i - 1) (by omega) (by omega)]
   refine .grd (by simpa using OQ _) (.app (by simp; omega) (.go ?_))
   simp only[length_append,List.length_singleton]
   omega
  ·exact .brk (by simp only[decide_eq_true_eq] at hc; show a.length=_; omega)
theorem aDA {F:Nat} {d:List Int} (hF:1000<=F) (hl:d.length<=300):T (YM F d) mL:=by
 unfold YM
 refine .bind (λ_=>True) ⟨_,rfl,trivial⟩ λy6 _=> ?_
 refine .bind _ (aIM hF hl) λy hy=> ?_
 refine .loop (λs=>0<=s.2/\s.2 % 64=0/\s.2<=y.length) (λs=>(y.length - s.2).toNat) (λ_=>True) (by simp; omega) (by simp) (λs hs=> ?_) (λs _=> ?_)
 ·obtain⟨h,i⟩:=s
  unfold C7
  simp only at hs ⊢
  refine .ite (λhc=> ?_) λhc=>.brk trivial
  have hc:=of_decide_eq_true hc
  refine .loop (λs=>0<=s.2/\s.2<=64) (λs=>(64 - s.2).toNat) (λ_=>True) (by simp; omega) (by simp) (λs hs2=> ?_) (λs _=> ?_)
  ·obtain⟨w,j⟩:=s
   unfold C4
   simp only at hs2 ⊢
   refine .ite (λhc2=> ?_) λhc2=>.brk trivial
   have hc2:=of_decide_eq_true hc2
   have fin:wrap .i64 (j+1)=j+1:=wr (by omega) (by omega)
   refine .after (.ite (λhc3=> ?_) λhc3=> ?_)
   ·have hc3:=of_decide_eq_true hc3
    refine .loop (λs=>0<=s.2/\s.2<=4) (λs=>(4 - s.2).toNat) (λ_=>True) (by simp; omega) (by simp) (λs hs4=> ?_) (λs _=>.brk (.go (by rw[fin]; simp only; omega)))
    obtain⟨w,k⟩:=s
    unfold C3
    simp only at hs4 ⊢
    refine .ite (λhc4=> ?_) λhc4=>.brk trivial
    have hc4:=of_decide_eq_true hc4
    rw[wr (n:=4*j) (by omega) (by omega),wr (n:=i+4*j) (by omega) (by omega),wr (n:=i+4*j+k) (by omega) (by omega),wr (n:=k+1) (by omega) (by omega)]
    refine .ix (by omega) (by rw[KP]; omega) λ_ _ _=>.ix (by omega) (by omega) λ_ _ _=>.ix (by omega) (by rw[KP]; omega) λ_ _ _=>.go ?_
    simp only
    omega
   ·have hc3:¬j < 16:=by simpa using hc3
    rw[wr (n:=j - 15) (by omega) (by omega),wr (n:=j - 2) (by omega) (by omega),wr (n:=j - 16) (by omega) (by omega),wr (n:=j - 7) (by omega) (by omega)]
    refine .ix (by omega) (by rw[KP]; omega) λ_ _ _=>.ix (by omega) (by rw[KP]; omega) λ_ _ _=>.ix (by omega) (by rw[KP]; omega) λ_ _ _=>.ix (by omega) (by rw[KP]; omega) λ_ _ _=> ?_
    refine .bind _ (OV (by omega)) λ_ _=>.bind _ (OV (by omega)) λ_ _=>.bind _ (OV (by omega)) λ_ _=>.bind _ (OV (by omega)) λ_ _=> ?_
    refine .ix (by omega) (by rw[KP]; omega) λ_ _ _=>.brk (.go ?_)
    rw[fin]; simp only; omega
  ·refine .loop (λs=>0<=s.2/\s.2<=64) (λs=>(64 - s.2).toNat) (λ_=>True) (by simp; omega) (by simp) (λs hs2=> ?_) (λs _=> ?_)
   ·obtain⟨w,j⟩:=s
    unfold C5
    simp only at hs2 ⊢
    refine .ite (λhc2=> ?_) λhc2=>.brk trivial
    have hc2:=of_decide_eq_true hc2
    have fin:wrap .i64 (j+1)=j+1:=wr (by omega) (by omega)
    rw[fin]
    repeat' (first | exact trivial | refine T.bind _ (OV (by omega)) λ_ _=> ?_ | refine T.ix (by omega) (by rw[KP]; omega) λ_ _ _=> ?_)
    refine .go ?_
    simp only; omega
   ·refine .loop (λs=>0<=s.2/\s.2<=8) (λs=>(8 - s.2).toNat) (λ_=>True) (by simp; omega) (by simp) (λs hs2=> ?_) (λs _=> ?_)
    ·obtain⟨w,j⟩:=s
     unfold C6
     simp only at hs2 ⊢
     refine .ite (λhc2=> ?_) λhc2=>.brk trivial
     have hc2:=of_decide_eq_true hc2
     rw[wr (n:=j+1) (by omega) (by omega)]
     refine .ix (by omega) (by rw[KP]; omega) λ_ _ _=>.ix (by omega) (by rw[KP]; omega) λ_ _ _=>.ix (by omega) (by rw[KP]; omega) λ_ _ _=>.go ?_
     simp only; omega
    ·rw[wr (n:=i+64) (by omega) (by omega)]
     refine .go ?_
     simp only; omega
 ·refine .loop (λs=>0<=s.2/\s.2<=32/\mL s.1) (λs=>(32 - s.2).toNat) (λs=>mL s.1) (by simp; omega) ⟨by simp,by simp, ?_⟩ (λs hs2=> ?_) (λs hs=>.some hs)
  ·intro x hx
   have:x=0:=List.eq_of_mem_replicate hx
   subst this
   exact⟨by omega,by omega⟩
  ·obtain⟨w,j⟩:=s
   unfold wY
   simp only at hs2 ⊢
   refine .ite (λhc2=> ?_) λhc2=>.brk hs2.2.2
   have hc2:=of_decide_eq_true hc2
   rw[wr (n:=j+1) (by omega) (by omega),Int.tdiv_eq_ediv_of_nonneg (by omega),wr (n:=j / 4) (by omega) (by omega)]
   refine .ix (by omega) (by rw[KP]; omega) λ_ _ _=>.grd (by simpa using OQ _) (.ix (by omega) (by rw[KP]; omega) λ_ _ _=>.go ⟨⟨?_, ?_, ?_⟩, ?_⟩)
   ·simp only; omega
   ·simp only; omega
   ·intro x hx
    rcases List.mem_or_eq_of_mem_set hx with h | rfl
    ·exact hs2.2.2 x h
    ·exact aC9 _
   ·simp only; omega
end Go.Proofs.YtbbifdfldpfphaaGreat
namespace Go.Vm
section
variable {α β ρ:Type} {Q:β->Prop}
theorem T.ins {l:List α} {r:Int} {y:α} {k:List α->Option β} (h:0<=r/\r<=l.length) (hl:l.length<=1000000) (hk:∀z:List α,z.length=l.length+1->(∀x∈z,x∈l\/x=y)->T (k z) Q):
    T ((Go.Vm.slc l 0 r).bind λx=>(Go.Vm.app ([]:List α) x).bind λz=>(Go.Vm.app z ([y]:List α)).bind λz2=>(Go.Vm.slc l r l.length).bind λx2=>(Go.Vm.app z2 x2).bind k) Q:=by
  refine .slc (by omega) (.app (by simp; omega) (.app (by simp; omega) (.slc (by omega) (.app (by simp; omega) (hk _ (by simp; omega) λx hx=> ?_)))))
  simp only[mem_append,mem_singleton] at hx
  rcases hx with ((h | h) | h) | h
  . simp at h
  . exact .inl (mem_of_mem_take (mem_of_mem_drop h))
  . exact .inr h
  . exact .inl (mem_of_mem_take (mem_of_mem_drop h))
theorem T.scan {Q:ρ->Prop} {l:List α} {F:Nat} {body:Int->Option (Lp Int ρ)} {g:α->Option (Lp Bool (Lp Int ρ))} {k:Int->Option ρ} (hF:l.length < F) (hl:l.length < 1000000)
    (hb:∀i,body i=Go.Vm.after (if decide (i < (l.length:Int))then (Go.Vm.ix l i).bind g else Option.some (.brk false)) λj=>if j then Option.some (.go (wrap .i64 (i+1))) else Option.some (.brk i))
    (hg:∀x∈l,T (g x) (L3 (λ_=>False) (λ_=>True) (λ_=>False))) (hk:∀r:Int,0<=r/\r<=l.length->T (k r) Q):T (Go.Vm.after (aR body F 0) k) Q:=by
  refine .loop (λi=>0<=i/\i<=l.length) (λi=>(l.length - i).toNat) (λi=>0<=i/\i<=l.length) (by omega) (by omega) (λi hi=> ?_) (λi hi=>hk i hi)
  rw[hb]
  refine .after (.ite (λhc=> ?_) λhc=>.brk ?_)
  . have hc:=of_decide_eq_true hc
    refine .ix (by omega) (by omega) λx _ hx=>(hg x hx).mono λa ha=> ?_
    cases a with
    | go s=>exact ha
    | ret s=>exact ha.elim
    | brk s=>
      refine T.ite (λ_=>.go ?_) λ_=>.brk hi
      rw[wr (by omega) (by omega)]
      omega
  . exact T.ite (λh=>by cases h) λ_=>.brk hi
end
end Go.Vm
namespace Go.Proofs.YtbbifdfldpfphaaGreat
open Go.Vm
def fOk (f:dJ):Prop:=f.Path.size<=100/\gL gB f.Data
def fIn (F:Nat) (f:dJ):Prop:=(f.Path.size < F/\f.Path.size<=9223372036854775807)/\gL gB f.Data
theorem HJ {s:ByteArray} (h:pC s=true):s.size<=100:=by
 unfold pC fB at h
 simp only[and_eq_true,decide_eq_true_eq] at h
 omega
def WZ (f:dJ):Prop:=fOk f/\f.Data.length<=200
theorem aDB {F:Nat} {l:List dJ} (hF:1000<=F):T (KO F l) λb=>b=false->l.length<=6/\∀x∈l,x.Data.length<=200:=by
 unfold KO
 refine .ite (λhc=>.some λh=>by cases h) λhc=> ?_
 have hc:l.length<=6:=by simp at hc; omega
 rw[tM (l:=l) (λx=>decide (200 < (x.Data.length:Int))) true (by omega) (λi x hx _ hi=>by
  unfold uL
  rw[iG (by omega)]
  simp only[aX,hx,bind_some,ofNat_lt,hi,decide_true,if_true]
  split<;>rfl) (by unfold uL; simp)]
 cases h:l.any λx=>decide (200 < (x.Data.length:Int))
 ·refine .some λ_=>⟨hc,λx hx=> ?_⟩
  have:=any_eq_false.1 h x hx
  simp at this
  omega
 ·exact .some λh=>by cases h
theorem aIN {F:Nat} {l:List dJ} (hF:1000<=F) (ho:∀f∈l,fIn F f):T (M85 F l) λr=>r.2=0->r.1.length<=6/\∀f∈r.1,WZ f:=by
  unfold M85
  refine .bind _ (aDB hF) λb hb=>.ite (λ_=>.some λh=>by simp at h) λhc=> ?_
  obtain⟨hn,hd⟩:=hb (by simpa using hc)
  refine .loop (λi=>0<=i/\i<=l.length/\∀f∈l.take i.toNat,f.Path.size<=100) (λi=>(l.length - i).toNat) (λ_=>∀f∈l,f.Path.size<=100) (by omega) (by simp) (λi hi=> ?_) (λi hs100=> ?_)
  . unfold C0
    obtain⟨i0,i1,i2⟩:=hi
    refine .ite (λhc=> ?_) λhc=>.brk λf hf=>i2 f ?_
    . have hc:=of_decide_eq_true hc
      refine .ix (by omega) (by omega) λx ex hx=>.bindEq (NN hF (ho x hx).1) (.ite (λ_=>.ret λh=>by simp at h) λhnm=>.go ?_)
      rw[wr (by omega) (by omega)]
      refine⟨⟨by omega,by omega,λf hf=> ?_⟩,by omega⟩
      rw[show (i+1).toNat=i.toNat+1 by omega] at hf
      have hl:=(List.getElem?_eq_some_iff.1 ex).1
      rw[List.take_succ_eq_append_getElem hl] at hf
      rcases mem_append.1 hf with h | h
      . exact i2 f h
      . rw[mem_singleton.1 h,(List.getElem?_eq_some_iff.1 ex).2]
        exact HJ (by simpa using hnm)
    . have hc:¬(i < l.length):=by simpa using hc
      rw[take_of_length_le (by omega)]
      exact hf
  . refine .loop (λs=>0<=s.2/\s.2<=l.length/\(s.1.length:Int)=s.2/\∀f∈s.1,WZ f) (λs=>(l.length - s.2).toNat) (λs=>s.1.length<=6/\∀f∈s.1,WZ f) (by simp; omega) (by simp) (λs hs=> ?_) (λs hs=>.some λ_=>hs)
    obtain⟨q,i⟩:=s
    simp only at hs
    unfold C2
    refine .ite (λhc=> ?_) λhc=>.brk ⟨by simp only; omega,hs.2.2.2⟩
    have hc:=of_decide_eq_true hc
    simp only at hc
    refine .loop (λj=>0<=j/\j<=q.length) (λj=>(q.length - j).toNat) (λj=>0<=j/\j<=q.length) (by omega) (by omega) (λj hj=> ?_) (λj hj=> ?_)
    . unfold C1
      have fin:j < q.length->0<=wrap .i64 (j+1)/\wrap .i64 (j+1)<=q.length/\(q.length - wrap .i64 (j+1)).toNat < (q.length - j).toNat:=λh=>by
        rw[wr (by omega) (by omega)]; omega
      refine .after (.ite (λhc2=> ?_) λhc2=>.brk (T.ite (λh=>by cases h) λ_=>.brk hj))
      have hc2:=of_decide_eq_true hc2
      have:=fin hc2
      refine .ix (by omega) (by omega) λx _ hx=>.ix (by omega) (by omega) λy _ hy=>.brk (T.ite (λ_=>.go (by omega)) λ_=>.brk hj)
    . have rest:T (if (false:Bool)then some (.ret ([],9)) else (slc q 0 j).bind λx494=>(ix l i).bind λx496=>(ix l i).bind λx498=>(app ([]:List dJ) x494).bind λz500=>(vO F x498.Data).bind λy506=>(app z500 ([({ Path:=x496.Path,Data:=y506}:dJ)]:List dJ)).bind λz508=>(slc q j (q.length:Int)).bind λx513=>(app z508 x513).bind λz515=>some (.go (z515,wrap .i64 (i+1))))
          (L3 (λs':List dJ×Int=>(0<=s'.2/\s'.2<=l.length/\(s'.1.length:Int)=s'.2/\∀f∈s'.1,WZ f)/\(l.length - s'.2).toNat < (l.length - i).toNat) (λs=>s.1.length<=6/\∀f∈s.1,WZ f) (λr:List dJ×Int=>r.2=0->r.1.length<=6/\∀f∈r.1,WZ f)):=by
        refine T.ite (λh=>by cases h) λ_=> ?_
        rw[wr (n:=i+1) (by omega) (by omega)]
        refine .slc (by omega) (.ix (by omega) (by omega) λx _ hx=>.ix (by omega) (by omega) λy _ hy=>.app (by simp; omega) (.bindEq (WE (by have:=hd y hy; omega)) (.app (by simp; omega) (.slc (by omega) (.app (by simp; omega) (.go ?_))))))
        refine⟨⟨by simp only; omega,by simp only; omega,by simp; omega,λf hf=> ?_⟩,by simp only; omega⟩
        simp only[mem_append,mem_singleton] at hf
        rcases hf with ((h | h) | h) | h
        . simp at h
        . exact hs.2.2.2 f (mem_of_mem_take (mem_of_mem_drop h))
        . subst h
          exact⟨⟨hs100 x hx,(ho y hy).2⟩,hd y hy⟩
        . exact hs.2.2.2 f (mem_of_mem_take (mem_of_mem_drop h))
      refine .after (.ite (λhc2=> ?_) λhc2=>.brk rest)
      have hc2:=of_decide_eq_true hc2
      refine .ix (by omega) (by omega) λx _ hx=>.ix (by omega) (by omega) λy _ hy=>.brk ?_
      cases x.Path.toList==y.Path.toList
      . exact rest
      . exact .ret λh=>by simp at h
theorem aIO {F:Nat} {l:List Int} (hF:1000<=F) (h0:0 < l.length) (hl:l.length<=300):T (OT F l) λk=>0 < k/\k<=l.length/\(8<=k\/k=l.length):=by
 unfold OT
 refine .loop (λs=>0<=s.2/\s.2<=l.length) (λs=>(l.length - s.2).toNat) (λ_=>True) (by simp; omega) (by simp) (λs hs=> ?_) (λs _=>.some (by omega))
 obtain⟨h,i⟩:=s
 simp only at hs
 unfold w5
 refine .ite (λhc=> ?_) λhc=>.brk trivial
 have hc:=of_decide_eq_true hc
 simp only at hc
 rw[wr (n:=i+1) (by omega) (by omega)]
 have k2:(8<=i+1)\/¬(8<=i+1):=by omega
 have e64:(i+1==64)=decide (i+1=64):=rfl
 refine .ix (by omega) (by omega) λx _ hx=>.after (.ite (λhc2=> ?_) λhc2=> ?_)
 ·have hc2:=of_decide_eq_true hc2
  refine .ite (λ_=>.brk (T.ite (λ_=>.ret (by omega)) λh=>absurd rfl h)) λ_=>.brk (T.ite (λ_=>.ret (by omega)) λ_=>.go (by simp only; omega))
 ·refine .brk (T.ite (λh=>.ret ?_) λ_=>.go (by simp only; omega))
  have:i+1=64:=by simpa using h
  omega
theorem aIP {F:Nat} {l:List Int} (hF:1000<=F) (hl:l.length<=200) (gl:gL gB l):T (OU F l) λr=>r.length<=25/\∀x∈r,x.length<=300/\gL gB x:=by
 unfold OU
 refine .loop (λs=>s.2.length<=l.length/\gL gB s.2/\(8*s.1.length+s.2.length<=l.length\/(s.2.length=0/\8*s.1.length<=l.length+7))/\∀x∈s.1,x.length<=300/\gL gB x) (λs=>s.2.length) (λs=>s.1.length<=25/\∀x∈s.1,x.length<=300/\gL gB x) (by simp; omega) (by simp[gl]) (λs hs=> ?_) (λs hs=>.some hs)
 obtain⟨q,d⟩:=s
 simp only at hs
 obtain⟨s1,s2,s3,s4⟩:=hs
 unfold w6
 refine .ite (λhc=> ?_) λhc=>.brk ⟨by simp only; omega,s4⟩
 have hc:=of_decide_eq_true hc
 simp only at hc
 refine .bind _ (aIO hF (by simp only; omega) (by simp only; omega)) λk hk=>.slc (by omega) (.bindEq (WE (by simp; omega)) (.app (by simp; omega) (.slc (by simp only at hk ⊢; omega) (.go ?_))))
 simp only at hk ⊢
 refine⟨⟨by simp; omega,λx hx=>s2 x (mem_of_mem_take (mem_of_mem_drop hx)),by simp; omega,λx hx=> ?_⟩,by simp; omega⟩
 rcases mem_append.1 hx with h | h
 ·exact s4 x h
 ·rw[mem_singleton] at h
  subst h
  exact⟨by simp; omega,λy hy=>s2 y (mem_of_mem_take (mem_of_mem_drop hy))⟩
theorem aIQ {F:Nat} {l:List dJ} (hF:1000<=F) (ho:∀f∈l,fOk f):T (OS F l) λ_=>True:=by
 unfold OS
 refine .bind _ (aDB hF) λb hb=>.ite (λ_=>.some trivial) λhc=> ?_
 obtain⟨hn,hd⟩:=hb (by simpa using hc)
 refine .loop (λi=>0<=i/\i<=l.length) (λi=>(l.length - i).toNat) (λ_=>True) (by omega) (by omega) (λi hi=> ?_) (λi _=>.some trivial)
 unfold wZ
 refine .ite (λhc=> ?_) λhc=>.brk trivial
 have hc:=of_decide_eq_true hc
 rw[wr (n:=i+1) (by omega) (by omega)]
 have fin:∀b:Bool,T (if b then (some (.ret 1):Option (Lp Int Int)) else some (.go (i+1))) (L3 (λs'=>(0<=s'/\s'<=l.length)/\(l.length - s').toNat < (l.length - i).toNat) (λ_=>True) (λ_=>True)):=λb=>T.ite (λ_=>.ret trivial) λ_=>.go (by omega)
 refine .after (.ix (by omega) (by omega) λx _ hx=>.bindEq (NN hF ⟨Nat.lt_of_le_of_lt (ho x hx).1 (by omega),le_trans (ho x hx).1 (by omega)⟩) (.ite (λ_=>.brk (fin _)) λ_=>.ite (λh=> ?_) λ_=>.brk (fin _)))
 have h:=of_decide_eq_true h
 rw[wr (by omega) (by omega)]
 exact .ix (by omega) (by omega) λ_ _ _=>.ix (by omega) (by omega) λ_ _ _=>.brk (fin _)
theorem aIR {F:Nat} {l:List bH} {d:bH} (hF:1000<=F) (hl:l.length < 900) (gl:∀x∈l,mL x) (hd:mL d):
    T (EP F l d) λr=>0<=r.2.1/\r.2.1<=l.length/\r.1.length=l.length+(if r.2.2 then 1 else 0)/\∀x∈r.1,mL x:=by
  unfold EP
  refine T.scan (by omega) (by omega) (λ_=>rfl) (λx hx=>.bindEq (aBJ hF (gl x hx) hd) (.brk trivial)) λr hr=> ?_
  have rest:T ((slc l 0 r).bind λx84=>(app ([]:List bH) x84).bind λz86=>(app z86 ([d]:List bH)).bind λz92=>(slc l r (l).length).bind λx98=>(app z92 x98).bind λz100=>some (z100,r,true))
      λr=>0<=r.2.1/\r.2.1<=l.length/\r.1.length=l.length+(if r.2.2 then 1 else 0)/\∀x∈r.1,mL x:=by
    refine .ins hr (by omega) λz h1 h2=>.some ⟨hr.1,hr.2,h1,λx hx=> ?_⟩
    rcases h2 x hx with h | rfl
    . exact gl x h
    . exact hd
  refine .after (.ite (λhc=> ?_) λ_=>.brk (T.ite (λh=>by cases h) λ_=>rest))
  have hc:=of_decide_eq_true hc
  refine .ix (by omega) (by omega) λx _ hx=>.brk ?_
  refine T.ite (λ_=>.some ?_) λ_=>rest
  exact⟨hr.1,hr.2,rfl,gl⟩
def IW (m:bE):Prop:=m.Name.size<=100/\m.Parts.length<=10/\(∀p∈m.Parts,p.Path.size<=100/\p.Ids.length<=40)/\yP m
def OW (l:List (List Int)) (n:Nat):Prop:=l.length<=n/\∀x∈l,x.length<=300/\gL gB x
structure IX (c:aV):Prop where
 seq:gI c.Snap.Seq
 man:IW c.Snap.Man
 locs:c.Snap.Locs= []
 cn:c.Chunks.length<=160
 ch:∀x∈c.Chunks,mL x.Id/\x.Data.length<=300/\gL gB x.Data/\x.Locs= []
 sq:gI c.Seq
 vol:gI c.Vol
 it:c.Items.length<=64
 iti:∀x∈c.Items,gI x.Seq/\gI x.Of/\gI x.Off/\gI x.Len
theorem W0:IW { Name:=empty,Parts:=[]}:=⟨by decide,by simp,by simp,trivial,λ_ h=>by simp at h⟩
theorem aIS {F:Nat} {nm:ByteArray} {fs:List dJ} (hF:1000<=F) (hn:nm.size<=100) (h6:fs.length<=6) (ho:∀f∈fs,WZ f):T (M86 F nm fs) λr=>IW r.1/\OW r.2.1 150:=by
 unfold M86
 refine .bindEq (NN hF ⟨Nat.lt_of_le_of_lt hn (by omega),le_trans hn (by omega)⟩) (.ite (λ_=>.some ⟨W0,by simp,by simp⟩) λ_=>.bind _ (aIQ hF λf hf=>(ho f hf).1) λy _=>.ite (λ_=>.some ⟨W0,by simp,by simp⟩) λ_=> ?_)
 refine .loop (λs=>0<=s.2.2.2/\s.2.2.2<=fs.length/\(s.1.length:Int)=s.2.2.2/\(∀p∈s.1,(p.Path.size<=100/\p.Ids.length<=40)/\G1 p)/\(s.2.1.length:Int)<=25*s.2.2.2/\(∀x∈s.2.1,x.length<=300/\gL gB x)/\s.2.2.1.length=s.2.1.length/\∀x∈s.2.2.1,mL x)
  (λs=>(fs.length - s.2.2.2).toNat) (λs=>(s.1.length<=6/\∀p∈s.1,(p.Path.size<=100/\p.Ids.length<=40)/\G1 p)/\OW s.2.1 150) (by simp; omega) (by simp) (λs hs=> ?_) (λs hs=> ?_)
 ·obtain⟨ps,ds,ids,i⟩:=s
  simp only at hs
  obtain⟨s1,s2,s3,s4,s5,s6,s7,s8⟩:=hs
  unfold C9
  refine .ite (λhc=> ?_) λhc=>.brk ⟨⟨by simp only; omega,s4⟩,by simp only; omega,s6⟩
  have hc:=of_decide_eq_true hc
  simp only at hc
  rw[wr (n:=i+1) (by omega) (by omega)]
  refine .ix (by omega) (by omega) λx e hx=>.ix (by omega) (by omega) λx2 e2 hx2=>.ix (by omega) (by omega) λx3 e3 hx3=>.bind _ (aIP hF (ho x3 hx3).2 (ho x3 hx3).1.2) λy hy=> ?_
  obtain⟨y1,y2⟩:=hy
  refine .loop (λs=>0<=s.2.2.2/\s.2.2.2<=y.length/\(s.1.length:Int)=s.2.2.2/\(∀d∈s.1,mL d)/\(s.2.1.length:Int)<=25*i+s.2.2.2/\(∀x∈s.2.1,x.length<=300/\gL gB x)/\s.2.2.1.length=s.2.1.length/\∀x∈s.2.2.1,mL x)
   (λs=>(y.length - s.2.2.2).toNat) (λs=>(s.1.length<=25/\(∀d∈s.1,mL d))/\(s.2.1.length:Int)<=25*i+25/\(∀x∈s.2.1,x.length<=300/\gL gB x)/\s.2.2.1.length=s.2.1.length/\∀x∈s.2.2.1,mL x) (by simp; omega) ⟨by simp,by simp,by simp,by simp,by simp only; omega,s6,s7,s8⟩ (λs hs=> ?_) (λs hs=> ?_)
  ·obtain⟨q,ds,ids,j⟩:=s
   simp only at hs
   obtain⟨r1,r2,r3,r4,r5,r6,r7,r8⟩:=hs
   unfold C8
   refine .ite (λhc2=> ?_) λhc2=>.brk ⟨⟨by simp only; omega,r4⟩,by simp only; omega,r6,r7,r8⟩
   have hc2:=of_decide_eq_true hc2
   simp only at hc2
   rw[wr (n:=j+1) (by omega) (by omega)]
   refine .ix (by omega) (by omega) λz _ hz=>.bind _ (aDA hF (y2 z hz).1) λd hd=>.app (by simp; omega) (.bind _ (aIR hF (by simp only; omega) r8 hd) λr hr=> ?_)
   obtain⟨q1,q2,q3,q4⟩:=hr
   simp only at q2 q3
   have hq:∀a∈q++ [d],mL a:=λa ha=>by
    rcases mem_append.1 ha with h | h
    ·exact r4 a h
    ·rw[mem_singleton] at h; exact h ▸ hd
   refine .after (.ite (λhi=> ?_) λhi=>.brk (.go ?_))
   ·rw[if_pos hi] at q3
    refine .slc (by simp only; omega) (.ix (by omega) (by omega) λz2 _ hz2=>.app (by simp; omega) (.app (by simp; omega) (.slc (by simp only; omega) (.app (by simp; omega) (.brk (.go ?_))))))
    refine⟨⟨by simp only; omega,by simp only; omega,by simp; omega,hq,by simp; omega,λa ha=> ?_,by simp; omega,q4⟩,by simp only; omega⟩
    simp only[mem_append,mem_singleton] at ha
    rcases ha with ((h | h) | h) | h
    ·simp at h
    ·exact r6 a (mem_of_mem_take (mem_of_mem_drop h))
    ·exact h ▸ y2 z2 hz2
    ·exact r6 a (mem_of_mem_take (mem_of_mem_drop h))
   ·rw[if_neg hi] at q3
    exact⟨⟨by simp only; omega,by simp only; omega,by simp; omega,hq,by simp only; omega,r6,by simp only; omega,q4⟩,by simp only; omega⟩
  ·obtain⟨q,ds2,ids2,j⟩:=s
   simp only at hs
   obtain⟨⟨a1,a2⟩,a3,a4,a5,a6⟩:=hs
   refine .app (by simp; omega) (.go ?_)
   refine⟨⟨by simp only; omega,by simp only; omega,by simp; omega,λp hp=> ?_,by simp only; omega,a4,a5,a6⟩,by simp only; omega⟩
   rcases mem_append.1 hp with h | h
   ·exact s4 p h
   ·rw[mem_singleton] at h
    subst h
    have:=(ho x2 hx2).2
    exact⟨⟨(ho x hx).1.1,by simp only; omega⟩,trivial,by simp only[gI]; omega,a2⟩
 ·obtain⟨ps,ds,ids,i⟩:=s
  exact .some ⟨⟨hn,by have:=hs.1.1; simp only at this ⊢; omega,λp hp=>(hs.1.2 p hp).1,trivial,λp hp=>(hs.1.2 p hp).2⟩,hs.2⟩
theorem aDC (n:Int):∃b,MF [wrap .u8 n]=some b/\b.size=1:=by
 have h:=aC9 n
 refine⟨_,by unfold MF; rw[if_pos (by simp; omega)], ?_⟩
 rfl
structure Ok (c:aA):Prop where
 sm:Sm c
 rg:Rng c
theorem UE (n:Int):gI (wrap .i64 n):=wrI n
theorem HK {k s:Int} {v:Int} (hs:gI s) (hv:gI v) {l:List aE} (h6:l.length<=64) (hl:∀x∈l,gI x.Seq/\gI x.Of/\gI x.Off/\gI x.Len):
    IX { Kind:=k,Snap:={ Seq:=0,Man:={ Name:=empty,Parts:=[]},Locs:=[]},Chunks:=[],Seq:=s,Vol:=v,Items:=l}:=
  ⟨by simp[gI],W0,rfl,by simp,by simp,hs,hv,h6,hl⟩
structure UF (c:aA) (n:Int) (x:aE):Prop where
 id:mL x.Id
 q:0<=x.Seq/\x.Seq<=1073741824
 of:gI x.Of
 off:gI x.Off
 len:gI x.Len
 w:(x.Kind=1/\x.Seq=0/\∃j:Nat,(j:Int) < n/\∃y,c.Chunks[j]? =some y/\y.Id=x.Id)\/(x.Kind=2/\x.Id=gY/\∃j:Nat,(c.Chunks.length:Int)+j < n/\∃y,c.Snaps[j]? =some y/\y.Seq=x.Seq)\/
  (x.Kind=3/\x.Id=gY/\∃j:Nat,(c.Chunks.length:Int)+c.Snaps.length+j < n/\∃y,c.Exps[j]? =some y/\y.Seq=x.Seq/\y.Of=x.Of)
def Nd (q:List aE):Prop:=q.Pairwise λa b=>a.Kind=b.Kind->a.Id=b.Id->a.Seq≠b.Seq
structure KR (c:aA) (n:Int) (q:List aE):Prop where
 a:∀x∈q,UF c n x
 d:Nd q
theorem UF.mono {c:aA} {n m:Int} {x:aE} (h:UF c n x) (hm:n<=m):UF c m x:=⟨h.id,h.q,h.of,h.off,h.len,by
 rcases h.w with⟨a,b,j,k,e⟩ | ⟨a,b,j,k,e⟩ | ⟨a,b,j,k,e⟩
 ·exact .inl ⟨a,b,j,by omega,e⟩
 ·exact .inr (.inl ⟨a,b,j,by omega,e⟩)
 ·exact .inr (.inr ⟨a,b,j,by omega,e⟩)⟩
theorem KS {α:Type} {R:α->α->Prop} {l:List α} (h:l.Pairwise R) {i j:Nat} {x y:α} (hx:l[i]? =some x) (hy:l[j]? =some y) (hij:i < j):R x y:=by
 obtain⟨h1,rfl⟩:=List.getElem?_eq_some_iff.1 hx
 obtain⟨h2,rfl⟩:=List.getElem?_eq_some_iff.1 hy
 exact List.pairwise_iff_getElem.1 h i j h1 h2 hij
theorem FF:mL gY:=by
 intro x hx
 have:x=0:=List.eq_of_mem_replicate (n:=32) hx
 subst this
 exact⟨by omega,by omega⟩
theorem KR.put {c:aA} {n:Int} {q:List aE} {y:aE} (hG:Gd c) (h:KR c n q) (hy:UF c (n+1) y) (hn:¬UF c n y):KR c (n+1) (q++ [y]):=by
 refine⟨λx hx=> ?_,List.pairwise_append.2 ⟨h.d,List.pairwise_singleton _ _,λx hx z hz e1 e2 e3=> ?_⟩⟩
 ·rcases mem_append.1 hx with h1 | h1
  ·exact(h.a x h1).mono (by omega)
  ·rw[mem_singleton.1 h1]; exact hy
 ·rw[mem_singleton.1 hz] at e1 e2 e3
  refine hn ⟨hy.id,hy.q,hy.of,hy.off,hy.len, ?_⟩
  rcases(h.a x hx).w with⟨a,b,j,k,u,u1,u2⟩ | ⟨a,b,j,k,u,u1,u2⟩ | ⟨a,b,j,k,u,u1,u2,u3⟩
  ·exact .inl ⟨by omega,by omega,j,k,u,u1,by rw[u2,e2]⟩
  ·exact .inr (.inl ⟨by omega,by rw[<- e2,b],j,k,u,u1,by omega⟩)
  ·rcases hy.w with⟨a',_⟩ | ⟨a',_⟩ | ⟨a',b',j',k',v,v1,v2,v3⟩
   ·omega
   ·omega
   ·rcases lt_trichotomy j j' with w | w | w
    ·have:=KS hG.eo u1 v1 w; omega
    ·subst w
     exact .inr (.inr ⟨a',b',j,k,v,v1,v2,v3⟩)
    ·have:=KS hG.eo v1 u1 w; omega
structure Mk (c:aA) (d:aV):Prop where
 k:0<=d.Kind/\d.Kind<=5
 v:0<=d.Vol/\d.Vol < c.Vols.length
 e:d.Kind≠3->d.Items= []
 it:KR c 1000 d.Items\/∃s∈c.Snaps,d.Items= [{ Kind:=3,Id:=gY,Seq:=c.Seq,Of:=s.Seq,Off:=13,Len:=17}]
theorem HM (c:aA) (n:Int):KR c n []:=⟨by simp,.nil⟩
theorem W2 {c:aA} {k s v:Int} {p:aH} {l:List aE} {m:List aB} (hk:0<=k/\k<=5) (hv:0<=v/\v < c.Vols.length) (he:k≠3->l= []) (h:KR c 1000 l):Mk c { Kind:=k,Snap:=p,Chunks:=m,Seq:=s,Vol:=v,Items:=l}:=⟨hk,hv,he,.inl h⟩
theorem aIT {F:Nat} {c:aA} {a:iV} (hF:1000<=F) (hc:Ok c) (hG:Gd c) (ho:∀f∈a.Tree,fIn F f):T (M35 F c a) λr=>IX r.1/\Mk c r.1/\((wrap .u64 a.Do).tmod 8<=2->(∀s∈c.Snaps,s.Locs= [])->r.1.Kind<=2):=by
  have hD0:0<=(wrap .u64 a.Do).tmod 8:=Int.tmod_nonneg _ (OQ _)
  have g0:gI 0:=by simp[gI]
  have c1:=hc.rg.ch
  have c2:=hc.rg.sn
  have c3:=hc.rg.ex
  have c4:=hc.rg.vo
  have gq:=hc.sm.g.1
  unfold M35
  obtain⟨b,hb,hb1⟩:=aDC (wrap .u64 (97+((wrap .u64 a.N).tmod 5)))
  rw[hb]
  have e1:(ByteArray.mk #[110]).size=1:=rfl
  have e2:((ByteArray.mk #[110])++b).size=2:=by rw[ByteArray.size_append,e1,hb1]
  have hvn:=hG.vn
  simp only[fB,and_eq_true,decide_eq_true_eq] at hvn
  have v0:(0:Int)<=0/\(0:Int) < c.Vols.length:=by omega
  have hq:=hG.q
  simp only[fB,and_eq_true,decide_eq_true_eq] at hq
  refine .bindEq rfl (.grd (by rw[e1,hb1]; rfl) ?_)
  refine .after (T.mono (P:=L3 (λ_=>False) (λv=>gI v/\0<=v/\v < c.Vols.length) (λ_=>False)) (.ite (λh=> ?_) λ_=>.brk ⟨g0,v0⟩) λj hj=> ?_)
  . have h:=of_decide_eq_true h
    obtain⟨w,hw1,hw⟩:=WW a.Vol (n:=c.Vols.length) (by omega) (by omega)
    rw[<- wru (n:=c.Vols.length) (by omega)] at hw
    refine .grd ?_ (.brk ⟨UE _,by rw[hw]; omega⟩)
    rw[wru (by omega)]
    simp
    intro h2
    rw[h2] at h
    simp at h
  cases j with
  | go s=>exact hj
  | ret s=>exact hj.elim
  | brk v=>
  replace hj:gI v/\0<=v/\v < c.Vols.length:=hj
  refine T.after (T.mono (P:=L3 (λ_=>False) (λv=>v=false->(wrap .u64 a.Do).tmod 8≠0/\(wrap .u64 a.Do).tmod 8≠1) (λ_=>False)) (.ite (λh=>.brk λh2=>by rw[h] at h2; cases h2) λh=>.brk λh2=>⟨by simpa using h,by simpa using h2⟩) λj hj2=> ?_)
  cases j with
  | go s=>exact hj2
  | ret s=>exact hj2.elim
  | brk v2=>
  have d2:v2=false->(wrap .u64 a.Do).tmod 8≠0/\(wrap .u64 a.Do).tmod 8≠1:=hj2
  refine T.ite (λ_=> ?_) λhv2=> ?_
  . refine .bind _ (aIN hF ho) λy hy=>.ite (λ_=>.some ⟨HK g0 g0 (by simp) (by simp),W2 (by decide) v0 (λ_=>rfl) (HM _ _),λ_ _=>(show (0:Int)<=2 by decide)⟩) λh0=> ?_
    obtain⟨y1,y2⟩:=hy (by simpa using h0)
    refine .bind _ (aIS hF (by omega) y1 y2) λm hm=> ?_
    obtain⟨m1,m2,m3⟩:=hm
    refine .loop (λs=>0<=s.2/\s.2<=m.2.1.length/\(s.1.length:Int)<=s.2/\∀x∈s.1,mL x.Id/\x.Data.length<=300/\gL gB x.Data/\x.Locs= []) (λs=>(m.2.1.length - s.2).toNat) (λs=>s.1.length<=160/\∀x∈s.1,mL x.Id/\x.Data.length<=300/\gL gB x.Data/\x.Locs= []) (by simp; omega) (by simp) (λs hs=> ?_) (λs hs=> ?_)
    . obtain⟨q,i⟩:=s
      simp only at hs
      unfold DA
      refine .ite (λh=> ?_) λ_=>.brk ⟨by simp only; omega,hs.2.2.2⟩
      have h:=of_decide_eq_true h
      simp only at h
      rw[wr (n:=i+1) (by omega) (by omega)]
      obtain⟨n,hn,_⟩:=m64 (F:=F) (c:=c) (d:=gY) hF (by omega)
      refine .ix (by omega) (by omega) λx _ hx=>.bind _ (aDA hF (m3 x hx).1) λd hd=> ?_
      obtain⟨n,hn,_⟩:=m64 (F:=F) (c:=c) (d:=d) hF (by omega)
      refine .bindEq hn (.after (.ite (λ_=>.ix (by omega) (by omega) λx2 _ hx2=>.app (by simp; omega) (.brk (.go ?_))) λ_=>.brk (.go ⟨⟨by simp only; omega,by simp only; omega,by simp only; omega,hs.2.2.2⟩,by simp only; omega⟩)))
      refine⟨⟨by simp only; omega,by simp only; omega,by simp; omega,λy hy=> ?_⟩,by simp only; omega⟩
      rcases mem_append.1 hy with h | h
      . exact hs.2.2.2 y h
      . rw[mem_singleton] at h
        subst h
        exact⟨hd,(m3 x2 hx2).1,(m3 x2 hx2).2,rfl⟩
    . obtain⟨q,i⟩:=s
      exact .some ⟨⟨gq,m1,rfl,hs.1,hs.2,g0,g0,by simp,by simp⟩,W2 (by decide) v0 (λ_=>rfl) (HM _ _),λ_ _=>(show (1:Int)<=2 by decide)⟩
  . refine T.after (T.mono (P:=L3 (λ_=>False) (λv=>(v=false->(wrap .u64 a.Do).tmod 8≠2/\(wrap .u64 a.Do).tmod 8≠5)/\(v=true->(wrap .u64 a.Do).tmod 8=2\/(wrap .u64 a.Do).tmod 8=5)) (λ_=>False)) (.ite (λh=>.brk ⟨λh2=>(by rw[h] at h2; cases h2),λ_=>.inl (by simpa using h)⟩) λh=>.brk ⟨λh2=>⟨by simpa using h,by simpa using h2⟩,λh2=>.inr (by simpa using h2)⟩) λj hj2=> ?_)
    cases j with
    | go s=>exact hj2
    | ret s=>exact hj2.elim
    | brk v3=>
    have d3:(v3=false->(wrap .u64 a.Do).tmod 8≠2/\(wrap .u64 a.Do).tmod 8≠5)/\(v3=true->(wrap .u64 a.Do).tmod 8=2\/(wrap .u64 a.Do).tmod 8=5):=hj2
    refine T.ite (λhv3=> ?_) λhv3=> ?_
    . refine .ite (λ_=>.some ⟨HK g0 g0 (by simp) (by simp),W2 (by decide) v0 (λ_=>rfl) (HM _ _),λ_ _=>(show (0:Int)<=2 by decide)⟩) λh0=> ?_
      have h0:0 < c.Snaps.length:=by
        have:¬((c.Snaps.length:Int)=0):=by simpa using h0
        omega
      obtain⟨k,hk,ek⟩:=WW a.N h0 (by omega)
      rw[wru (by omega),ek]
      refine .grd (by simp; intro h; rw[h] at h0; simp at h0) (.ix (by omega) (by omega) λx _ hx=> ?_)
      have gx:=hc.sm.g.2.1 x hx
      refine .ite (λ_=>.some ⟨HK gx.1 g0 (by simp) (by simp),W2 (by decide) v0 (λ_=>rfl) (HM _ _),λ_ _=>(show (2:Int)<=2 by decide)⟩) λhne=>.some ⟨HK g0 hj.1 (by simp) λy hy=> ?_,⟨(show (0:Int)<=3/\(3:Int)<=5 by decide),hj.2,λh=>absurd rfl h,.inr ⟨x,hx,rfl⟩⟩,λh _=>absurd (by have:=d3.2 hv3; exact beq_iff_eq.2 (by omega)) hne⟩
      rw[mem_singleton] at hy
      subst hy
      exact⟨gq,gx.1,by simp[gI],by simp[gI]⟩
    . refine T.after (T.mono (P:=L3 (λ_=>False) (λ_=>True) (λ_=>False)) (.ite (λ_=>.brk trivial) λ_=>.brk trivial) λj hj2=> ?_)
      cases j with
      | go s=>exact hj2
      | ret s=>exact hj2.elim
      | brk v4=>
      refine T.ite (λ_=> ?_) λ_=>.ite (λ_=>.some ⟨HK g0 hj.1 (by simp) (by simp),W2 (by decide) hj.2 (λ_=>rfl) (HM _ _),λh _=>by have:=d2 (by simpa using hv2); have:=d3.1 (by simpa using hv3); omega⟩) λ_=>.some ⟨HK g0 hj.1 (by simp) (by simp),W2 (by decide) hj.2 (λ_=>rfl) (HM _ _),λh _=>by have:=d2 (by simpa using hv2); have:=d3.1 (by simpa using hv3); omega⟩
      have w1:wrap .i64 ((c.Chunks.length:Int)+(c.Snaps.length:Int))=(c.Chunks.length:Int)+(c.Snaps.length:Int):=wr (by omega) (by omega)
      have w2:wrap .i64 ((c.Chunks.length:Int)+(c.Snaps.length:Int)+(c.Exps.length:Int))=(c.Chunks.length:Int)+(c.Snaps.length:Int)+(c.Exps.length:Int):=wr (by omega) (by omega)
      refine .loop (λs=>0<=s.2.2/\s.2.2<=420/\s.1.length<=64/\KR c s.2.2 s.1/\gI s.2.1) (λs=>(420 - s.2.2).toNat) (λs=>s.1.length<=64/\KR c 1000 s.1) (by simp; omega) ⟨by simp,by simp,by simp,HM _ _,by simp[gI]⟩ (λs hs=> ?_) (λs hs=> ?_)
      . obtain⟨q,o,i⟩:=s
        simp only at hs
        obtain⟨s1,s2,s3,s4,s5⟩:=hs
        unfold DB
        simp only[w1,w2]
        have fin:KR c 1000 q:=⟨λx hx=>(s4.a x hx).mono (by omega),s4.d⟩
        have s4':KR c (i+1) q:=⟨λx hx=>(s4.a x hx).mono (by omega),s4.d⟩
        refine .after (.ite (λh=>.brk (T.ite (λh2=> ?_) λ_=>.brk ⟨s3,fin⟩)) λ_=>.brk (T.ite (λh=>by cases h) λ_=>.brk ⟨s3,fin⟩))
        have h:=of_decide_eq_true h
        have h2:=of_decide_eq_true h2
        rw[wr (n:=i+1) (by omega) (by omega)]
        have put:∀y:aE,UF c (i+1) y->¬UF c i y->T ((app q ([y]:List aE)).bind λz1648=>some (.brk (z1648,wrap .i64 (o+20))):Option (Lp (List aE×Int) (Lp (List aE×Int×Int) (aV×Bool))))
            (L3 (λ_=>False) (λs=>s.1.length<=64/\KR c (i+1) s.1/\gI s.2) (λ_=>False)):=λy hy hy2=>.app (by simp; omega) (.brk ⟨by simp; omega,s4.put hG hy hy2,UE _⟩)
        have g20:gI 20:=by simp[gI]
        refine .after (T.mono (P:=L3 (λ_=>False) (λs=>s.1.length<=64/\KR c (i+1) s.1/\gI s.2) (λ_=>False)) (.after ?_) λj hj3=> ?_)
        . have mid:T (after (if (decide (i < (c.Chunks.length:Int)))then ((ix c.Chunks i).bind λx1596=>some (.brk { { ({ Kind:=0,Id:=gY,Seq:=0,Of:=0,Off:=o,Len:=20}:aE) with Kind:=1} with Id:=x1596.Id})) else after (if (decide (i < (c.Chunks.length:Int)+(c.Snaps.length:Int)))then ((ix c.Snaps (wrap .i64 (i - (c.Chunks.length:Int)))).bind λx1629=>some (.brk { { ({ Kind:=0,Id:=gY,Seq:=0,Of:=0,Off:=o,Len:=20}:aE) with Kind:=2} with Seq:=x1629.Seq})) else (ix c.Exps (wrap .i64 ((wrap .i64 (i - (c.Chunks.length:Int))) - (c.Snaps.length:Int)))).bind λx1634=>some (.brk { { { ({ Kind:=0,Id:=gY,Seq:=0,Of:=0,Off:=o,Len:=20}:aE) with Kind:=3} with Seq:=x1634.Seq} with Of:=x1634.Of}):Option (Lp (aE) (Lp (aE) (Lp ((List aE)×Int) (Lp ((List aE)×Int×Int) (aV×Bool)))))) λj1623=>some (.brk j1623):Option (Lp (aE) (Lp ((List aE)×Int) (Lp ((List aE)×Int×Int) (aV×Bool))))) λj1590=>(app q ([j1590]:List aE)).bind λz1648=>some (.brk (z1648,wrap .i64 (o+20))):Option (Lp ((List aE)×Int) (Lp ((List aE)×Int×Int) (aV×Bool))))
              (L3 (λ_=>False) (λs=>s.1.length<=64/\KR c (i+1) s.1/\gI s.2) (λ_=>False)):=by
            refine .after (.ite (λh3=> ?_) λh3=>.after (.ite (λh4=> ?_) λh4=> ?_))
            . have h3:=of_decide_eq_true h3
              refine .ix (by omega) (by omega) λx ex hx=>.brk (put _ ⟨(hc.sm.g.2.2.1 x hx).1,by simp,g0,s5,g20,.inl ⟨rfl,rfl,i.toNat,by omega,x,ex,rfl⟩⟩ λh=> ?_)
              rcases h.w with⟨_,_,j,k,u,u1,u2⟩ | ⟨a,_⟩ | ⟨a,_⟩
              . have:=KS hG.co u1 ex (by omega)
                rw[u2] at this
                simp only at this; omega
              . exact absurd (show (1:Int)=2 from a) (by decide)
              . exact absurd (show (1:Int)=3 from a) (by decide)
            . have h4:=of_decide_eq_true h4
              have h3:¬(i < (c.Chunks.length:Int)):=by simpa using h3
              rw[wr (n:=i - (c.Chunks.length:Int)) (by omega) (by omega)]
              refine .ix (by omega) (by omega) λx ex hx=>.brk (.brk (put _ ⟨FF,by have:=hc.rg.s x hx; simp only; omega,g0,s5,g20,.inr (.inl ⟨rfl,rfl,(i - (c.Chunks.length:Int)).toNat,by omega,x,ex,rfl⟩)⟩ λh=> ?_))
              rcases h.w with⟨a,_⟩ | ⟨_,_,j,k,u,u1,u2⟩ | ⟨a,_⟩
              . exact absurd (show (2:Int)=1 from a) (by decide)
              . have:=KS hG.so u1 ex (by omega)
                simp only at u2; omega
              . exact absurd (show (2:Int)=3 from a) (by decide)
            . have h4:¬(i < (c.Chunks.length:Int)+(c.Snaps.length:Int)):=by simpa using h4
              rw[wr (n:=i - (c.Chunks.length:Int)) (by omega) (by omega),wr (n:=i - (c.Chunks.length:Int) - (c.Snaps.length:Int)) (by omega) (by omega)]
              refine .ix (by omega) (by omega) λx ex hx=>.brk (.brk (put _ ⟨FF,by have:=hc.rg.e x hx; simp only; omega,(hc.sm.g.2.2.2.1 x hx).2.1,s5,g20,.inr (.inr ⟨rfl,rfl,(i - (c.Chunks.length:Int) - (c.Snaps.length:Int)).toNat,by omega,x,ex,rfl,rfl⟩)⟩ λh=> ?_))
              rcases h.w with⟨a,_⟩ | ⟨a,_⟩ | ⟨_,_,j,k,u,u1,u2,u3⟩
              . exact absurd (show (3:Int)=1 from a) (by decide)
              . exact absurd (show (3:Int)=2 from a) (by decide)
              . have:=KS hG.eo u1 ex (by omega)
                simp only at u2; omega
          refine .ite (λh3=> ?_) λ_=>.brk (T.ite (λh=>by cases h) λ_=>mid)
          have h3:=of_decide_eq_true h3
          exact .ix (by omega) (by omega) λx _ _=>.brk (T.ite (λ_=>.brk ⟨s3,s4',s5⟩) λ_=>mid)
        . cases j with
          | go s=>exact hj3
          | ret s=>exact hj3.elim
          | brk s=>
            obtain⟨q2,o2⟩:=s
            exact .go ⟨⟨by simp only; omega,by simp only; omega,hj3.1,hj3.2.1,hj3.2.2⟩,by simp only; omega⟩
      . obtain⟨q,o,i⟩:=s
        exact .some ⟨HK g0 hj.1 hs.1 λx hx=>⟨by have:=(hs.2.a x hx).q; exact⟨by omega,by omega⟩,(hs.2.a x hx).of,(hs.2.a x hx).off,(hs.2.a x hx).len⟩,W2 (by decide) hj.2 (λh=>absurd rfl h) hs.2,λh _=>by have:=d2 (by simpa using hv2); have:=d3.1 (by simpa using hv3); omega⟩
def OX (l:List aB) (d:bH):List aB:=l.filter λx=>decide (ky x.Id < ky d)
def HN (l:List aB) (d:bH):List aB:=l.filter λx=>decide (ky d < ky x.Id)
def wN (l:List aB) (n:aB):List aB:=OX l n.Id++ { (match l.find? λx=>decide (x.Id=n.Id) with | some x=>x | none=> { Id:=n.Id,Staged:=false,Data:=[],Locs:=[]}) with Staged:=true,Data:=n.Data}::HN l n.Id
theorem OY {l:List aB} {d:bH} {p:Nat} (ha:At l d p):l.take p=OX l d:=by
 unfold OX
 have e:l.filter (λx=>decide (ky x.Id < ky d))=(l.take p++l.drop p).filter λx=>decide (ky x.Id < ky d):=by rw[take_append_drop]
 rw[e,filter_append,filter_eq_self.2 λy hy=>decide_eq_true (ha.lo y hy),filter_eq_nil_iff.2 λy hy=>by
  have:=ha.hi y hy
  simp; omega]
 simp
theorem W4 {l:List aB} {d:bH} {p:Nat} (ha:At l d p) (hr:uR l) (hd:mL d) (hn:kM l d=false):l.drop p=HN l d:=by
 unfold HN
 have e:l.filter (λx=>decide (ky d < ky x.Id))=(l.take p++l.drop p).filter λx=>decide (ky d < ky x.Id):=by rw[take_append_drop]
 rw[e,filter_append,filter_eq_nil_iff.2 λy hy=>by
  have:=ha.lo y hy
  simp; omega,filter_eq_self.2 λy hy=>by
   have hm:=mem_of_mem_drop hy
   have h1:=ha.hi y hy
   have h2:ky d≠ky y.Id:=λe=>by
    have:=any_eq_false.1 hn y hm
    simp[NK hd (hr.1 y hm) e] at this
   exact decide_eq_true (by omega)]
 simp
theorem SF {l:List aB} {d:bH} {p:Nat} {x:aB} (ha:At l d p) (hr:uR l) (hx:l[p]? =some x) (hd:x.Id=d):l.drop (p+1)=HN l d:=by
 obtain⟨hp,e0⟩:=List.getElem?_eq_some_iff.1 hx
 unfold HN
 have e:l.filter (λx=>decide (ky d < ky x.Id))=(l.take p++l[p]::l.drop (p+1)).filter λx=>decide (ky d < ky x.Id):=by
  rw[<- List.drop_eq_getElem_cons hp,take_append_drop]
 rw[e,filter_append,filter_eq_nil_iff.2 λy hy=>by
  have:=ha.lo y hy
  simp; omega,List.filter_cons_of_neg (by rw[e0,hd]; simp),filter_eq_self.2 λy hy=>by
   obtain⟨j,hj,rfl⟩:=getElem_of_mem hy
   simp only[length_drop] at hj
   rw[getElem_drop]
   have:=hr.2 p (p+1+j) _ _ hx (getElem?_eq_getElem (by omega)) (by omega)
   rw[hd] at this
   exact decide_eq_true this]
 simp
theorem SG {l:List aB} {p:Nat} {x:aB} (hr:uR l) (hx:l[p]? =some x):(l.find? λy=>decide (y.Id=x.Id))=some x:=by
 cases e:l.find? λy=>decide (y.Id=x.Id) with
 | none=>
  have:=find?_eq_none.1 e x (mem_of_getElem? hx)
  simp at this
 | some y=>
  have h1:=find?_some e
  have h1:y.Id=x.Id:=by simpa using h1
  obtain⟨j,hj,rfl⟩:=getElem_of_mem (List.mem_of_find?_eq_some e)
  rcases lt_trichotomy j p with h | h | h
  ·have:=hr.2 j p _ _ (getElem?_eq_getElem hj) hx h
   rw[h1] at this; omega
  ·subst h
   rw[getElem?_eq_getElem hj] at hx
   exact hx
  ·have:=hr.2 p j _ _ hx (getElem?_eq_getElem hj) h
   rw[h1] at this; omega
theorem OZ {l:List aB} {n:aB}:(wN l n).length<=l.length+1:=by
 have:∀m:List aB,(m.filter λx=>decide (ky x.Id < ky n.Id)).length+(m.filter λx=>decide (ky n.Id < ky x.Id)).length<=m.length:=by
  intro m
  induction m with
  | nil=>simp
  | cons a m ih=>
   by_cases h1:ky a.Id < ky n.Id
   ·have h2:¬ky n.Id < ky a.Id:=by omega
    simp[filter_cons,h1,h2]; omega
   ·by_cases h2:ky n.Id < ky a.Id<;>simp[filter_cons,h1,h2]<;>omega
 unfold wN OX HN
 have:=this l
 simp only[length_append,length_cons]
 omega
def KT (l:List aB) (d:bH):aB:=match l.find? λx=>decide (x.Id=d) with | some x=>x | none=> { Id:=d,Staged:=false,Data:=[],Locs:=[]}
theorem SH (l:List aB) (d:bH):(KT l d).Id=d:=by
 unfold KT
 cases e:l.find? λx=>decide (x.Id=d) with
 | none=>rfl
 | some x=>simpa using find?_some e
theorem IY (l:List aB) (n:aB):wN l n=OX l n.Id++ { KT l n.Id with Staged:=true,Data:=n.Data}::HN l n.Id:=rfl
theorem PA {l:List aB} {n:aB} (hr:uR l) (hn:mL n.Id):uR (wN l n):=by
 rw[qC] at*
 obtain⟨h1,h2⟩:=hr
 rw[IY]
 have hid:({ KT l n.Id with Staged:=true,Data:=n.Data}:aB).Id=n.Id:=SH l n.Id
 generalize ({ KT l n.Id with Staged:=true,Data:=n.Data}:aB)=z at hid
 refine⟨λy hy=> ?_,List.pairwise_append.2 ⟨h2.sublist filter_sublist,List.pairwise_cons.2 ⟨λy hy=> ?_,h2.sublist filter_sublist⟩,λa ha b hb=> ?_⟩⟩
 ·rcases mem_append.1 hy with h | h
  ·exact h1 y (mem_filter.1 h).1
  ·rcases mem_cons.1 h with rfl | h
   ·rw[hid]; exact hn
   ·exact h1 y (mem_filter.1 h).1
 ·rw[hid]
  exact of_decide_eq_true (mem_filter.1 hy).2
 ·have ha':=of_decide_eq_true (mem_filter.1 ha).2
  rcases mem_cons.1 hb with rfl | hb
  ·rw[hid]; exact ha'
  ·have:=of_decide_eq_true (mem_filter.1 hb).2
   omega
def nT (l ns:List aB):List aB:=ns.foldl wN l
theorem zA:∀ {ns l:List aB},uR l->(∀n∈ns,mL n.Id)->uR (nT l ns)
 | [],_,h,_=>h
 | n::ns,_,h,hn=>zA (ns:=ns) (PA h (hn n mem_cons_self)) λm hm=>hn m (mem_cons_of_mem _ hm)
theorem rT:∀ {ns l:List aB},(nT l ns).length<=l.length+ns.length
 | [],_=>by simp[nT]
 | n::ns,l=>by
  have h1:=rT (ns:=ns) (l:=wN l n)
  have h2:=OZ (l:=l) (n:=n)
  have:nT l (n::ns)=nT (wN l n) ns:=rfl
  rw[this,length_cons]
  omega
def o6 (l:List aB):Bool:= !l.any λx=> !x.Staged || decide (0 < (x.Locs.length:Int))
def ad (c:aA) (d:aV):aA:={ c with Seq:=c.Seq+1,Snaps:=c.Snaps++ [{ Seq:=d.Snap.Seq,Man:=d.Snap.Man,Locs:=[]}],Chunks:=nT c.Chunks d.Chunks}
theorem lL {P:aB->Prop}:∀ {ns l:List aB},(∀x∈l,P x)->(∀n∈ns,P { Id:=n.Id,Staged:=true,Data:=n.Data,Locs:=[]})->(∀x,P x->∀n∈ns,P { x with Staged:=true,Data:=n.Data})->∀y∈nT l ns,P y
  | [],_,h,_,_=>h
  | n :: ns, l, h, hn, hs => lL (ns := ns) (l := wN l n) (fun y hy => by
      rw[IY,mem_append,mem_cons] at hy
      rcases hy with h1 | h1 | h1
      . exact h y (mem_filter.1 h1).1
      . rw[h1]
        unfold KT
        cases e:l.find? λx=>decide (x.Id=n.Id) with
        | none=>exact hn n mem_cons_self
        | some x=>exact hs x (h x (List.mem_of_find?_eq_some e)) n mem_cons_self
      . exact h y (mem_filter.1 h1).1) (λm hm=>hn m (mem_cons_of_mem _ hm)) λx hx m hm=>hs x hx m (mem_cons_of_mem _ hm)
theorem UG {c:aA} {d:aV} (h:Sm c) (hg:Gd c) (hd:IX d):Sm (ad c d):=by
 have hq:=hg.q
 have hsn:=hg.sn
 have hcn:=hg.cn
 have hdn:=hd.cn
 unfold fB at hq
 simp only[and_eq_true,decide_eq_true_eq] at hq
 obtain⟨m1,m2,m3,m4⟩:=hd.man
 have L:=rT (ns:=d.Chunks) (l:=c.Chunks)
 refine⟨⟨⟨by show _<=c.Seq+1; omega,by show c.Seq+1 < _; omega⟩, ?_, ?_,h.g.2.2.2.1,h.g.2.2.2.2⟩, ?_, ?_,h.ex,h.vo, ?_, ?_,h.el, ?_⟩
 ·intro s hs
  rcases mem_append.1 hs with h1 | h1
  ·exact h.g.2.1 s h1
  ·obtain rfl:=mem_singleton.1 h1
   exact⟨hd.seq,m4,λx hx=>by cases hx⟩
 ·exact lL (P:=IE) h.g.2.2.1 (λn hn=>⟨(hd.ch n hn).1,trivial,(hd.ch n hn).2.2.1,λx hx=>by cases hx⟩) λx hx n hn=>⟨hx.1,trivial,(hd.ch n hn).2.2.1,hx.2.2.2⟩
 ·show (c.Snaps++_).length<=12
  simp; omega
 ·show (nT c.Chunks d.Chunks).length<=400
  omega
 ·intro s hs
  rcases mem_append.1 hs with h1 | h1
  ·exact h.sl s h1
  ·obtain rfl:=mem_singleton.1 h1
   simp
 ·exact lL (P:=λx=>x.Locs.length<=300/\x.Data.length<=300) h.cl (λn hn=>⟨by simp,(hd.ch n hn).2.1⟩) λx hx n hn=>⟨hx.1,(hd.ch n hn).2.1⟩
 ·intro s hs
  rcases mem_append.1 hs with h1 | h1
  ·exact h.man s h1
  ·obtain rfl:=mem_singleton.1 h1
   exact⟨m1,m2,m3⟩
theorem jQ (c:aA) (y:aB):(FC c y).Locs=y.Locs/\(FC c y).Id=y.Id/\((FC c y).Data=y.Data\/(FC c y).Data= []):=by
 unfold FC
 split
 ·exact⟨rfl,rfl,.inl rfl⟩
 ·exact⟨rfl,rfl,.inr rfl⟩
theorem IZ {c:aA} (h:Sm c):Sm { c with Chunks:=KN c}:=by
 obtain⟨g0,g1,g2,g3,g4⟩:=h.g
 refine { h with g:=⟨g0,g1, ?_,g3,g4⟩,ch:= ?_,cl:= ?_}
 ·intro y hy
  obtain⟨x,hx,rfl⟩:=mem_map.1 hy
  obtain⟨e1,e2,e3⟩:=jQ c x
  have:=g2 x (mem_filter.1 hx).1
  refine⟨by rw[e2]; exact this.1,trivial, ?_,by rw[e1]; exact this.2.2.2⟩
  rcases e3 with e | e<;>rw[e]
  ·exact this.2.2.1
  ·intro z hz; cases hz
 ·show (map _ _).length<=400
  rw[List.length_map]
  exact le_trans (length_filter_le _ _) h.ch
 ·intro y hy
  obtain⟨x,hx,rfl⟩:=mem_map.1 hy
  obtain⟨e1,e2,e3⟩:=jQ c x
  have:=h.cl x (mem_filter.1 hx).1
  refine⟨by rw[e1]; exact this.1, ?_⟩
  rcases e3 with e | e<;>rw[e]
  ·exact this.2
  ·simp
theorem HO {c:aA} {n:Int} (h:Sm c):Sm (CW c n):=IZ (uC h _)
theorem aIU {F:Nat} {l:List aH} {f:aH->Option Bool} (q:aH->Bool) (hF:1000<=F) (hl:l.length<=400) (hf:∀x∈l,f x=some (q x)):FA F l f=some (l.filter λx=> !q x):=by
 have h119:E9 F l f=some (rO l q):=by
  unfold E9
  refine mM q (by omega) (λi x hx hm hi=> ?_) (by unfold p9; simp)
  unfold p9
  rw[iG (by omega)]
  simp only[aX,hx,hf x hm,bind_some,ofNat_lt,hi,decide_true,if_true]
  split<;>rfl
 unfold FA
 rw[h119]
 simp only[bind_some]
 cases ha:l.any q with
 | false=>
  rw[mN ha]
  simp only[beq_self_eq_true,if_true]
  rw[filter_eq_self.2 λx hx=>by simpa using any_eq_false.1 ha x hx]
 | true=>
  obtain⟨i,x,h1,h2,h3,h4⟩:=kK ha
  rw[h1]
  have hn:((i:Int)== -1)=false:=by simp
  have hil:=(List.getElem?_eq_some_iff.1 h2).1
  rw[hn,iG (by omega)]
  simp only[false_eq_true,if_false]
  obtain⟨cur,w,e1,e2,e3,e4⟩:=NX (l:=l) (q:=q) (F:=F) (body:=λs=>oB F f s.1 s.2.1 s.2.2) (by omega) h2 h3 h4 (λcur w r x hc hw hr hx hm=>by
   unfold oB
   simp only
   rw[iG (i:=r) (by omega),iG (i:=w) (by omega)]
   have hcw:cur[w]? =some cur[w]:=getElem?_eq_getElem (by omega)
   simp only[aX,hx,hf x hm,bind_some,hc,ofNat_lt,hr,decide_true,if_true,hcw,toNat_natCast]
   cases q x<;>rfl) (λcur w hc=>by unfold oB; simp[hc])
  rw[e1]
  simp only[aG]
  have g1:(decide ((0:Int)<=(w:Int)) && decide ((w:Int) < (cur.length:Int)))=true:=by simp; omega
  have g2:(decide ((0:Int)<=(w:Int)) && decide ((w:Int)<=(cur.length:Int)))=true:=by simp; omega
  simp only[grd,g1,g2,if_true,toNat_natCast,e4]
def fR (l:List aS) (x:aS):List aS:=(l.reverse.dropWhile λy=>jU y x).reverse++x::(l.reverse.takeWhile λy=>jU y x).reverse
theorem I0 {l:List aS} {x:aS} {p:Nat} (h:Pt l x p):l.take p++x::l.drop p=fR l x:=by
 have e:l.reverse=(l.drop p).reverse++(l.take p).reverse:=by rw[<- List.reverse_append,take_append_drop]
 have h1:∀y∈(l.drop p).reverse,jU y x=true:=λy hy=>h.hi y (List.mem_reverse.1 hy)
 have h2:((l.take p).reverse.takeWhile λy=>jU y x)= []/\((l.take p).reverse.dropWhile λy=>jU y x)=(l.take p).reverse:=by
  cases p with
  | zero=>simp
  | succ q=>
   have hl:=h.le
   have hq:l[q]? =some l[q]:=getElem?_eq_getElem (by omega)
   have:=h.lo l[q] (by omega) (by simp[hq])
   rw[List.take_succ_eq_append_getElem (by omega),List.reverse_append,List.reverse_singleton,List.singleton_append]
   simp[this]
 unfold fR
 rw[e,List.takeWhile_append_of_pos h1,List.dropWhile_append_of_pos h1,h2.1,h2.2]
 simp
theorem I1 {F:Nat} {l:List aS} {x:aS} (hF:1000<=F) (hl:l.length<=400):wA F l x=some (fR l x):=by
 obtain⟨p,hp,e⟩:=aCO hF hl (x:=x)
 rw[e,I0 hp]
theorem I2 (l:List aS) (x:aS):∃a b,l=a++b/\fR l x=a++x::b:=by
 refine⟨_,_, ?_,rfl⟩
 rw[<- List.reverse_append,List.takeWhile_append_dropWhile,List.reverse_reverse]
theorem kC {l:List aS} {x y:aS}:y∈fR l x↔y∈l\/y=x:=by
 obtain⟨a,b,e,e2⟩:=I2 l x
 rw[e2,e]
 simp only[mem_append,mem_cons]
 constructor
 ·rintro(h | h | h)
  ·exact .inl (.inl h)
  ·exact .inr h
  ·exact .inl (.inr h)
 ·rintro((h | h) | h)
  ·exact .inl h
  ·exact .inr (.inr h)
  ·exact .inr (.inl h)
theorem kD {l:List aS} {x:aS}:(fR l x).length=l.length+1:=by
 obtain⟨a,b,e,e2⟩:=I2 l x
 rw[e2,e]
 simp; omega
theorem FG {α:Type} {R:α->α->Prop} {l:List α} (h:l.Pairwise R) {i j:Nat} {x y:α} (hx:l[i]? =some x) (hy:l[j]? =some y) (hij:i < j):R x y:=by
 obtain⟨h1,rfl⟩:=List.getElem?_eq_some_iff.1 hx
 obtain⟨h2,rfl⟩:=List.getElem?_eq_some_iff.1 hy
 exact List.pairwise_iff_getElem.1 h i j h1 h2 hij
theorem o7 {α:Type} {l:List α} {k:Nat} {x:α} (q:α->Prop) [DecidablePred q] (f:α->α) (hx:l[k]? =some x) (hq:q x) (h1:∀y∈l.take k,¬q y) (h2:∀y∈l.drop (k+1),¬q y):l.set k (f x)=l.map λy=>if q y then f y else y:=by
 obtain⟨hk,rfl⟩:=List.getElem?_eq_some_iff.1 hx
 rw[List.set_eq_take_append_cons_drop,if_pos hk]
 have e:(l.map λy=>if q y then f y else y)=(l.take k++l[k]::l.drop (k+1)).map λy=>if q y then f y else y:=by
  rw[<- List.drop_eq_getElem_cons hk,take_append_drop]
 have m:∀m:List α,(∀y∈m,¬q y)->(m.map λy=>if q y then f y else y)=m:=λm hm=>by
  conv=>rhs; rw[<- map_id m]
  exact List.map_congr_left λy hy=>by rw[if_neg (hm y hy)]; rfl
 rw[e,List.map_append,List.map_cons,if_pos hq,m _ h1,m _ h2]
theorem kH {α:Type} {l:List α} {f:α->α} (h:∀y∈l,f y=y):l.map f=l:=by
 conv=>rhs; rw[<- map_id l]
 exact List.map_congr_left λy hy=>h y hy
structure AtE (l:List aT) (q:Int) (p:Nat):Prop where
 le:p<=l.length
 lo:∀x∈l.take p,x.Seq < q
 hi:∀x∈l.drop p,q<=x.Seq
def SI (l:List aT) (q:Int):Bool:=l.any λx=>x.Seq==q
theorem W6 {F:Nat} {l:List aT} {q:Int} (hr:l.Pairwise λy x=>y.Seq < x.Seq) (hq:0<=q/\q<=1073741824) (hs:∀x∈l,0<=x.Seq/\x.Seq<=1073741824) (hl:l.length < 1000):∀(G lo hi:Nat),lo<=hi->hi<=l.length->hi - lo < G->
    (∀j x,l[j]? =some x->j < lo->x.Seq < q)->(∀j x,l[j]? =some x->hi<=j->q<=x.Seq)->
    ∃p:Nat,p<=l.length/\aR (λs=>tV F l q (λx0 x1=>CV F x0 x1) s.1 s.2) G ((lo:Int),(hi:Int))=some (.brk ((p:Int),(p:Int)))/\
      (∀j x,l[j]? =some x->j < p->x.Seq < q)/\(∀j x,l[j]? =some x->p<=j->q<=x.Seq)
  | 0,_,_,_,_,h,_,_=>by omega
  | G+1,lo,hi,h1,h2,h3,h4,h5=>by
    unfold aR tV
    by_cases hlt:lo < hi
    . have hm:(lo+hi) / 2 < l.length:=by omega
      have hx:l[(lo+hi) / 2]? =some l[(lo+hi) / 2]:=getElem?_eq_getElem hm
      generalize l[(lo+hi) / 2]=x at hx
      have gx:=hs x (mem_of_getElem? hx)
      have e:CV F x q=some (x.Seq - q):=by unfold CV; rw[wr (by omega) (by omega)]
      simp only[ofNat_lt,hlt,decide_true,if_true,aBL (show lo+hi < 1000000000 by omega),aX,hx,bind_some,e]
      by_cases hk:x.Seq < q
      . simp only[show x.Seq - q < 0 by omega,decide_true,if_true,aG]
        rw[iG (by omega)]
        exact W6 hr hq hs hl G ((lo+hi) / 2+1) hi (by omega) h2 (by omega) (λj y hy hj=>by
          rcases lt_or_ge j ((lo+hi) / 2) with w | w
          . exact Int.lt_trans (FG hr hy hx w) hk
          . obtain rfl:j=(lo+hi) / 2:=by omega
            rw[hx] at hy; cases hy; exact hk) h5
      . simp only[show ¬x.Seq - q < 0 by omega,decide_false,false_eq_true,if_false,aG]
        exact W6 hr hq hs hl G lo ((lo+hi) / 2) (by omega) (by omega) (by omega) h4 (λj y hy hj=>by
          rcases lt_or_ge ((lo+hi) / 2) j with w | w
          . have:=FG hr hx hy w; omega
          . obtain rfl:j=(lo+hi) / 2:=by omega
            rw[hx] at hy; cases hy; omega)
    . obtain rfl:lo=hi:=by omega
      refine⟨lo,h2, ?_,h4,h5⟩
      simp
theorem aIV {F:Nat} {l:List aT} {q:Int} (hF:1000<=F) (hr:l.Pairwise λy x=>y.Seq < x.Seq) (hq:0<=q/\q<=1073741824) (hs:∀x∈l,0<=x.Seq/\x.Seq<=1073741824) (hl:l.length < 1000):
    ∃p:Nat,AtE l q p/\OA F l q (λx0 x1=>CV F x0 x1)=some ((p:Int),SI l q):=by
  obtain⟨p,hp,e,h1,h2⟩:=W6 (F:=F) hr hq hs hl F 0 l.length (by omega) (le_refl _) (by omega) (λj x _ hj=>by omega) (λj x hx hj=>by have:=(List.getElem?_eq_some_iff.1 hx).1; omega)
  refine⟨p,⟨hp,λx hx=> ?_,λx hx=> ?_⟩, ?_⟩
  . obtain⟨i,hi,rfl⟩:=getElem_of_mem hx
    simp only[length_take] at hi
    rw[getElem_take]
    exact h1 i _ (getElem?_eq_getElem (by omega)) (by omega)
  . obtain⟨i,hi,rfl⟩:=getElem_of_mem hx
    simp only[length_drop] at hi
    rw[getElem_drop]
    exact h2 (p+i) _ (getElem?_eq_getElem (by omega)) (by omega)
  . unfold OA
    rw[show ((0:Int),(l.length:Int))=(((0:Nat):Int),(l.length:Int)) from rfl,e]
    simp only[aG]
    by_cases hlt:p < l.length
    . have hx:l[p]? =some l[p]:=getElem?_eq_getElem hlt
      have hmem:=getElem_mem hlt
      generalize l[p]=x at hx hmem
      have gx:=hs x hmem
      have hge:=h2 p x hx (le_refl _)
      have e:CV F x q=some (x.Seq - q):=by unfold CV; rw[wr (by omega) (by omega)]
      simp only[ofNat_lt,hlt,decide_true,if_true,aX,hx,bind_some,e,aG]
      congr 2
      rw[Bool.eq_iff_iff]
      unfold SI
      simp only[beq_iff_eq,any_eq_true]
      constructor
      . intro h; exact⟨x,hmem,by omega⟩
      . rintro⟨y,hy,e⟩
        obtain⟨j,hj,rfl⟩:=getElem_of_mem hy
        have hj':l[j]? =some l[j]:=getElem?_eq_getElem hj
        rcases lt_trichotomy j p with w | w | w
        . have:=h1 j _ hj' w; omega
        . subst w; rw[hj'] at hx; cases hx; omega
        . have:=FG hr hx hj' w; omega
    . simp only[show ¬((p:Int) < (l.length:Int)) by omega,decide_false,false_eq_true,if_false,aG]
      congr 2
      symm
      unfold SI
      rw[any_eq_false]
      intro x hx
      obtain⟨j,hj,rfl⟩:=getElem_of_mem hx
      have:=h1 j _ (getElem?_eq_getElem hj) (by omega)
      simp; omega
structure It (i:aE):Prop where
 id:mL i.Id
 q0:0<=i.Seq/\i.Seq<=1073741824
 k:1<=i.Kind/\i.Kind<=3
 of:gI i.Of
 off:gI i.Off
 len:gI i.Len
def pK (i:aE) (a:aS) (y:aB):aB:=if i.Kind=1/\y.Id=i.Id then { y with Locs:=fR y.Locs a} else y
def w7 (i:aE) (a:aS) (s:aH):aH:=if i.Kind=2/\s.Seq=i.Seq then { s with Locs:=fR s.Locs a} else s
def vT (l:List aT) (i:aE):aT:=match l.find? λx=>decide (x.Seq=i.Seq) with | some x=>x | none=> { Seq:=i.Seq,Of:=i.Of,Locs:=[]}
def mI (l:List aT) (i:aE) (a:aS):List aT:=(l.filter λx=>decide (x.Seq < i.Seq))++ { vT l i with Locs:=fR (vT l i).Locs a}::l.filter λx=>decide (i.Seq < x.Seq)
def w8 (c:aA) (i:aE) (a:aS):aA:={ c with
 Seq:=if i.Kind=3 then max c.Seq (i.Seq+1) else c.Seq
 Snaps:=c.Snaps.map (w7 i a)
 Chunks:=c.Chunks.map (pK i a)
 Exps:=if i.Kind=3 then mI c.Exps i a else c.Exps}
def jY (c:aA) (i:aE):Bool:=if i.Kind=1 then kM c.Chunks i.Id else if i.Kind=2 then c.Snaps.any (λs=>s.Seq==i.Seq) else true
structure Wm (n:Nat) (c:aA):Prop where
 g:A8 c
 r:uR c.Chunks
 cn:c.Chunks.length<=400
 cl:∀x∈c.Chunks,x.Locs.length<=n/\x.Data.length<=300
 so:c.Snaps.Pairwise λy x=>y.Seq < x.Seq
 sn:c.Snaps.length<=12
 sl:∀x∈c.Snaps,x.Locs.length<=n
 man:∀s∈c.Snaps,s.Man.Name.size<=100/\s.Man.Parts.length<=10/\∀p∈s.Man.Parts,p.Path.size<=100/\p.Ids.length<=40
 eo:c.Exps.Pairwise λy x=>y.Seq < x.Seq
 en:c.Exps.length<=n
 el:∀x∈c.Exps,x.Locs.length<=n
 eq:∀x∈c.Exps,0<=x.Seq/\x.Seq<=1073741824/\x.Seq < c.Seq
 q:0<=c.Seq/\c.Seq<=1073741826
 vo:c.Vols.length<=20
theorem Wm.sm {n:Nat} {c:aA} (h:Wm n c) (hn:n<=300):Sm c:=
 ⟨h.g,h.sn,h.cn,le_trans h.en hn,h.vo,λs hs=>le_trans (h.sl s hs) hn,λs hs=>⟨le_trans (h.cl s hs).1 hn,(h.cl s hs).2⟩,λs hs=>le_trans (h.el s hs) hn,h.man⟩
theorem aIW {F n:Nat} {c:aA} {i:aE} {a:aS} (hF:1000<=F) (h:Wm n c) (hn:n<=300) (hi:It i):
    HE F c i a=some (if jY c i then (0,(w8 c i a).Seq,(w8 c i a).Snaps,(w8 c i a).Chunks,(w8 c i a).Exps) else (8,c.Seq,c.Snaps,c.Chunks,c.Exps)):=by
  have hcn:=h.cn
  have hsn:=h.sn
  have hen:=h.en
  have hk:=hi.k
  unfold HE w8 jY
  by_cases k1:i.Kind=1
  . have e2:c.Snaps.map (w7 i a)=c.Snaps:=kH λy _=>by unfold w7; rw[if_neg (by omega)]
    obtain⟨p,ha,e⟩:=aCN hF h.r hi.id (l:=c.Chunks) (by omega)
    rw[if_pos (by simp[k1]),e]
    simp only[bind_some,k1,if_true,e2,show ¬((1:Int)=3) by omega,if_false]
    cases hh:kM c.Chunks i.Id with
    | false=>simp[cE]
    | true=>
      obtain⟨x,h1,h2⟩:=HF h.r ha hi.id hh
      have hx:=mem_of_getElem? h1
      simp only[Bool.not_true,false_eq_true,if_false,aX,h1,bind_some,I1 hF (show x.Locs.length<=400 by have:=(h.cl x hx).1; omega),aG,toNat_natCast]
      rw[o7 (λy:aB=>y.Id=i.Id) (λy=> { y with Locs:=fR y.Locs a}) h1 h2 (λy hy e=>by
        have:=ha.lo y hy
        rw[e] at this; omega) (λy hy e=>by
        obtain⟨j,hj,rfl⟩:=getElem_of_mem hy
        simp only[length_drop] at hj
        rw[getElem_drop] at e
        have:=h.r.2 p (p+1+j) _ _ h1 (getElem?_eq_getElem (by omega)) (by omega)
        rw[e,h2] at this; omega)]
      simp[pK,k1]
  . have e1:c.Chunks.map (pK i a)=c.Chunks:=kH λy _=>by unfold pK; rw[if_neg (by omega)]
    rw[if_neg (by simpa using k1)]
    by_cases k2:i.Kind=2
    . have hi2:p8 F c.Snaps (λx0=>N9 F x0 i)=some (rO c.Snaps λs=>s.Seq==i.Seq):=by
        unfold p8
        refine mM (l:=c.Snaps) (λs:aH=>s.Seq==i.Seq) (by omega) (λi' x hx hm hi'=> ?_) (by unfold lT; simp)
        unfold lT N9
        rw[iG (by omega)]
        simp only[aX,hx,bind_some,ofNat_lt,hi',decide_true,if_true]
        split<;>rfl
      rw[if_pos (by simp[k2]),hi2]
      simp only[bind_some,k2,show ¬((2:Int)=1) by omega,if_true,e1,show ¬((2:Int)=3) by omega,if_false]
      cases ha:c.Snaps.any (λs=>s.Seq==i.Seq) with
      | false=>rw[mN ha]; simp[cE]
      | true=>
        obtain⟨p,x,h1,h2,h3,h4⟩:=kK ha
        have hx:=mem_of_getElem? h2
        rw[h1]
        simp only[show decide ((p:Int) < 0)=false from decide_eq_false (by omega),false_eq_true,if_false,aX,h2,bind_some,I1 hF (show x.Locs.length<=400 by have:=h.sl x hx; omega),aG,toNat_natCast,if_true]
        have h3:x.Seq=i.Seq:=by simpa using h3
        rw[o7 (λy:aH=>y.Seq=i.Seq) (λy=> { y with Locs:=fR y.Locs a}) h2 h3 (λy hy e=>by
          have:=h4 y hy
          simp[e] at this) (λy hy e=>by
          obtain⟨j,hj,rfl⟩:=getElem_of_mem hy
          simp only[length_drop] at hj
          rw[getElem_drop] at e
          have:=FG h.so h2 (getElem?_eq_getElem (show p+1+j < c.Snaps.length by omega)) (by omega)
          omega)]
        simp[w7,k2]
    . have k3:i.Kind=3:=by omega
      have e2:c.Snaps.map (w7 i a)=c.Snaps:=kH λy _=>by unfold w7; rw[if_neg (by omega)]
      obtain⟨p,ha,e⟩:=aIV hF h.eo hi.q0 (λx hx=>⟨(h.eq x hx).1,(h.eq x hx).2.1⟩) (l:=c.Exps) (by omega)
      have hp:=ha.le
      rw[if_neg (by simpa using k2),if_pos (by simp[k3]),e]
      simp only[bind_some,k3,if_true,e1,e2,show ¬((3:Int)=1) by omega,show ¬((3:Int)=2) by omega,if_false]
      have hq0:=hi.q0
      have lowE:(c.Exps.filter λx=>decide (x.Seq < i.Seq))=c.Exps.take p:=by
        have e:(c.Exps.filter λx=>decide (x.Seq < i.Seq))=(c.Exps.take p++c.Exps.drop p).filter λx=>decide (x.Seq < i.Seq):=by rw[take_append_drop]
        rw[e,filter_append,filter_eq_self.2 λy hy=>decide_eq_true (ha.lo y hy),filter_eq_nil_iff.2 λy hy=>by
          have:=ha.hi y hy
          simp; omega]
        simp
      have higE:∀m,p+m<=c.Exps.length->(∀y∈(c.Exps.drop p).take m,y.Seq=i.Seq)->(∀y∈c.Exps.drop (p+m),y.Seq≠i.Seq)->(c.Exps.filter λx=>decide (i.Seq < x.Seq))=c.Exps.drop (p+m):=λm hm h5 h6=>by
        have e:(c.Exps.filter λx=>decide (i.Seq < x.Seq))=(c.Exps.take p++((c.Exps.drop p).take m++(c.Exps.drop p).drop m)).filter λx=>decide (i.Seq < x.Seq):=by rw[take_append_drop,take_append_drop]
        rw[e,filter_append,filter_append,filter_eq_nil_iff.2 λy hy=>by
          have:=ha.lo y hy
          simp; omega,filter_eq_nil_iff.2 λy hy=>by simp[h5 y hy],List.drop_drop,filter_eq_self.2 λy hy=>by
          have h7:=ha.hi y (by
            have:y∈(c.Exps.drop p).drop m:=by rw[List.drop_drop]; exact hy
            exact mem_of_mem_drop this)
          have:=h6 y hy
          exact decide_eq_true (by omega)]
        simp
      cases hh:SI c.Exps i.Seq with
      | false=>
        have hf:(c.Exps.find? λx=>decide (x.Seq=i.Seq))=none:=find?_eq_none.2 λx hx=>by
          have:=any_eq_false.1 hh x hx
          simpa using this
        have g0:(c.Exps.take p++({ Seq:=i.Seq,Of:=i.Of,Locs:=[]}:aT)::c.Exps.drop p)[p]? =some { Seq:=i.Seq,Of:=i.Of,Locs:=[]}:=by
          rw[List.getElem?_append_right (by simp; omega)]
          simp[Nat.min_eq_left hp]
        have eh:=higE 0 hp (λy hy=>by simp at hy) (λy hy e=>by
          have:=any_eq_false.1 hh y (mem_of_mem_drop hy)
          simp[e] at this)
        simp only[Nat.add_zero] at eh
        simp only[Bool.not_false,if_true,IV hp (show c.Exps.length < 1000 by omega),bind_some,aG,aX,g0,I1 hF (show ([]:List aS).length<=400 by simp),toNat_natCast,wr (n:=i.Seq+1) (by omega) (by omega)]
        unfold mI vT
        rw[hf,lowE,eh,List.set_append_right _ _ (by simp; omega)]
        simp[Nat.min_eq_left hp]
      | true=>
        obtain⟨y,hy,ey⟩:=any_eq_true.1 hh
        have ey:y.Seq=i.Seq:=by simpa using ey
        have hpl:p < c.Exps.length:=by
          rcases lt_or_ge p c.Exps.length with w | w
          . exact w
          . have:y∈c.Exps.take p:=by rw[take_of_length_le w]; exact hy
            have:=ha.lo y this; omega
        have h1:c.Exps[p]? =some c.Exps[p]:=getElem?_eq_getElem hpl
        have hx:=getElem_mem hpl
        have h2:(c.Exps[p]).Seq=i.Seq:=by
          have hge:=ha.hi c.Exps[p] (by rw[List.drop_eq_getElem_cons hpl]; exact mem_cons_self)
          obtain⟨j,hj,rfl⟩:=getElem_of_mem hy
          rcases lt_trichotomy j p with w | w | w
          . have:=ha.lo (c.Exps[j]) (mem_of_getElem? (i:=j) (by rw[List.getElem?_take_of_lt w]; exact getElem?_eq_getElem hj)); omega
          . subst w; exact ey
          . have:=FG h.eo h1 (getElem?_eq_getElem hj) w; omega
        generalize c.Exps[p]=x at h1 h2 hx
        have hdr:∀z∈c.Exps.drop (p+1),x.Seq < z.Seq:=λz hz=>by
          obtain⟨j,hj,rfl⟩:=getElem_of_mem hz
          simp only[length_drop] at hj
          rw[getElem_drop]
          exact FG h.eo h1 (getElem?_eq_getElem (show p+1+j < c.Exps.length by omega)) (by omega)
        have hf:(c.Exps.find? λz=>decide (z.Seq=i.Seq))=some x:=by
          cases e:c.Exps.find? λz=>decide (z.Seq=i.Seq) with
          | none=>
            have:=find?_eq_none.1 e x hx
            simp[h2] at this
          | some z=>
            have h5:z.Seq=i.Seq:=by simpa using find?_some e
            obtain⟨j,hj,rfl⟩:=getElem_of_mem (List.mem_of_find?_eq_some e)
            rcases lt_trichotomy j p with w | w | w
            . have:=FG h.eo (getElem?_eq_getElem hj) h1 w; omega
            . subst w; rw[getElem?_eq_getElem hj] at h1; exact h1
            . have:=FG h.eo h1 (getElem?_eq_getElem hj) w; omega
        have eh:=higE 1 (by omega) (λz hz=>by
          rw[List.drop_eq_getElem_cons hpl,List.take_succ_cons,List.take_zero] at hz
          have:z=c.Exps[p]:=mem_singleton.1 hz
          rw[getElem?_eq_getElem hpl] at h1
          rw[this,Option.some.inj h1,h2]) (λz hz e=>by have:=hdr z hz; omega)
        have hsq:=(h.eq x hx).2.2
        simp only[Bool.not_true,false_eq_true,if_false,aG,aX,h1,bind_some,I1 hF (show x.Locs.length<=400 by have:=h.el x hx; omega),toNat_natCast]
        unfold mI vT
        rw[hf,lowE,eh,List.set_eq_take_append_cons_drop,if_pos hpl,show max c.Seq (i.Seq+1)=c.Seq by omega]
theorem zB {S ρ:Type} {body:S->Option (Lp S ρ)} {n:Nat} (emb:Nat->S) (p:Nat->Bool) (R:ρ->Prop) (hb:∀i,i < n->p i=true->body (emb i)=some (.go (emb (i+1))))
    (hb2:∀i,i < n->p i=false->∃r,R r/\body (emb i)=some (.ret r)) (he:body (emb n)=some (.brk (emb n))):∀(m k G:Nat),k+m=n->m < G->
    ((∀j,k<=j->j < n->p j=true)/\aR body G (emb k)=some (.brk (emb n)))\/((∃j,k<=j/\j < n/\p j=false)/\∃r,R r/\aR body G (emb k)=some (.ret r))
  | 0,k,G+1,h,_=>.inl ⟨λj h1 h2=>by omega,by
      obtain rfl:k=n:=by omega
      unfold aR; rw[he]⟩
  | m+1,k,G+1,h,hG=>by
    unfold aR
    cases hp:p k with
    | false=>
      obtain⟨r,h1,h2⟩:=hb2 k (by omega) hp
      exact .inr ⟨⟨k,le_refl _,by omega,hp⟩,r,h1,by rw[h2]⟩
    | true=>
      rw[hb k (by omega) hp]
      rcases zB emb p R hb hb2 he m (k+1) G (by omega) (by omega) with⟨h1,h2⟩ | ⟨⟨j,h1,h2,h3⟩,h4⟩
      . refine .inl ⟨λj h3 h4=> ?_,h2⟩
        rcases lt_or_ge k j with w | w
        . exact h1 j w h4
        . obtain rfl:j=k:=by omega
          exact hp
      . exact .inr ⟨⟨j,by omega,h2,h3⟩,h4⟩
def qS (p:Int) (i:aE) (y:aB):aB:=if p=0/\i.Kind=1/\y.Id=i.Id then { y with Staged:=false,Data:=[]} else y
def wB (p:Int) (c:aA) (i:aE) (a:aS):aA:={ w8 c i a with Chunks:=(w8 c i a).Chunks.map (qS p i)}
def jV (v f:Int) (i:aE):aS:={ Vol:=v,File:=f,Off:=i.Off,Len:=i.Len}
def w9 (p v f:Int) (c:aA) (l:List aE):aA:=l.foldl (λc i=>wB p c i (jV v f i)) c
def ws (c:aA) (v:Int) (x:aQ):aA:={ c with Vols:=c.Vols.set v.toNat { x with State:=2,Files:=x.Files+1}}
def jE (l:List aE) (s:aH):Bool:=l.any λi=>i.Kind==3 && s.Seq==i.Of
def iU (c:aA) (d:aV) (x:aQ):aA:=w9 x.Pool d.Vol (x.Files+1) (ws c d.Vol x) d.Items
def rU (c:aA) (d:aV) (x:aQ):aA:={ iU c d x with Snaps:=(iU c d x).Snaps.filter λs=> !jE d.Items s}
def jI (c:aA) (d:aV) (x:aQ):aA:=if (rU c d x).Snaps.length < (iU c d x).Snaps.length then { rU c d x with Chunks:=KN (rU c d x)} else rU c d x
theorem qG (i:aE) (a:aS) (y:aB):(pK i a y).Id=y.Id:=by unfold pK; split<;>rfl
theorem DG (p:Int) (i:aE) (y:aB):(qS p i y).Id=y.Id:=by unfold qS; split<;>rfl
theorem o8 (i:aE) (a:aS) (y:aH):(w7 i a y).Seq=y.Seq/\(w7 i a y).Man=y.Man:=by unfold w7; split<;>exact⟨rfl,rfl⟩
theorem zD (l:List aT) (i:aE):(vT l i).Seq=i.Seq:=by
 unfold vT
 cases e:l.find? λx=>decide (x.Seq=i.Seq) with
 | none=>rfl
 | some x=>simpa using find?_some e
theorem I3 (l:List aT) (i:aE):vT l i∈l\/vT l i= { Seq:=i.Seq,Of:=i.Of,Locs:=[]}:=by
 unfold vT
 cases e:l.find? λx=>decide (x.Seq=i.Seq) with
 | none=>exact .inr rfl
 | some x=>exact .inl (List.mem_of_find?_eq_some e)
theorem oD {l:List aB} {f:aB->aB} (h:∀y,(f y).Id=y.Id) (d:bH):kM (l.map f) d=kM l d:=by
 unfold kM
 rw[any_map]
 congr 1
 funext y
 simp[h y]
theorem PB {p:Int} {c:aA} {i j:aE} {a:aS}:jY (wB p c i a) j=jY c j:=by
 unfold jY
 have e1:kM (wB p c i a).Chunks j.Id=kM c.Chunks j.Id:=by
  show kM ((c.Chunks.map (pK i a)).map (qS p i)) j.Id=_
  rw[oD (DG p i),oD (qG i a)]
 have e2:(wB p c i a).Snaps.any (λs=>s.Seq==j.Seq)=c.Snaps.any λs=>s.Seq==j.Seq:=by
  show (c.Snaps.map (w7 i a)).any _=_
  rw[any_map]
  congr 1
  funext y
  simp[(o8 i a y).1]
 rw[e1,e2]
theorem PC (l:List aT) (i:aE) (a:aS):(mI l i a).length<=l.length+1:=by
 have:∀m:List aT,(m.filter λx=>decide (x.Seq < i.Seq)).length+(m.filter λx=>decide (i.Seq < x.Seq)).length<=m.length:=by
  intro m
  induction m with
  | nil=>simp
  | cons b m ih=>
   by_cases h1:b.Seq < i.Seq
   ·have h2:¬i.Seq < b.Seq:=by omega
    simp[filter_cons,h1,h2]; omega
   ·by_cases h2:i.Seq < b.Seq<;>simp[filter_cons,h1,h2]<;>omega
 have:=this l
 unfold mI
 simp only[length_append,length_cons]
 omega
theorem PD {P:aT->Prop} {l:List aT} {i:aE} {a:aS} (h:∀x∈l,P x) (h1:∀x∈l,P { x with Locs:=fR x.Locs a}) (h2:P { Seq:=i.Seq,Of:=i.Of,Locs:=fR [] a}):∀x∈mI l i a,P x:=by
 intro x hx
 unfold mI at hx
 rcases mem_append.1 hx with hx | hx
 ·exact h x (mem_filter.1 hx).1
 ·rcases mem_cons.1 hx with rfl | hx
  ·rcases I3 l i with e | e
   ·exact h1 _ e
   ·rw[e]; exact h2
  ·exact h x (mem_filter.1 hx).1
theorem SJ {l:List aT} {i:aE} {a:aS} (h:l.Pairwise λy x=>y.Seq < x.Seq):(mI l i a).Pairwise λy x=>y.Seq < x.Seq:=by
 unfold mI
 have hs:=zD l i
 refine List.pairwise_append.2 ⟨h.sublist filter_sublist,List.pairwise_cons.2 ⟨λy hy=> ?_,h.sublist filter_sublist⟩,λy hy z hz=> ?_⟩
 ·have:=of_decide_eq_true (mem_filter.1 hy).2
  simp only[hs]; exact this
 ·have h1:=of_decide_eq_true (mem_filter.1 hy).2
  rcases mem_cons.1 hz with rfl | hz
  ·simp only[hs]; exact h1
  ·have:=of_decide_eq_true (mem_filter.1 hz).2
   omega
theorem HP {l:List aS} {a:aS} (h:gL pY l) (ha:pY a):gL pY (fR l a):=λx hx=>by
 rcases kC.1 hx with h1 | rfl
 ·exact h x h1
 ·exact ha
theorem xA {l:List aB} {f:aB->aB} (h:∀y,(f y).Id=y.Id) (hr:uR l):uR (l.map f):=by
 rw[qC] at*
 refine⟨λx hx=> ?_,List.pairwise_map.2 (hr.2.imp fun {a b} e=>by rw[h a,h b]; exact e)⟩
 obtain⟨y,hy,rfl⟩:=mem_map.1 hx
 rw[h y]; exact hr.1 y hy
theorem Wm.step {n:Nat} {c:aA} {i:aE} {a:aS} (p:Int) (h:Wm n c) (hi:It i) (ha:pY a):Wm (n+1) (wB p c i a):=by
 obtain⟨g0,g1,g2,g3,g4⟩:=h.g
 have hq:=h.q
 have hiq:=hi.q0
 have hsq:0<=(wB p c i a).Seq/\(wB p c i a).Seq<=1073741826/\c.Seq<=(wB p c i a).Seq/\(i.Kind=3->i.Seq < (wB p c i a).Seq):=by
  show 0<=(if i.Kind=3 then max c.Seq (i.Seq+1) else c.Seq)/\(if i.Kind=3 then max c.Seq (i.Seq+1) else c.Seq)<=_/\c.Seq<=(if i.Kind=3 then max c.Seq (i.Seq+1) else c.Seq)/\(i.Kind=3->i.Seq < (if i.Kind=3 then max c.Seq (i.Seq+1) else c.Seq))
  split<;>omega
 have el:∀P:aT->Prop,(∀x∈c.Exps,P x)->(∀x∈c.Exps,P { x with Locs:=fR x.Locs a})->(i.Kind=3->P { Seq:=i.Seq,Of:=i.Of,Locs:=fR [] a})->∀x∈(wB p c i a).Exps,P x:=λP h1 h2 h3 x hx=>by
  have hx:x∈(if i.Kind=3 then mI c.Exps i a else c.Exps):=hx
  split at hx
  ·rename_i k; exact PD h1 h2 (h3 k) x hx
  ·exact h1 x hx
 have cl:∀P:aB->Prop,(∀x∈c.Chunks,∀l d s,(l=x.Locs\/l=fR x.Locs a)->(d=x.Data\/d= [])->P { Id:=x.Id,Staged:=s,Data:=d,Locs:=l})->∀x∈(wB p c i a).Chunks,P x:=λP h1 x hx=>by
  obtain⟨y,hy,rfl⟩:=mem_map.1 hx
  obtain⟨z,hz,rfl⟩:=mem_map.1 hy
  unfold qS pK
  split<;>split<;>first | exact h1 z hz _ _ _ (.inr rfl) (.inr rfl) | exact h1 z hz _ _ _ (.inl rfl) (.inr rfl) | exact h1 z hz _ _ _ (.inr rfl) (.inl rfl) | exact h1 z hz _ _ _ (.inl rfl) (.inl rfl)
 have sl:∀P:aH->Prop,(∀x∈c.Snaps,∀l,(l=x.Locs\/l=fR x.Locs a)->P { x with Locs:=l})->∀x∈(wB p c i a).Snaps,P x:=λP h1 x hx=>by
  obtain⟨z,hz,rfl⟩:=mem_map.1 hx
  unfold w7
  split
  ·exact h1 z hz _ (.inr rfl)
  ·exact h1 z hz _ (.inl rfl)
 have pl:∀l l':List aS,(l'=l\/l'=fR l a)->l.length<=n->l'.length<=n+1:=λl l' e hl=>by
  rcases e with rfl | rfl
  ·omega
  ·rw[kD]; omega
 have pg:∀l l':List aS,(l'=l\/l'=fR l a)->gL pY l->gL pY l':=λl l' e hl=>by
  rcases e with rfl | rfl
  ·exact hl
  ·exact HP hl ha
 have p0:(fR [] a).length<=n+1:=by rw[kD]; simp
 refine⟨⟨⟨by omega,by omega⟩,sl _ λx hx l e=>⟨(g1 x hx).1,(g1 x hx).2.1,pg _ _ e (g1 x hx).2.2⟩,cl _ λx hx l d s e e2=>⟨(g2 x hx).1,trivial, ?_,pg _ _ e (g2 x hx).2.2.2⟩,el _ g3 (λx hx=>⟨(g3 x hx).1,(g3 x hx).2.1,HP (g3 x hx).2.2 ha⟩) λ_=>⟨⟨by show _<=i.Seq; omega,by show i.Seq < _; omega⟩,hi.of,HP (λ_ h=>by cases h) ha⟩,g4⟩,xA (DG p i) (xA (qG i a) h.r), ?_,cl _ λx hx l d s e e2=>⟨pl _ _ e (h.cl x hx).1, ?_⟩,List.pairwise_map.2 (h.so.imp fun {y z} e=>by rw[(o8 i a y).1,(o8 i a z).1]; exact e), ?_,sl _ λx hx l e=>pl _ _ e (h.sl x hx),sl _ λx hx l e=>h.man x hx, ?_, ?_,el _ (λx hx=>Nat.le_succ_of_le (h.el x hx)) (λx hx=>pl _ _ (.inr rfl) (h.el x hx)) λ_=>p0, ?_,⟨hsq.1,hsq.2.1⟩,h.vo⟩
 ·rcases e2 with rfl | rfl
  ·exact(g2 x hx).2.2.1
  ·intro z hz; cases hz
 ·show ((c.Chunks.map _).map _).length<=_
  simp; exact h.cn
 ·rcases e2 with rfl | rfl
  ·exact(h.cl x hx).2
  ·simp
 ·show (c.Snaps.map _).length<=_
  simp; exact h.sn
 ·show List.Pairwise _ (if i.Kind=3 then mI c.Exps i a else c.Exps)
  split
  ·exact SJ h.eo
  ·exact h.eo
 ·show (if i.Kind=3 then mI c.Exps i a else c.Exps).length<=_
  have:=h.en
  split
  ·have:=PC c.Exps i a; omega
  ·omega
 ·refine λx hx=>⟨?_, ?_, ?_⟩
  ·exact el (λx=>0<=x.Seq) (λx hx=>(h.eq x hx).1) (λx hx=>(h.eq x hx).1) (λ_=>hiq.1) x hx
  ·exact el (λx=>x.Seq<=1073741824) (λx hx=>(h.eq x hx).2.1) (λx hx=>(h.eq x hx).2.1) (λ_=>hiq.2) x hx
  ·exact el (λx=>x.Seq < (wB p c i a).Seq) (λx hx=>by have:=(h.eq x hx).2.2; omega) (λx hx=>by have:=(h.eq x hx).2.2; simp only; omega) (λk=>hsq.2.2.2 k) x hx
theorem vU {p v f:Int} (gv:gI v) (gf:gI f):∀ {l:List aE} {n:Nat} {c:aA},Wm n c->(∀i∈l,It i)->Wm (n+l.length) (w9 p v f c l)
 | [],_,_,h,_=>h
 | i::l,n,c,h,hi=>by
  have:=vU (p:=p) gv gf (l:=l) (h.step p (hi i mem_cons_self) (a:=jV v f i) ⟨gv,gf,(hi i mem_cons_self).off,(hi i mem_cons_self).len⟩) λj hj=>hi j (mem_cons_of_mem _ hj)
  rw[length_cons,show n+(l.length+1)=n+1+l.length by omega]
  exact this
theorem zG {p v f:Int} {j:aE}:∀ {l:List aE} {c:aA},jY (w9 p v f c l) j=jY c j
 | [],_=>rfl
 | i::l,c=>by
  show jY (w9 p v f (wB p c i (jV v f i)) l) j=_
  rw[zG,PB]
structure Wd (d:aV):Prop where
 n:d.Items.length<=64
 it:∀i∈d.Items,mL i.Id/\(0<=i.Seq/\i.Seq<=1073741824)/\gI i.Of/\gI i.Off/\gI i.Len
def gs (l:List aE):List Int:=l.foldl (λa i=>if i.Kind==3 then mB a i.Of else a) []
theorem PE {l:List Int} {x:Int} (q:Int->Bool):(mB l x).any q=(l.any q || q x):=by
 unfold mB
 split
 ·rename_i h
  obtain⟨y,hy,e⟩:=any_eq_true.1 h
  have e:x=y:=by simpa using e
  subst e
  cases hq:q x with
  | false=>simp
  | true=>simp[any_eq_true.2 ⟨x,hy,hq⟩]
 ·simp
theorem W7 (s:aH):∀(l:List aE),((gs l).any λz=>s.Seq==z)=jE l s:=by
 have:∀(l:List aE) (a:List Int),((l.foldl (λa i=>if i.Kind==3 then mB a i.Of else a) a).any λz=>s.Seq==z)=(a.any (λz=>s.Seq==z) || jE l s):=by
  intro l
  induction l with
  | nil=>intro a; simp[jE]
  | cons i l ih=>
   intro a
   rw[List.foldl_cons,ih]
   unfold jE
   rw[List.any_cons]
   cases e:i.Kind==3 with
   | false=>simp[e]
   | true=>simp[e,PE,Bool.or_assoc]
 intro l
 unfold gs
 rw[this]
 simp
theorem SK (l:List aE) (i:aE):gs (l++ [i])=if i.Kind==3 then mB (gs l) i.Of else gs l:=by
 unfold gs
 rw[List.foldl_append]
 rfl
theorem FH (p v f:Int) (c:aA) (l:List aE) (i:aE):w9 p v f c (l++ [i])=wB p (w9 p v f c l) i (jV v f i):=by
 unfold w9
 rw[List.foldl_append]
 rfl
theorem oF (p v f:Int):∀(l:List aE) (c:aA),(w9 p v f c l).Vols=c.Vols
 | [],_=>rfl
 | i::l,c=>oF p v f l (wB p c i (jV v f i))
theorem I4 {c:aA} {v:Int} {x:aQ} (h:Sm c) (hg:Gd c) (hx:c.Vols[v.toNat]? =some x):Wm 200 (ws c v x):=by
 obtain⟨g0,g1,g2,g3,g4⟩:=h.g
 have hq:=hg.q
 unfold fB at hq
 simp only[and_eq_true,decide_eq_true_eq] at hq
 have hxb:=hg.v x (mem_of_getElem? hx)
 unfold mE fB at hxb
 simp only[and_eq_true,or_eq_true,decide_eq_true_eq,beq_iff_eq] at hxb
 refine⟨⟨g0,g1,g2,g3,λy hy=> ?_⟩,qC.2 ⟨λy hy=>(g2 y hy).1,hg.co⟩,h.ch,λy hy=>⟨(hg.cl y hy).n,(h.cl y hy).2⟩,hg.so,h.sn,λy hy=>(hg.sl y hy).n,h.man,hg.eo,hg.en,λy hy=>(hg.el y hy).n,λy hy=> ?_,⟨hq.1,by show c.Seq<=_; omega⟩, ?_⟩
 ·rcases List.mem_or_eq_of_mem_set hy with h1 | rfl
  ·exact g4 y h1
  ·have:=g4 x (mem_of_getElem? hx)
   exact⟨this.1,this.2.1,(⟨by decide,by decide⟩:gI 2),(⟨by show _<=x.Files+1; omega,by show x.Files+1 < _; omega⟩:gI (x.Files+1))⟩
 ·have:=(hg.eq y hy).1
  unfold fB at this
  simp only[and_eq_true,decide_eq_true_eq] at this
  exact⟨this.1,by omega,by show y.Seq < c.Seq; omega⟩
 ·show (c.Vols.set _ _).length<=20
  rw[List.length_set]; exact h.vo
theorem aIX {F:Nat} {l:List aE} (hF:1000<=F) (hl:l.length<=64):OF F l (λx0=>KL F x0)=some (l.any λi=>decide (i.Kind < 1) || decide (3 < i.Kind)):=by
 have h1:OE F l (λx0=>KL F x0)=some (rO l λi=>decide (i.Kind < 1) || decide (3 < i.Kind)):=by
  unfold OE
  refine mM (l:=l) (λi:aE=>decide (i.Kind < 1) || decide (3 < i.Kind)) (by omega) (λi x hx hm hi=> ?_) (by unfold tX; simp)
  unfold tX KL
  rw[iG (by omega)]
  simp only[aX,hx,bind_some,ofNat_lt,hi,decide_true,if_true]
  by_cases a:x.Kind < 1<;>by_cases b:3 < x.Kind<;>simp[a,b,aG]
 unfold OF
 rw[h1]
 simp only[bind_some]
 cases ha:l.any (λi=>decide (i.Kind < 1) || decide (3 < i.Kind)) with
 | false=>rw[mN ha]; rfl
 | true=>
  obtain⟨i,x,h1, -⟩:=kK ha
  rw[h1]
  simp
def jR (x:aQ) (d:aV):Bool:= !(x.State==3) && !d.Items.isEmpty && !d.Items.any λi=>decide (i.Kind < 1) || decide (3 < i.Kind)
theorem SM {l:List aB} {d:bH} {p:Nat} {y:aB} (f:aB->aB) (hr:uR l) (ha:At l d p) (hy:l[p]? =some y) (hd:y.Id=d):l.set p (f y)=l.map λz=>if z.Id=d then f z else z:=
 o7 (λz:aB=>z.Id=d) f hy hd (λz hz e=>by
  have:=ha.lo z hz
  rw[e] at this; omega) λz hz e=>by
  obtain⟨j,hj,rfl⟩:=getElem_of_mem hz
  simp only[length_drop] at hj
  rw[getElem_drop] at e
  have:=hr.2 p (p+1+j) _ _ hy (getElem?_eq_getElem (by omega)) (by omega)
  rw[e,hd] at this; omega
theorem FI {F:Nat} {c:aA} {d:aV} {x:aQ} {i:aE} {k:Nat} (hF:1000<=F) (hW:Wm 200 (ws c d.Vol x)) (gv:gI d.Vol) (gf:0<=x.Files/\x.Files<=65535) (hn:d.Items.length<=64) (hI:∀i∈d.Items,It i) (hk:k < d.Items.length) (hi:d.Items[k]? =some i)
    (e:aA) (he:e=w9 x.Pool d.Vol (x.Files+1) (ws c d.Vol x) (d.Items.take k)):
    (jY (ws c d.Vol x) i=true->oZ F c d x (gs (d.Items.take k)) e.Seq e.Snaps e.Chunks e.Exps (k:Int)=some (.go (gs (d.Items.take (k+1)),(wB x.Pool e i (jV d.Vol (x.Files+1) i)).Seq,(wB x.Pool e i (jV d.Vol (x.Files+1) i)).Snaps,(wB x.Pool e i (jV d.Vol (x.Files+1) i)).Chunks,(wB x.Pool e i (jV d.Vol (x.Files+1) i)).Exps,((k+1:Nat):Int))))/\
    (jY (ws c d.Vol x) i=false->∃r,r.1=8/\oZ F c d x (gs (d.Items.take k)) e.Seq e.Snaps e.Chunks e.Exps (k:Int)=some (.ret r)):=by
  have gF:gI (x.Files+1):=⟨by omega,by omega⟩
  have hm:=mem_of_getElem? hi
  have It':=hI i hm
  have hWe:=vU (p:=x.Pool) gv gF (l:=d.Items.take k) hW λj hj=>hI j (mem_of_mem_take hj)
  have hp:=zG (p:=x.Pool) (v:=d.Vol) (f:=x.Files+1) (j:=i) (l:=d.Items.take k) (c:=ws c d.Vol x)
  have hv:=oF x.Pool d.Vol (x.Files+1) (d.Items.take k) (ws c d.Vol x)
  rw[<- he] at hWe hp hv
  rw[length_take] at hWe
  have hV:(c.Vols.set d.Vol.toNat { x with State:=2}).set d.Vol.toNat { ({ x with State:=2}:aQ) with Files:=x.Files+1}=e.Vols:=by
    rw[hv,set_set]; rfl
  have hga:pY (jV d.Vol (x.Files+1) i):=⟨gv,gF,It'.off,It'.len⟩
  have hgs:gs (d.Items.take (k+1))=if i.Kind==3 then mB (gs (d.Items.take k)) i.Of else gs (d.Items.take k):=by
    obtain⟨hk',rfl⟩:=List.getElem?_eq_some_iff.1 hi
    rw[List.take_succ_eq_append_getElem hk,SK]
  have h123:=aIW (a:=jV d.Vol (x.Files+1) i) hF hWe (by omega) It'
  have wF:wrap .i64 (x.Files+1)=x.Files+1:=wr (by omega) (by omega)
  have h123':HE F { Seq:=e.Seq,Snaps:=e.Snaps,Chunks:=e.Chunks,Exps:=e.Exps,Vols:=e.Vols} i { Vol:=d.Vol,File:=x.Files+1,Off:=i.Off,Len:=i.Len}=HE F e i (jV d.Vol (x.Files+1) i):=rfl
  constructor
  . intro hpr
    rw[hp,hpr,if_pos rfl] at h123
    have hr:=xA (qG i (jV d.Vol (x.Files+1) i)) hWe.r
    obtain⟨p,ha,e116⟩:=aCN hF hr It'.id (l:=e.Chunks.map (pK i (jV d.Vol (x.Files+1) i))) (by simp; have:=hWe.cn; omega)
    have e116':yG F (w8 e i (jV d.Vol (x.Files+1) i)).Chunks i.Id=_:=e116
    unfold oZ
    rw[iG (by omega)]
    simp only[aX,hi,bind_some,ofNat_lt,hk,decide_true,if_true,wF,hV,h123',h123,e116']
    rw[if_neg (by simp),hgs]
    have gn:∀ {ρ:Type} (k':List Int->Option ρ),(after (if (i.Kind==3)then some (.brk (mB (gs (d.Items.take k)) i.Of)) else some (.brk (gs (d.Items.take k))):Option (Lp (List Int) ρ)) k')=k' (if i.Kind==3 then mB (gs (d.Items.take k)) i.Of else gs (d.Items.take k)):=λk'=>by split<;>rfl
    rw[gn]
    have fin:(wB x.Pool e i (jV d.Vol (x.Files+1) i)).Chunks=(w8 e i (jV d.Vol (x.Files+1) i)).Chunks.map (qS x.Pool i):=rfl
    by_cases k1:i.Kind=1
    . have hhas:kM (w8 e i (jV d.Vol (x.Files+1) i)).Chunks i.Id=true:=by
        show kM (e.Chunks.map (pK i (jV d.Vol (x.Files+1) i))) i.Id=true
        rw[oD (qG i _)]
        rw[<- hp] at hpr
        unfold jY at hpr
        rwa [if_pos k1] at hpr
      rw[show kM (e.Chunks.map (pK i (jV d.Vol (x.Files+1) i))) i.Id=true from hhas]
      obtain⟨y,y1,y2⟩:=HF hr ha It'.id hhas
      simp only[k1,beq_self_eq_true,if_true,aG]
      by_cases p0:x.Pool=0
      . have y1':(w8 e i (jV d.Vol (x.Files+1) i)).Chunks[p]? =some y:=y1
        have hpl:=(List.getElem?_eq_some_iff.1 y1').1
        have hb:(x.Pool==0)=true:=by simpa using p0
        simp only[hb,if_true,y1',bind_some,toNat_natCast]
        rw[List.getElem?_set_self hpl]
        simp only[bind_some,set_set,aG]
        rw[fin]
        have:=SM (λz:aB=> { z with Staged:=false,Data:=[]}) (show uR (w8 e i (jV d.Vol (x.Files+1) i)).Chunks from hr) (show At (w8 e i (jV d.Vol (x.Files+1) i)).Chunks i.Id p from ha) y1' y2
        rw[this]
        have e9:(λz:aB=>if z.Id=i.Id then ({ z with Staged:=false,Data:=[]}:aB) else z)=qS x.Pool i:=by
          funext z
          simp only[qS,p0,k1,true_and]
        rw[e9]
        rfl
      . simp only[show (x.Pool==0)=false from by simpa using p0,false_eq_true,if_false,aG]
        rw[fin,kH λz _=>by unfold qS; rw[if_neg (by simp[p0])]]
        rfl
    . simp only[show (i.Kind==1)=false from by simpa using k1,false_eq_true,if_false,aG]
      rw[fin,kH λz _=>by unfold qS; rw[if_neg (by simp[k1])]]
      rfl
  . intro hpr
    rw[hp,hpr,if_neg (by decide)] at h123
    refine⟨(8,e.Seq,e.Snaps,e.Chunks,e.Exps,e.Vols),rfl, ?_⟩
    unfold oZ
    simp only[aX,hi,bind_some,ofNat_lt,hk,decide_true,if_true,wF,hV,h123',h123]
    rw[if_pos (by simp)]
theorem n74 {F:Nat} {c:aA} {d:aV} {x:aQ} (hF:1000<=F) (h:Sm c) (hg:Gd c) (hd:Wd d) (gv:gI d.Vol) (h0:0<=d.Vol) (hx:c.Vols[d.Vol.toNat]? =some x):
    ∃r,YL F c d=some r/\(if jR x d=true then (if d.Items.all (jY c)then r=(0,(jI c d x).Seq,(jI c d x).Snaps,(jI c d x).Chunks,(jI c d x).Exps,(jI c d x).Vols) else r.1=8) else r.1=1):=by
  have hxb:=hg.v x (mem_of_getElem? hx)
  have gf:0<=x.Files/\x.Files<=65535:=by
    unfold mE fB at hxb
    simp only[and_eq_true,or_eq_true,decide_eq_true_eq,beq_iff_eq] at hxb
    omega
  have gF:gI (x.Files+1):=⟨by omega,by omega⟩
  have hlt:=(List.getElem?_eq_some_iff.1 hx).1
  have hn:=hd.n
  have hW:=I4 h hg hx
  unfold YL
  rw[aIX hF hn]
  simp only[bind_some,oQ _ h0,hx]
  rw[if_neg (by simp; omega),if_neg (by simp; omega)]
  by_cases c1:x.State=3
  . rw[if_pos (by simp[c1])]
    simp only[aG,if_true]
    exact⟨_,rfl,by simp[jR,c1]⟩
  rw[if_neg (by simp[c1])]
  by_cases c2:d.Items= []
  . simp[c2,aG,jR]
  have hpos:0 < d.Items.length:=List.length_pos_iff.2 c2
  rw[if_neg (by simp; omega),if_neg (by simp; omega)]
  simp only[aG]
  cases c3:d.Items.any (λi=>decide (i.Kind < 1) || decide (3 < i.Kind)) with
  | true=>
    simp only[Bool.not_true,Bool.not_false,if_true]
    exact⟨_,rfl,by simp[jR,c3]⟩
  | false=>
  have hI:∀i∈d.Items,It i:=λi hi=>by
    obtain⟨a1,a2,a3,a4,a5⟩:=hd.it i hi
    have:=any_eq_false.1 c3 i hi
    simp only[or_eq_true,decide_eq_true_eq] at this
    exact⟨a1,a2,by omega,a3,a4,a5⟩
  have hwc:jR x d=true:=by simp[jR,c1,c2,c3]
  simp only[Bool.not_false,Bool.not_true,false_eq_true,if_false,hwc,if_true]
  have key:=zB (body:=λs:List Int×Int×List aH×List aB×List aT×Int=>oZ F c d x s.1 s.2.1 s.2.2.1 s.2.2.2.1 s.2.2.2.2.1 s.2.2.2.2.2) (n:=d.Items.length)
    (λk=>(gs (d.Items.take k),(w9 x.Pool d.Vol (x.Files+1) (ws c d.Vol x) (d.Items.take k)).Seq,(w9 x.Pool d.Vol (x.Files+1) (ws c d.Vol x) (d.Items.take k)).Snaps,(w9 x.Pool d.Vol (x.Files+1) (ws c d.Vol x) (d.Items.take k)).Chunks,(w9 x.Pool d.Vol (x.Files+1) (ws c d.Vol x) (d.Items.take k)).Exps,(k:Int)))
    (λk=>(d.Items[k]?).any (jY c)) (λr=>r.1=8)
    (λk hk hp=>by
      have hi:d.Items[k]? =some d.Items[k]:=getElem?_eq_getElem hk
      have:=(FI hF hW gv gf hn hI hk hi _ rfl).1 (by rw[hi] at hp; exact hp)
      refine this.trans ?_
      rw[<- FH,<- List.take_succ_eq_append_getElem hk])
    (λk hk hp=>by
      have hi:d.Items[k]? =some d.Items[k]:=getElem?_eq_getElem hk
      exact(FI hF hW gv gf hn hI hk hi _ rfl).2 (by rw[hi] at hp; exact hp))
    (by unfold oZ; simp) d.Items.length 0 F (by omega) (by omega)
  have st0:([],c.Seq,c.Snaps,c.Chunks,c.Exps,0)=(gs (d.Items.take 0),(w9 x.Pool d.Vol (x.Files+1) (ws c d.Vol x) (d.Items.take 0)).Seq,(w9 x.Pool d.Vol (x.Files+1) (ws c d.Vol x) (d.Items.take 0)).Snaps,(w9 x.Pool d.Vol (x.Files+1) (ws c d.Vol x) (d.Items.take 0)).Chunks,(w9 x.Pool d.Vol (x.Files+1) (ws c d.Vol x) (d.Items.take 0)).Exps,((0:Nat):Int)):=rfl
  rw[st0]
  rcases key with⟨k1,k2⟩ | ⟨⟨j, -,k1,k2⟩,r,k3,k4⟩
  . rw[k2]
    simp only[aG,List.take_length]
    have hall:d.Items.all (jY c)=true:=List.all_eq_true.2 λi hi=>by
      obtain⟨j,hj,rfl⟩:=getElem_of_mem hi
      have:=k1 j (zero_le _) hj
      rw[getElem?_eq_getElem hj] at this
      exact this
    rw[hall]
    simp only[if_true]
    have hWe:=vU (p:=x.Pool) gv gF hW hI
    have e1:w9 x.Pool d.Vol (x.Files+1) (ws c d.Vol x) d.Items=iU c d x:=rfl
    have hVv:(c.Vols.set d.Vol.toNat { x with State:=2}).set d.Vol.toNat { ({ x with State:=2}:aQ) with Files:=wrap .i64 (x.Files+1)}=(iU c d x).Vols:=by
      rw[<- e1,oF,set_set,wr (by omega) (by omega)]; rfl
    rw[e1] at hWe ⊢
    have hsm:=hWe.sm (by omega)
    rw[aIU (l:=(iU c d x).Snaps) (λs=>jE d.Items s) hF (by have:=hWe.sn; omega) (λs hs=>by unfold R7; rw[W7])]
    simp only[bind_some]
    rw[hVv]
    have h120:KK F { Seq:=(iU c d x).Seq,Snaps:=(iU c d x).Snaps.filter (λs=> !jE d.Items s),Chunks:=(iU c d x).Chunks,Exps:=(iU c d x).Exps,Vols:=(iU c d x).Vols}=some (KN (rU c d x)):=aH6 hF (uC hsm _)
    rw[h120]
    refine⟨_, ?_,rfl⟩
    unfold jI
    have e2:(rU c d x).Snaps=(iU c d x).Snaps.filter λs=> !jE d.Items s:=rfl
    rw[e2]
    by_cases hs:((iU c d x).Snaps.filter λs=> !jE d.Items s).length < (iU c d x).Snaps.length
    . rw[if_pos (by simpa using hs),if_pos hs]
      simp only[bind_some,aG]
      rfl
    . rw[if_neg (by simpa using hs),if_neg hs]
      simp only[aG]
      rfl
  . have hall:d.Items.all (jY c)=false:=by
      rw[List.all_eq_false]
      refine⟨d.Items[j],getElem_mem k1, ?_⟩
      rw[getElem?_eq_getElem k1] at k2
      simpa using k2
    rw[k4,hall]
    exact⟨_,rfl,by simpa using k3⟩
theorem DH {c:aA} {d:aV} {x:aQ} (h:Sm c) (hg:Gd c) (hd:Wd d) (gv:gI d.Vol) (hx:c.Vols[d.Vol.toNat]? =some x) (hI:∀i∈d.Items,1<=i.Kind/\i.Kind<=3):Sm (jI c d x):=by
 have hxb:=hg.v x (mem_of_getElem? hx)
 have gf:0<=x.Files/\x.Files<=65535:=by
  unfold mE fB at hxb
  simp only[and_eq_true,or_eq_true,decide_eq_true_eq,beq_iff_eq] at hxb
  omega
 have gF:gI (x.Files+1):=⟨by omega,by omega⟩
 have hn:=hd.n
 have hWe:=vU (p:=x.Pool) gv gF (I4 h hg hx) (λi hi=>⟨(hd.it i hi).1,(hd.it i hi).2.1,hI i hi,(hd.it i hi).2.2.1,(hd.it i hi).2.2.2.1,(hd.it i hi).2.2.2.2⟩)
 have hs:=uC (hWe.sm (by omega)) λs=> !jE d.Items s
 unfold jI
 split
 ·exact IZ hs
 ·exact hs
theorem PF {F:Nat} {c:aA} {d:aV} {x:aQ} (hF:1000<=F) (h:Sm c) (hg:Gd c) (hk:d.Kind=3) (hd:Wd d) (gv:gI d.Vol) (h0:0<=d.Vol) (hx:c.Vols[d.Vol.toNat]? =some x):
    QH F c d=some (if jR x d=true then (if d.Items.all (jY c)then (if gJ (jI c d x)then (jI c d x,0) else (bY,1)) else (bY,8)) else (bY,1)):=by
  have hk2:nS.find? (λe=>e.1==d.Kind)=some (d.Kind,74):=by rw[hk]; rfl
  have go:∀(e:aA) (n:Int),o5 F 74 c d=some (e,n)->(n=0->Sm e)->_:=λe n=>n29 (n:=n) hF h (kV.2 hg) hk2
  obtain⟨r,hr,hq⟩:=n74 hF h hg hd gv h0 hx
  have e0:o5 F 74 c d=(YL F c d).bind λo=>some ({ c with Seq:=o.2.1,Snaps:=o.2.2.1,Chunks:=o.2.2.2.1,Exps:=o.2.2.2.2.1,Vols:=o.2.2.2.2.2},o.1):=by
    unfold o5
    simp only[if_neg (show ¬(74:Nat)=72 by decide),if_neg (show ¬(74:Nat)=73 by decide),if_true]
  rw[hr] at e0
  by_cases c1:jR x d=true
  . rw[if_pos c1] at hq ⊢
    by_cases c2:d.Items.all (jY c)=true
    . rw[if_pos c2] at hq ⊢
      subst hq
      rw[go (jI c d x) 0 e0 λ_=>DH h hg hd gv hx λi hi=>by
        unfold jR at c1
        simp only[and_eq_true,Bool.not_eq_true',any_eq_false,or_eq_true,decide_eq_true_eq,not_or,Int.not_lt] at c1
        exact c1.2 i hi]
      rfl
    . rw[if_neg c2] at hq ⊢
      rw[go _ _ e0 λh=>by rw[hq] at h; cases h]
      simp[hq]
  . rw[if_neg c1] at hq ⊢
    rw[go _ _ e0 λh=>by rw[hq] at h; cases h]
    simp[hq]
def KU (n:Nat) (l:List aS):Prop:=l.length<=n/\gL pY l
def SN (n:Nat) (s:aH):Prop:=gI s.Seq/\IW s.Man/\KU n s.Locs
def SO (n:Nat) (x:aB):Prop:=mL x.Id/\x.Data.length<=300/\gL gB x.Data/\KU n x.Locs
def SP (n:Nat) (x:aT):Prop:=gI x.Seq/\gI x.Of/\KU n x.Locs
structure Md (n m:Nat) (q:Int) (s:List aH) (k:List aB) (e:List aT) (v:List aQ):Prop where
 q:gI q
 sn:s.length<=9
 s:∀x∈s,SN n x
 kn:k.length<=360
 k:∀x∈k,SO n x
 en:e.length<=m
 e:∀x∈e,SP n x
 vn:v.length<=8
 v:∀x∈v,T5 x
theorem KU.mono {n n':Nat} {l:List aS} (h:KU n l) (hn:n<=n'):KU n' l:=⟨le_trans h.1 hn,h.2⟩
theorem SN.mono {n n':Nat} {x:aH} (h:SN n x) (hn:n<=n'):SN n' x:=⟨h.1,h.2.1,h.2.2.mono hn⟩
theorem SO.mono {n n':Nat} {x:aB} (h:SO n x) (hn:n<=n'):SO n' x:=⟨h.1,h.2.1,h.2.2.1,h.2.2.2.mono hn⟩
theorem SP.mono {n n':Nat} {x:aT} (h:SP n x) (hn:n<=n'):SP n' x:=⟨h.1,h.2.1,h.2.2.mono hn⟩
theorem Md.mono {n m n' m':Nat} {q:Int} {s:List aH} {k:List aB} {e:List aT} {v:List aQ} (h:Md n m q s k e v) (hn:n<=n') (hm:m<=m'):Md n' m' q s k e v:=
 ⟨h.q,h.sn,λx hx=>(h.s x hx).mono hn,h.kn,λx hx=>(h.k x hx).mono hn,le_trans h.en hm,λx hx=>(h.e x hx).mono hn,h.vn,h.v⟩
theorem Md.sm {n m:Nat} {q:Int} {s:List aH} {k:List aB} {e:List aT} {v:List aQ} (h:Md n m q s k e v) (hn:n<=300) (hm:m<=300):Sm { Seq:=q,Snaps:=s,Chunks:=k,Exps:=e,Vols:=v} where
 g:=⟨h.q,λx hx=>⟨(h.s x hx).1,(h.s x hx).2.1.2.2.2,(h.s x hx).2.2.2⟩,λx hx=>⟨(h.k x hx).1,trivial,(h.k x hx).2.2.1,(h.k x hx).2.2.2.2⟩,λx hx=>⟨(h.e x hx).1,(h.e x hx).2.1,(h.e x hx).2.2.2⟩,h.v⟩
 sn:=le_trans h.sn (by omega)
 ch:=le_trans h.kn (by omega)
 ex:=le_trans h.en hm
 vo:=le_trans h.vn (by omega)
 sl:=λx hx=>le_trans (h.s x hx).2.2.1 hn
 cl:=λx hx=>⟨le_trans (h.k x hx).2.2.2.1 hn,(h.k x hx).2.1⟩
 el:=λx hx=>le_trans (h.e x hx).2.2.1 hn
 man:=λx hx=>⟨(h.s x hx).2.1.1,(h.s x hx).2.1.2.1,(h.s x hx).2.1.2.2.1⟩
theorem vV {c:aA} {l:List aS} (h:iH c l=true):l.length<=200:=by
 unfold iH at h
 simp only[and_eq_true,decide_eq_true_eq] at h
 exact h.1
theorem Ok.md {c:aA} (h:Ok c):Md 200 200 c.Seq c.Snaps c.Chunks c.Exps c.Vols where
 q:=h.sm.g.1
 sn:=le_trans h.rg.sn (by omega)
 s:=λx hx=>⟨(h.sm.g.2.1 x hx).1,⟨(h.sm.man x hx).1,(h.sm.man x hx).2.1,(h.sm.man x hx).2.2,(h.sm.g.2.1 x hx).2.1⟩,vV (h.rg.s x hx).2.2.2,(h.sm.g.2.1 x hx).2.2⟩
 kn:=le_trans h.rg.ch (by omega)
 k:=λx hx=>⟨(h.sm.g.2.2.1 x hx).1,(h.sm.cl x hx).2,(h.sm.g.2.2.1 x hx).2.2.1,vV (h.rg.k x hx).2,(h.sm.g.2.2.1 x hx).2.2.2⟩
 en:=h.rg.ex
 e:=λx hx=>⟨(h.sm.g.2.2.2.1 x hx).1,(h.sm.g.2.2.2.1 x hx).2.1,vV (h.rg.e x hx).2.2.2.2,(h.sm.g.2.2.2.1 x hx).2.2⟩
 vn:=h.rg.vo
 v:=h.sm.g.2.2.2.2
theorem BF {α:Type} {l:List α} {P:α->Prop} {i:Int} {x:α} (h0:0<=i) (hx:l[i.toNat]? =some x) (h:∀y∈l.take i.toNat,P y) (hP:P x):∀y∈l.take (i+1).toNat,P y:=by
 intro y hy
 obtain⟨hlt,he⟩:=List.getElem?_eq_some_iff.1 hx
 rw[show (i+1).toNat=i.toNat+1 from by omega,List.take_succ_eq_append_getElem hlt] at hy
 rcases mem_append.1 hy with h1 | h1
 ·exact h y h1
 ·rw[mem_singleton,he] at h1
  exact h1 ▸ hP
def I5 (a:iV):Prop:=∀f∈a.Tree,f.Path.size<=100
theorem t27 {F:Nat} {l:List iV} (hF:1000<=F):T (WY F l) λb=>b=false->∀a∈l.take 30,I5 a:=by
 unfold WY
 refine .ite (λ_=>.some λh=>by cases h) λhl=> ?_
 have hl:l.length<=120:=by simp at hl; omega
 refine .loop (λi=>0<=i/\i<=l.length/\i<=30/\∀a∈l.take i.toNat,I5 a) (λi=>(l.length - i).toNat) (λ_=>∀a∈l.take 30,I5 a) (by omega) (by simp) (λi hi=> ?_) (λi hi=>.some λ_=>hi)
 obtain⟨i0,i1,i2,i3⟩:=hi
 unfold DD
 refine .after (.ite (λhc=>.brk (T.ite (λhc2=> ?_) λhc2=>.brk λa ha=> ?_)) λhc=>.brk (T.ite (λh=>by cases h) λ_=>.brk λa ha=> ?_))
 ·have hc:=of_decide_eq_true hc
  have hc2:=of_decide_eq_true hc2
  rw[wr (n:=i+1) (by omega) (by omega)]
  refine .after (.ix (by omega) (by omega) λx e hx=>.ite (λ_=>.brk (T.ite (λ_=>.ret λh=>by cases h) λh=>absurd rfl h)) λ_=>.ix (by omega) (by omega) λy e2 hy=>.brk (T.ite (λ_=>.ret λh=>by cases h) λht=> ?_))
  have ht:y.Tree.length<=10:=by simp at ht; omega
  refine .loop (λj=>0<=j/\j<=y.Tree.length/\∀f∈y.Tree.take j.toNat,f.Path.size<=100) (λj=>(y.Tree.length - j).toNat) (λ_=>I5 y) (by omega) (by simp) (λj hj=> ?_) (λj hj=>.go ⟨⟨by omega,by omega,by omega,BF i0 e2 i3 hj⟩,by omega⟩)
  obtain⟨j0,j1,j2⟩:=hj
  have same:∀z,l[i.toNat]? =some z->z=y:=λz hz=>by rw[e2] at hz; exact(Option.some.inj hz).symm
  unfold DC
  refine .ix (by omega) (by omega) λz ez _=> ?_
  obtain rfl:=same z ez
  refine .ite (λhc=> ?_) λhc=>.brk λf hf=>j2 f ?_
  ·have hc:=of_decide_eq_true hc
   rw[wr (n:=j+1) (by omega) (by omega)]
   refine .after (.ix (by omega) (by omega) λz2 ez2 _=> ?_)
   obtain rfl:=same z2 ez2
   refine .ix (by omega) (by omega) λf ef hf=>.ite (λ_=>.brk (T.ite (λ_=>.ret (show (_:Bool)=false->_ from λh=>by cases h)) λh=>absurd rfl h)) λ_=>.ix (by omega) (by omega) λz3 ez3 _=> ?_
   obtain rfl:=same z3 ez3
   refine .ix (by omega) (by omega) λf ef hf=>.brk (T.ite (λ_=>.ret (show (_:Bool)=false->_ from λh=>by cases h)) λhp=>.go ⟨⟨by omega,by omega,BF j0 ef j2 ?_⟩,by omega⟩)
   simp at hp
   omega
  ·have hc:¬(j < z.Tree.length):=by simpa using hc
   rw[take_of_length_le (by omega)]
   exact hf
 ·have hc2:¬(i < 30):=by simpa using hc2
  have:i.toNat=30:=by omega
  rw[this] at i3
  exact i3 a ha
 ·have hc:¬(i < l.length):=by simpa using hc
  refine i3 a ?_
  rw[take_of_length_le (by omega)]
  exact mem_of_mem_take ha
theorem aIY (x:Int) (hx:gI x):bZ .and .i64 x 1=0\/bZ .and .i64 x 1=1:=by
 have e:bZ .and .i64 x 1=wrap .i64 ((BitVec.ofInt 64 x &&& BitVec.ofInt 64 1).toNat:Int):=rfl
 have e1:(BitVec.ofInt 64 1).toNat=1:=by decide
 rw[e,BitVec.toNat_and,e1,Nat.and_one_is_mod]
 rcases Nat.mod_two_eq_zero_or_one (BitVec.ofInt 64 x).toNat with h | h<;>rw[h]
 ·exact .inl rfl
 ·exact .inr rfl
theorem t29 {F:Nat} {l:List Int} (hF:1000<=F) (gl:gL gI l):T (YN F l) λr=>fB r.length 1 8=true/\r.all v9=true/\gL gI r:=by
 unfold YN
 refine .loop (λs=>0<=s.2/\s.2<=l.length/\s.2<=8/\(s.1.length:Int)=s.2/\∀x∈s.1,x=0\/x=1) (λs=>(8 - s.2).toNat) (λs=>s.1.length<=8/\∀x∈s.1,x=0\/x=1) (by simp; omega) (by simp) (λs hs=> ?_) (λs hs=> ?_)
 ·obtain⟨q,i⟩:=s
  simp only at hs
  unfold DE
  refine .after (.ite (λhc=>.brk (T.ite (λhc2=> ?_) λhc2=>.brk ⟨by first | omega | (simp only; omega),hs.2.2.2.2⟩)) λhc=>.brk (T.ite (λh=>by cases h) λ_=>.brk ⟨by first | omega | (simp only; omega),hs.2.2.2.2⟩))
  have hc:=of_decide_eq_true hc
  have hc2:=of_decide_eq_true hc2
  simp only at hc hc2
  rw[wr (n:=i+1) (by omega) (by omega)]
  refine .ix (by omega) (by omega) λx _ hx=>.app (by simp; omega) (.go ⟨⟨by first | omega | (simp only; omega),by first | omega | (simp only; omega),by first | omega | (simp only; omega),by simp; omega,λy hy=> ?_⟩,by first | omega | (simp only; omega)⟩)
  rcases mem_append.1 hy with h | h
  ·exact hs.2.2.2.2 y h
  ·rw[mem_singleton] at h
   exact h ▸ aIY x (gl x hx)
 ·obtain⟨q,i⟩:=s
  simp only at hs
  have fin:∀r:List Int,0 < r.length->r.length<=8->(∀x∈r,x=0\/x=1)->fB r.length 1 8=true/\r.all v9=true/\gL gI r:=λr h1 h2 h3=>by
   refine⟨by unfold fB; simp; omega, ?_,λx hx=> ?_⟩
   ·rw[List.all_eq_true]
    intro x hx
    rcases h3 x hx with rfl | rfl<;>rfl
   ·rcases h3 x hx with rfl | rfl<;>simp[gI]
  refine .after (.ite (λ_=>.brk (.some (fin _ (by simp) (by simp) (by simp)))) λhc=>.brk (.some (fin _ ?_ hs.1 hs.2)))
  have:¬((q.length:Int)=0):=by simpa using hc
  omega
theorem Lk.filt {vs:List aQ} {l:List aS} (h:Lk vs l) (q:aS->Bool):Lk vs (l.filter q):=
 ⟨le_trans (length_filter_le _ _) h.n,λx hx=>h.a x (mem_filter.1 hx).1,h.o.sublist (filter_sublist)⟩
theorem I6 {vs:List aQ} {x:aS} {v:Nat} {z:aQ} (h:tN vs x=true) (hv:x.Vol.toNat≠v):tN (vs.set v z) x=true:=by
 unfold tN at*
 rw[List.length_set,List.getElem?_set_ne (λe=>hv e.symm)]
 exact h
theorem DI {vs:List aQ} {x:aS} (h:tN vs x=true):0<=x.Vol/\∃v,vs[x.Vol.toNat]? =some v/\v.State=2/\1<=x.File/\x.File<=v.Files:=by
 unfold tN at h
 simp only[and_eq_true,fB,decide_eq_true_eq] at h
 obtain⟨⟨⟨h1,h2⟩, -⟩, -⟩:=h
 refine⟨h1.1, ?_⟩
 cases e:vs[x.Vol.toNat]? with
 | none=>rw[e] at h2; cases h2
 | some v=>
  rw[e] at h2
  simp only[and_eq_true,beq_iff_eq,decide_eq_true_eq] at h2
  exact⟨v,rfl,h2.1,h2.2.1,h2.2.2⟩
theorem Lk.set {vs:List aQ} {l:List aS} {v:Int} {z:aQ} (h:Lk vs l) (h0:0<=v) (hv:∀x∈l,x.Vol≠v):Lk (vs.set v.toNat z) l:=
 ⟨h.n,λx hx=>I6 (h.a x hx) (by have:=(DI (h.a x hx)).1; have:=hv x hx; omega),h.o⟩
theorem Lk.lf {vs:List aQ} {l:List aS} {v:Int} {z:aQ} (h:Lk vs l) (h0:0<=v):Lk (vs.set v.toNat z) (lf v l):=
 Lk.set (h.filt _) h0 λx hx=>by
  have:=(mem_filter.1 hx).2
  simpa using this
theorem Lk.off {vs:List aQ} {l:List aS} {v:Int} {z:aQ} (h:Lk vs l) (hz:vs[v.toNat]? =some z) (hs:z.State≠2):∀x∈l,x.Vol≠v:=λx hx e=>by
 obtain⟨-,y,hy,h2, -⟩:=DI (h.a x hx)
 rw[e,hz] at hy
 obtain rfl:=Option.some.inj hy
 exact hs h2
theorem PG {c:aA} {v:Int} {x:aQ} (h:Sm c) (hx:c.Vols[v.toNat]? =some x):Sm (ret c v x):=by
 obtain⟨g0,g1,g2,g3,g4⟩:=h.g
 have lfm:∀ {l:List aS} {y},y∈lf v l->y∈l:=λhy=>(mem_filter.1 hy).1
 have lfl:∀(l:List aS),(lf v l).length<=l.length:=λl=>length_filter_le _ _
 refine⟨⟨g0, ?_, ?_, ?_, ?_⟩, ?_, ?_, ?_, ?_, ?_, ?_, ?_, ?_⟩
 ·intro s hs
  obtain⟨s0,h0,rfl⟩:=mem_map.1 hs
  exact⟨(g1 s0 h0).1,(g1 s0 h0).2.1,λy hy=>(g1 s0 h0).2.2 y (lfm hy)⟩
 ·intro s hs
  obtain⟨s0,h0,rfl⟩:=mem_map.1 (mem_filter.1 hs).1
  exact⟨(g2 s0 h0).1,(g2 s0 h0).2.1,(g2 s0 h0).2.2.1,λy hy=>(g2 s0 h0).2.2.2 y (lfm hy)⟩
 ·intro s hs
  obtain⟨s0,h0,rfl⟩:=mem_map.1 (mem_filter.1 hs).1
  exact⟨(g3 s0 h0).1,(g3 s0 h0).2.1,λy hy=>(g3 s0 h0).2.2 y (lfm hy)⟩
 ·intro s hs
  rcases List.mem_or_eq_of_mem_set hs with h1 | rfl
  ·exact g4 s h1
  ·have:=g4 x (mem_of_getElem? hx)
   exact⟨this.1,this.2.1,(⟨by decide,by decide⟩:gI 3),(⟨by decide,by decide⟩:gI 0)⟩
 ·simpa [ret] using h.sn
 ·exact le_trans (length_filter_le _ _) (by simpa using h.ch)
 ·exact le_trans (length_filter_le _ _) (by simpa using h.ex)
 ·simpa [ret] using h.vo
 ·intro s hs
  obtain⟨s0,h0,rfl⟩:=mem_map.1 hs
  exact le_trans (lfl _) (h.sl s0 h0)
 ·intro s hs
  obtain⟨s0,h0,rfl⟩:=mem_map.1 (mem_filter.1 hs).1
  exact⟨le_trans (lfl _) (h.cl s0 h0).1,(h.cl s0 h0).2⟩
 ·intro s hs
  obtain⟨s0,h0,rfl⟩:=mem_map.1 (mem_filter.1 hs).1
  exact le_trans (lfl _) (h.el s0 h0)
 ·intro s hs
  obtain⟨s0,h0,rfl⟩:=mem_map.1 hs
  exact h.man s0 h0
theorem PH {c:aA} {v:Int} {x:aQ} (h:Sm c) (hx:c.Vols[v.toNat]? =some x) (he:x.Epoch<=1048576/\0<=x.Epoch):Sm (rel c v x):=by
 obtain⟨g0,g1,g2,g3,g4⟩:=h.g
 refine { h with g:=⟨g0,g1,g2,g3, ?_⟩,vo:=by simpa [rel] using h.vo}
 intro s hs
 rcases List.mem_or_eq_of_mem_set hs with h1 | rfl
 ·exact g4 s h1
 ·have:=g4 x (mem_of_getElem? hx)
  exact⟨this.1,⟨by simp only; omega,by simp only; omega⟩,(⟨by decide,by decide⟩:gI 1),this.2.2.2⟩
theorem Mk.wd {c:aA} {d:aV} (h:Mk c d) (hG:Gd c) (hd:IX d):Wd d:=by
 refine⟨hd.it,λi hi=> ?_⟩
 obtain⟨-,a2,a3,a4⟩:=hd.iti i hi
 refine⟨?_, ?_,a2,a3,a4⟩
 ·rcases h.it with h1 | ⟨s,hs,e⟩
  ·exact(h1.a i hi).id
  ·rw[e] at hi
   rw[mem_singleton.1 hi]
   exact FF
 ·rcases h.it with h1 | ⟨s,hs,e⟩
  ·exact(h1.a i hi).q
  ·rw[e] at hi
   rw[mem_singleton.1 hi]
   have:=hG.q
   simpa [fB] using this
inductive YP (c:aA) (d:aV) (e:aA):Prop
 | add (k:d.Kind=1) (q:d.Snap.Seq=c.Seq/\o6 d.Chunks=true) (n:c.Snaps.any (λs=>s.Man.Name.toList==d.Snap.Man.Name.toList)=false) (w:e=ad c d)
 | drop (k:d.Kind=2) (q:c.Snaps.any (λs=>s.Seq==d.Seq)=true) (w:e=CW c d.Seq)
 | wrote (k:d.Kind=3) (x:aQ) (hx:c.Vols[d.Vol.toNat]? =some x) (q:jR x d=true) (p:d.Items.all (jY c)=true) (w:e=jI c d x)
 | ret (k:d.Kind=4) (x:aQ) (hx:c.Vols[d.Vol.toNat]? =some x) (q:x.State=2) (w:e=ret c d.Vol x)
 | rel (k:d.Kind=5) (x:aQ) (hx:c.Vols[d.Vol.toNat]? =some x) (q:x.State=3) (w:e=rel c d.Vol x)
theorem W8 {c:aA} {v:Int} (h:0<=v/\v < c.Vols.length):∃x,c.Vols[v.toNat]? =some x:=⟨_,getElem?_eq_getElem (show v.toNat < c.Vols.length by omega)⟩
theorem PI {c:aA} (hG:Gd c) {n:Nat} {x:aQ} (hx:c.Vols[n]? =some x):0<=x.Epoch/\x.Epoch<=1048576:=by
 have:=hG.v x (mem_of_getElem? hx)
 unfold mE fB at this
 simp only[and_eq_true,decide_eq_true_eq] at this
 exact this.1.2
theorem xB {ρ:Type} {body:Int->Option (Lp Int ρ)} {c:Nat->Bool} {n:Nat} (hb:∀k:Nat,k<=n->body (k:Int)=some (if decide (k < n) && c k then .go ((k+1:Nat):Int) else .brk (k:Int))):∀(G k:Nat),k<=n->n - k < G->
    ∃p:Nat,k<=p/\p<=n/\aR body G (k:Int)=some (.brk (p:Int))/\(∀j,k<=j->j < p->c j=true)/\(p < n->c p=false)
  | 0,_,_,h=>by omega
  | G+1,k,hk,h=>by
    unfold aR
    rw[hb k hk]
    cases e:decide (k < n) && c k with
    | false=>
      refine⟨k,le_refl _,hk,by simp,λj h1 h2=>by omega,λh0=> ?_⟩
      simpa [h0] using e
    | true=>
      simp only[and_eq_true,decide_eq_true_eq] at e
      obtain⟨p,h1,h2,h3,h4,h5⟩:=xB (body:=body) (c:=c) (n:=n) hb G (k+1) (by omega) (by omega)
      refine⟨p,by omega,h2,by simpa using h3,λj hj1 hj2=> ?_,h5⟩
      by_cases ej:j=k
      . rw[ej]; exact e.2
      . exact h4 j (by omega) hj2
def ahB (a b:aS):Bool:=if a.Vol !=b.Vol then decide (a.Vol < b.Vol) else if a.File !=b.File then decide (a.File < b.File) else if a.Off !=b.Off then decide (a.Off < b.Off) else decide (a.Len < b.Len)
def nk (a b:aS):Prop:=¬(a.Vol=b.Vol/\a.File=b.File/\a.Off=b.Off)
theorem PJ {a b:aS} (h:nk a b):ahB a b= !jU a b:=by
 rw[Bool.eq_iff_iff,Bool.not_eq_true',<- Bool.not_eq_true,wU]
 unfold nk at h
 unfold ahB
 by_cases h1:a.Vol=b.Vol<;>by_cases h2:a.File=b.File<;>by_cases h3:a.Off=b.Off<;>simp[h1,h2,h3]<;>omega
theorem wC {l:List aS} {x:aS} (h:l.Pairwise λy z=>jU z y=true) (hl:l.length<=400):fR l x=(l.filter λy=> !jU y x)++x::l.filter λy=>jU y x:=by
 obtain⟨p,hp, -⟩:=aCO (F:=1000) (l:=l) (x:=x) (le_refl _) hl
 have hle:=hp.le
 rw[<- I0 hp]
 have lo:∀y∈l.take p,jU y x=false:=λy hy=>by
  obtain⟨j,hj,rfl⟩:=getElem_of_mem hy
  simp only[length_take] at hj
  rw[getElem_take]
  have hq:l[p - 1]? =some l[p - 1]:=getElem?_eq_getElem (by omega)
  have h0:=hp.lo _ (by omega) hq
  by_cases e:j=p - 1
  ·subst e; exact h0
  ·cases ha:jU l[j] x with
   | false=>rfl
   | true=>
    have:=KS h (getElem?_eq_getElem (show j < l.length by omega)) hq (by omega)
    rw[yV x l[j] l[p - 1] ha this] at h0
    cases h0
 have e:∀q:aS->Bool,l.filter q=(l.take p).filter q++(l.drop p).filter q:=λq=>by rw[<- filter_append,take_append_drop]
 rw[e,e,filter_eq_self.2 λy hy=>by rw[lo y hy]; rfl,filter_eq_nil_iff.2 λy hy=>by rw[hp.hi y hy]; decide,filter_eq_nil_iff.2 λy hy=>by rw[lo y hy]; decide,filter_eq_self.2 λy hy=>hp.hi y hy]
 simp
theorem W9 {F:Nat} {l:List aS} {x:aS} (hF:1000<=F) (h:l.Pairwise λy z=>jU z y=true) (hl:l.length<=300) (hn:∀y∈l,nk y x):HG F l x=some (fR l x):=by
 obtain⟨p, -,hp,h1,h2,h3⟩:=xB (body:=λs=>uD F l x s) (c:=λk=>(l[k]?).any λy=>ahB y x) (n:=l.length) (λk hk=>by
  unfold uD SD
  by_cases hlt:k < l.length
  ·have hx:l[k]? =some l[k]:=getElem?_eq_getElem hlt
   generalize l[k]=y at hx
   rw[iG (by omega)]
   simp only[aX,hx,ofNat_lt,hlt,decide_true,if_true,bind_some,Bool.true_and,any_some]
   have:(if (y.Vol !=x.Vol)then some (decide (y.Vol < x.Vol)) else if (y.File !=x.File)then some (decide (y.File < x.File)) else if (y.Off !=x.Off)then some (decide (y.Off < x.Off)) else some (decide (y.Len < x.Len)))=some (ahB y x):=by
    unfold ahB; split<;>(try rfl); split<;>(try rfl); split<;>rfl
   rw[this]
   simp only[bind_some,aG]
   split<;>rfl
  ·have:¬((k:Int) < (l.length:Int)):=by omega
   simp[this,hlt,aG]) F 0 (zero_le _) (by omega)
 unfold HG
 rw[show ((0:Int))=((0:Nat):Int) from rfl,h1]
 simp only[aG]
 have s1:slc l ((0:Nat):Int) (p:Int)=some (l.take p):=by
  unfold slc; rw[if_pos ⟨by omega,by omega,by omega⟩]; simp
 have s2:slc l (p:Int) (l.length:Int)=some (l.drop p):=by
  unfold slc; rw[if_pos ⟨by omega,by omega,by omega⟩]; simp
 rw[s1,s2]
 simp only[bind_some]
 rw[bN (by simp; omega)]
 simp only[bind_some,nil_append]
 rw[bN (by simp; omega)]
 simp only[bind_some]
 rw[bN (by simp; omega)]
 simp only[bind_some,List.append_assoc,List.singleton_append]
 have a1:∀y∈l.take p,jU y x=false:=λy hy=>by
  obtain⟨j,hj,rfl⟩:=getElem_of_mem hy
  simp only[length_take] at hj
  have hq:l[j]? =some l[j]:=getElem?_eq_getElem (by omega)
  have:=h2 j (zero_le _) (by omega)
  simp only[hq,any_some] at this
  rw[getElem_take]
  rw[PJ (hn _ (getElem_mem _))] at this
  simpa using this
 have a2:∀y∈l.drop p,jU y x=true:=λy hy=>by
  obtain⟨j,hj,rfl⟩:=getElem_of_mem hy
  simp only[length_drop] at hj
  have hq:l[p]? =some l[p]:=getElem?_eq_getElem (by omega)
  have:=h3 (by omega)
  simp only[hq,any_some] at this
  rw[PJ (hn _ (getElem_mem _))] at this
  have this:jU l[p] x=true:=by simpa using this
  rw[getElem_drop]
  cases j with
  | zero=>exact this
  | succ j=>exact yV x _ _ this (KS h hq (getElem?_eq_getElem (show p+(j+1) < l.length by omega)) (by omega))
 rw[wC h (by omega)]
 have e:∀q:aS->Bool,l.filter q=(l.take p).filter q++(l.drop p).filter q:=λq=>by rw[<- filter_append,take_append_drop]
 rw[e,e,filter_eq_self.2 λy hy=>by rw[a1 y hy]; rfl,filter_eq_nil_iff.2 λy hy=>by rw[a2 y hy]; decide,filter_eq_nil_iff.2 λy hy=>by rw[a1 y hy]; decide,filter_eq_self.2 a2]
 simp
theorem XA {F:Nat} {l:List aS} {v:Int} (hF:1000<=F) (hl:l.length<=300):HH F l v=some (lf v l):=by
 unfold HH
 rw[i7 (l:=l) [] (λy=> !(y.Vol==v)) id (by omega) (λi x hx hm hi acc ha=>by
  simp only[length_nil] at ha
  unfold uE
  simp only
  rw[iG (by omega)]
  simp only[aX,hx,bind_some,ofNat_lt,hi,decide_true,if_true]
  rw[bN (by simp; omega)]
  by_cases e:x.Vol=v<;>simp[e,aG]) (λacc=>by unfold uE; simp)]
 simp[aG,lf]
theorem XB {F:Nat} {c:aA} {v a b:Int} {x:aQ} (h0:0<=v) (hx:c.Vols[v.toNat]? =some x):AF F c v a b=some (x.State==a || x.State==b):=by
 have hlt:=(List.getElem?_eq_some_iff.1 hx).1
 unfold AF
 rw[if_pos (by simpa using h0),if_pos (by simp; omega)]
 simp only[oQ _ h0,hx,bind_some]
 cases h:x.State==a<;>simp[aG]
def Lv (c:aA):Prop:=∀x∈c.Chunks,pD x=true
theorem XC {F:Nat} {c:aA} {q:Int} (hF:1000<=F) (h:Sm c) (hv:Lv c):CZ F c q=some (if c.Snaps.any (λs=>s.Seq==q) then (true,(CW c q).Snaps,(CW c q).Chunks) else (false,c.Snaps,c.Chunks)):=by
 have hsn:=h.sn
 have hch:=h.ch
 have hD:=uC h λs=> !(s.Seq==q)
 unfold CZ
 rw[i7 (l:=c.Snaps) [] (λs=> !(s.Seq==q)) id (by omega) (λi x hx hm hi acc ha=>by
  simp only[length_nil] at ha
  unfold uF
  simp only
  rw[iG (by omega)]
  simp only[aX,hx,bind_some,ofNat_lt,hi,decide_true,if_true]
  rw[bN (by simp; omega)]
  by_cases e:x.Seq=q<;>simp[e,aG]) (λacc=>by unfold uF; simp)]
 simp only[aG,nil_append,map_id]
 have len:=length_filter_le (λs:aH=> !(s.Seq==q)) c.Snaps
 cases ha:c.Snaps.any (λs=>s.Seq==q) with
 | false=>
  rw[filter_eq_self.2 λs hs=>by simpa using any_eq_false.1 ha s hs,if_pos (by simp)]
  rfl
 | true=>
  have hne:¬((c.Snaps.filter λs=> !(s.Seq==q)).length=c.Snaps.length):=λe=>by
   obtain⟨s,hs,e2⟩:=any_eq_true.1 ha
   have:=List.length_filter_eq_length_iff.1 e s hs
   simp[e2] at this
  rw[if_neg (by simp; omega)]
  rw[i7 (l:=c.Chunks) [] (λy=>pD (FC (qV c q) y)) (FC (qV c q)) (by omega) (λi x hx hm hi acc ha=>by
   simp only[length_nil] at ha
   unfold uG
   simp only
   rw[iG (by omega)]
   have ea:∀z:aB,app acc [z]=some (acc++ [z]):=λz=>bN (by simp; omega)
   have hl:=hv x hm
   simp only[aX,hx,bind_some,ofNat_lt,hi,decide_true,if_true,ea,m65 hF (c:={ Seq:=c.Seq,Snaps:=c.Snaps.filter λs=> !(s.Seq==q),Chunks:=c.Chunks,Exps:=c.Exps,Vols:=c.Vols}) hD]
   unfold FC
   rw[show iO { Seq:=c.Seq,Snaps:=c.Snaps.filter λs=> !(s.Seq==q),Chunks:=c.Chunks,Exps:=c.Exps,Vols:=c.Vols} x.Id=iO (qV c q) x.Id from rfl]
   cases iO (qV c q) x.Id with
   | true=>
    simp only[Bool.not_true,false_eq_true,if_false,aG,if_true,hl]
   | false=>
    simp only[Bool.not_false,false_eq_true,if_true,if_false,aG,pD,Bool.false_or]
    by_cases e:x.Locs.length=0
    ·rw[if_pos (by simp[e])]
     simp[e,aG,cE]
    ·rw[if_neg (by simpa using e)]
     have:(0:Int) < (x.Locs.length:Int):=by omega
     simp[this,aG]
     exact λh=>e (by rw[h]; rfl)) (λacc=>by unfold uG; simp)]
  simp only[aG,nil_append]
  rfl
theorem aIZ {F:Nat} {l:List aB} {n:aB} (hF:1000<=F) (hr:uR l) (hn:mL n.Id) (hl:l.length<=360) (hm:∀x∈l,x.Locs.length<=300/\x.Data.length<=300) (hs:n.Staged=true) (ho:n.Locs= []) (hd:n.Data.length<=300):FD F l n=some (wN l n):=by
  obtain⟨p, -,hp,h1,h2,h3⟩:=xB (body:=λs=>qE F l n s) (c:=λk=>(l[k]?).any λy=>decide (ky y.Id < ky n.Id)) (n:=l.length) (λk hk=>by
    unfold qE
    by_cases hlt:k < l.length
    . have hx:l[k]? =some l[k]:=getElem?_eq_getElem hlt
      have gx:=hr.1 l[k] (getElem_mem hlt)
      generalize l[k]=y at hx gx
      rw[iG (by omega)]
      simp only[aX,hx,ofNat_lt,hlt,decide_true,if_true,bind_some,Bool.true_and,any_some,m60 hF gx hn,aG]
      split<;>rfl
    . have:¬((k:Int) < (l.length:Int)):=by omega
      simp[this,hlt,aG]) F 0 (zero_le _) (by omega)
  have ha:At l n.Id p:=⟨hp,λy hy=>by
      obtain⟨j,hj,rfl⟩:=getElem_of_mem hy
      simp only[length_take] at hj
      have:=h2 j (zero_le _) (by omega)
      rw[getElem?_eq_getElem (show j < l.length by omega)] at this
      rw[getElem_take]
      simpa using this,λy hy=>by
      obtain⟨j,hj,rfl⟩:=getElem_of_mem hy
      simp only[length_drop] at hj
      have hq:l[p]? =some l[p]:=getElem?_eq_getElem (by omega)
      have:=h3 (by omega)
      rw[hq] at this
      have this:¬ky (l[p]).Id < ky n.Id:=by simpa using this
      rw[getElem_drop]
      cases j with
      | zero=>show ky n.Id<=ky (l[p+0]).Id; simp only[Nat.add_zero]; omega
      | succ j=>
        have:=hr.2 p (p+(j+1)) _ _ hq (getElem?_eq_getElem (show p+(j+1) < l.length by omega)) (by omega)
        omega⟩
  unfold FD
  rw[show ((0:Int))=((0:Nat):Int) from rfl,h1]
  simp only[aG]
  have eN:({ Id:=n.Id,Staged:=true,Data:=n.Data,Locs:=[]}:aB)=n:=by
    cases n; simp only at hs ho; subst hs; subst ho; rfl
  cases hh:kM l n.Id with
  | true=>
    obtain⟨x,e1,e2⟩:=HF hr ha hn hh
    obtain⟨hpl,e0⟩:=List.getElem?_eq_some_iff.1 e1
    have e152:BD F l=some l:=by
      unfold BD
      rw[n8 (l:=l) (by omega) (λi x hx hm' hi=>by
        have:=hm x hm'
        have el:x.Locs.length<=300:=this.1
        unfold qD vO wM
        simp only
        rw[iG (by omega)]
        have a1:app [] x.Data=some x.Data:=by rw[bN (by simp; omega)]; rfl
        have a2:app [] x.Locs=some x.Locs:=by rw[bN (by simp; omega)]; rfl
        simp only[aX,hx,bind_some,ofNat_lt,hi,decide_true,if_true,a1,a2]
        rw[bN (by simp; omega)]
        rfl) (by unfold qD; simp)]
      rfl
    have e141:vO F n.Data=some n.Data:=by unfold vO; rw[bN (by simp; omega)]; rfl
    rw[if_pos (by simp; omega)]
    simp only[aX,e1,bind_some,aG,e2,decide_true,if_true,e152,e141,toNat_natCast]
    rw[List.getElem?_set_self hpl]
    simp only[bind_some,set_set]
    have hf:=SG hr e1
    rw[e2] at hf
    unfold wN
    rw[hf,<- OY ha,<- SF ha hr e1 e2]
    simp only
    rw[List.set_eq_take_append_cons_drop,if_pos hpl,e2]
  | false=>
    have hne:∀y:aB,l[p]? =some y->y.Id≠n.Id:=λy hy e=>by
      have:=any_eq_false.1 hh y (mem_of_getElem? hy)
      simp[e] at this
    have s1:slc l ((0:Nat):Int) (p:Int)=some (l.take p):=by
      unfold slc; rw[if_pos ⟨by omega,by omega,by omega⟩]; simp
    have s2:slc l (p:Int) (l.length:Int)=some (l.drop p):=by
      unfold slc; rw[if_pos ⟨by omega,by omega,by omega⟩]; simp
    have fin:((slc l ((0:Nat):Int) (p:Int)).bind λx102=>(app ([]:List aB) x102).bind λz104=>(app z104 ([n]:List aB)).bind λz112=>(slc l (p:Int) (l.length:Int)).bind λx120=>(app z112 x120).bind λz122=>some z122)=some (wN l n):=by
      rw[s1,s2]
      simp only[bind_some]
      rw[bN (by simp; omega)]
      simp only[bind_some,nil_append]
      rw[bN (by simp; omega)]
      simp only[bind_some]
      rw[bN (by simp; omega)]
      have hf:(l.find? λx=>decide (x.Id=n.Id))=none:=find?_eq_none.2 λx hx=>by
        have:=any_eq_false.1 hh x hx
        simpa using this
      unfold wN
      rw[hf,<- OY ha,<- W4 ha hr hn hh]
      simp only[bind_some,eN]
      simp
    by_cases hlt:p < l.length
    . have hx:l[p]? =some l[p]:=getElem?_eq_getElem hlt
      rw[if_pos (by simpa using hlt)]
      simp only[aX,hx,bind_some,aG]
      rw[if_neg (by simpa using hne _ hx)]
      exact fin
    . rw[if_neg (by simpa using hlt)]
      simp only[aG,false_eq_true,if_false]
      exact fin
end Go.Proofs.YtbbifdfldpfphaaGreat
