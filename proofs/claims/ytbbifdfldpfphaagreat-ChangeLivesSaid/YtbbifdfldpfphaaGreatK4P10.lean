import Derived.Test.YtbbifdfldpfphaaGreatK4P5
import Derived.Test.YtbbifdfldpfphaaGreatK4P9
import Derived.Test.YtbbifdfldpfphaaGreatK4P8
import Derived.Test.YtbbifdfldpfphaaGreatK4P7
set_option linter.unusedSimpArgs false
set_option linter.unusedVariables false
set_option maxHeartbeats 4000000
set_option maxRecDepth 100000
namespace Go.Proofs.YtbbifdfldpfphaaGreat
open Go.Vm
def DP (m:Nat) (p0:List pR) (q0:Int) (q1:Int):Option (Lp (Int) (Lp (Int) (Bool))):=
 (ix p0 q0).bind λx0=>if (decide (q1 < (x0.Tree.length:Int)))=true then (after ((ix p0 q0).bind λx1=>(ix x1.Tree q1).bind λx2=>if (decide (300 < (x2.Data.length:Int)))=true then (some (.brk true)) else (ix p0 q0).bind λx3=>(ix x3.Tree q1).bind λx4=>some (.brk (decide (50 < (x4.Path.size:Int)))):Option (Lp (Bool) (Lp (Int) (Lp (Int) (Bool))))) λj0=>if j0=true then (some (.ret (.ret true))) else some (.go (IntKind.wrap .i64 (q1+1)))) else some (.brk q1)
def DQ (m:Nat) (p0:List pR) (q0:Int):Option (Lp (Int) (Bool)):=
 after (if (decide (q0 < (p0.length:Int)))=true then (some (.brk (decide (q0 < 30)))) else some (.brk false):Option (Lp (Bool) (Lp (Int) (Bool)))) λj0=>if j0=true then (after ((ix p0 q0).bind λx0=>if (decide (300 < (x0.Pick.length:Int)))=true then (some (.brk true)) else (ix p0 q0).bind λx1=>some (.brk (decide (10 < (x1.Tree.length:Int)))):Option (Lp (Bool) (Lp (Int) (Bool)))) λj1=>if j1=true then (some (.ret true)) else after (aT (λs=>DP m p0 q0 s) m 0) λr0=>some (.go (IntKind.wrap .i64 (q0+1)))) else some (.brk q0)
def M14 (m:Nat) (p0:List pR):Option (Bool):=
 if (decide (120 < (p0.length:Int)))=true then (some true) else after (aT (λs=>DQ m p0 s) m 0) λr0=>some false
theorem W14 {u:Nat} {p0:List pR} {o:Bool} (h:aF) (m:M14 u p0=some o):
 aL Tryz.prog 14 [.sl none 5 (List.map f0 p0)] h (λr h'=>r= .sc (.bool o)∧h'=h):=by
 refine fQ 68 [.tmp 2] Tryz.func14 rfl rfl rfl rfl ?_
 unfold M14 at m
 refine v (v (dE TH rfl (v ?_)))
 apply vi m <;> intro c4 m
 refine v (v ?_)
 obtain rfl:=eE m
 exact dU rfl
 refine v (v (jN m (σ:=Int) (λs=> []) (λs=>.c 0 (.sl none 5 (List.map f0 p0)) (.c 3 (nZ s) .nil)) (lx (.k2 .nil)) ?_ ?_))
 rintro _ q0 x m
 replace m:DQ u p0 q0=some x:=m
 unfold DQ at m
 refine vs (vs (fL m (σ:=Bool) (λs=> []) (λs=>.c 0 (.sl none 5 (List.map f0 p0)) (.c 3 (nZ q0) (.c 15 (.sc (.bool s)) .nil))) (λx m=> ?_) ?_))
 refine v (dE TH rfl ?_)
 apply vi m <;> intro b0 m
 rw[b0]
 exact gK m
 rw[b0]
 exact gK m
 rintro _ j0 m
 refine v ?_
 apply vi m <;> intro c0 m
 refine v (v (vs (vs (fL m (σ:=Bool) (λs=> []) (λs=>.c 0 (.sl none 5 (List.map f0 p0)) (.c 3 (nZ q0) (.c 33 (.sc (.bool s)) .nil))) (λx m=> ?_) ?_))))
 refine v (vx m JT rfl rfl λ_ _ m=>dE WZ rfl ?_)
 apply vi m <;> intro b1 m
 rw[b1]
 exact gK m
 rw[b1]
 exact vx m JT rfl rfl λ_ _ m=>dE AF rfl (gK m)
 rintro _ j1 m
 refine v ?_
 apply vi m <;> intro c1 m
 refine v (v (fZ m λm=> ?_))
 obtain rfl:=eE m
 exact dU rfl
 refine v (v (jN m (σ:=Int) (λs=> []) (λs=>.c 0 (.sl none 5 (List.map f0 p0)) (.c 3 (nZ q0) (.c 4 (nZ s) .nil))) (lx (.k3 .nil)) ?_ ?_))
 rintro _ q1 x m
 replace m:DP u p0 q0 q1=some x:=m
 unfold DP at m
 refine v (vx m JT rfl rfl λ_ _ m=>dE AF rfl (v ?_))
 apply vi m <;> intro c2 m
 refine v (v (vs (fL m (σ:=Bool) (λs=> []) (λs=>.c 0 (.sl none 5 (List.map f0 p0)) (.c 3 (nZ q0) (.c 4 (nZ q1) (.c 67 (.sc (.bool s)) .nil)))) (λx m=> ?_) ?_)))
 refine v (vx m JT rfl rfl λ_ _ m=>vx m pD rfl rfl λ_ _ m=>dE kU rfl ?_)
 apply vi m <;> intro b2 m
 rw[b2]
 exact f8 m
 rw[b2]
 exact vx m JT rfl rfl λ_ _ m=>vx m pD rfl rfl λ_ _ m=>bW (oD PZ rfl) (f8 m)
 rintro _ j2 m
 refine v ?_
 apply vi m <;> intro c3 m
 refine v (v (fZ m λm=>fZ m λm=> ?_))
 obtain rfl:=eE m
 exact dU rfl
 exact v (v (gK m))
 exact v (z9 m)
 rintro _ r0 m
 exact v (rC m)
 exact v (OU m)
 rintro _ r1 m
 refine v (v ?_)
 obtain rfl:=eE m
 exact dU rfl
theorem aGI:aN Tryz.prog 14=true:=by kernel_rfl
def DR (m:Nat) (p0:List Int) (q0:List Int) (q1:Int):Option (Lp ((List Int)×Int) ((List Int))):=
 after (if (decide (q1 < (p0.length:Int)))=true then (some (.brk (decide (q1 < 8)))) else some (.brk false):Option (Lp (Bool) (Lp ((List Int)×Int) ((List Int))))) λj0=>if j0=true then ((ix p0 q1).bind λx0=>(app q0 ([cJ .and .i64 x0 1]:List Int)).bind λz0=>some (.go (z0,IntKind.wrap .i64 (q1+1)))) else some (.brk (q0,q1))
def M16 (m:Nat) (p0:List Int):Option ((List Int)):=
 after (aT (λs=>DR m p0 s.1 s.2) m ([],0)) λ⟨r0,r1⟩=>after (if ((r0.length:Int)==0)=true then (some (.brk ([0]:List Int))) else some (.brk r0):Option (Lp ((List Int)) ((List Int)))) λj0=>some j0
theorem W16 {w:Nat} {p0:List Int} {o:(List Int)} (h:aF) (m:M16 w p0=some o):
 aL Tryz.prog 16 [.sl none 1 (List.map jI p0)] h (λr h'=>r= .sl none 1 (List.map jI o)∧h'=h):=by
 refine fQ 28 [.tmp 2] Tryz.func16 rfl rfl rfl rfl ?_
 unfold M16 at m
 refine v (v (v (qC (FZ (.tok 3 1 (([]:List Int).length*1)) 3 (ow none 1 (List.map jI [])) (jF _ _)) (nP m (σ:=(List Int)×Int) (τ:=Option cE) (λg s=> [(g,.tok 3 1 ((s.1:List Int).length*1))]) (λg s=>(g=none→s.1= [])) (λg s=>.c 0 (.sl none 1 (List.map jI p0)) (.c 3 (ow g 1 (List.map jI s.1)) (.c 4 (nZ s.2) .nil))) none (λ_=>rfl) (lx (.k3 .nil)) ?_ ?_))))
 rintro tg0 ⟨q0,q1⟩ x t0 m
 replace m:DR w p0 q0 q1=some x:=m
 unfold DR at m
 refine vs (vs (fL m (σ:=Bool) (λs=> [(tg0,.tok 3 1 ((q0:List Int).length*1))]) (λs=>.c 0 (.sl none 1 (List.map jI p0)) (.c 3 (ow tg0 1 (List.map jI q0)) (.c 4 (nZ q1) (.c 12 (.sc (.bool s)) .nil)))) (λx m=> ?_) ?_))
 refine v (dE JS rfl ?_)
 apply vi m <;> intro b0 m
 rw[b0]
 exact f8 m
 rw[b0]
 exact f8 m
 rintro _ j0 m
 refine v ?_
 apply vi m <;> intro c0 m
 refine v (v (v (vx m TG rfl rfl λx0 _ m=>bW (eL (List.map jI ([cJ .and .i64 x0 1]:List Int)) P0 rfl rfl rfl rfl) ?_)))
 obtain⟨z0,Z0,m⟩:=aC m
 exact ve λu=>fE (c:=jI) 0 Z0 P0 rfl rfl rfl t0 u rfl λtg1 t1 K0=>qk K0 rfl (v (eW m tg1 t1 (lx (.k3 .nil))))
 exact v (lK m tg0 t0 (lx (.k3 .nil)))
 rintro tg2 ⟨r0,r1⟩ t2 m
 refine v (bW (uS JS t2 rfl) (pJ m (σ:=(List Int)) (τ:=Option cE) (λg s=> [(g,.tok 3 1 ((s:List Int).length*1))]) (λg s=>(g=none→s= [])) (λg s=>.c 3 (ow g 1 (List.map jI s)) .nil) (λx m=> ?_) ?_))
 refine v ?_
 apply vi m <;> intro c1 m
 exact v (ve λu=>GC (c:=jI) ([0]:List Int) u P0 rfl rfl rfl rfl λtg3 t3 K1=>qk K1 rfl (eW m tg3 t3 (lJ [0] rfl rfl (.cons (bJ.refl _ _) .nil))))
 exact v (eW m tg2 t2 (lx (.cons (bJ.refl _ _) .nil)))
 rintro tg4 j1 t4 m
 refine v (v ?_)
 obtain rfl:=eE m
 exact vr λu=>dX.of1 (.inl rfl) (fT _ _ (ow _ _ _) rfl) (aS (List.nil_sublist _) u).1 ((eY _ 0 t4 u rfl)) ⟨rfl,rfl⟩
theorem aGJ:aN Tryz.prog 16=true:=by kernel_rfl
end Go.Proofs.YtbbifdfldpfphaaGreat
namespace Go.Vm
def T {α:Type} (m:Option α) (Q:α→Prop):Prop:=∃a,m=some a∧Q a
def L3 {σ ρ:Type} (G B:σ→Prop) (R:ρ→Prop):Lp σ ρ→Prop
 | .go s=>G s
 | .brk s=>B s
 | .ret r=>R r
section
variable {α β σ ρ:Type} {Q:β→Prop}
theorem T.some {a:β} (h:Q a):T (some a) Q:=⟨a,rfl,h⟩
theorem T.mono {P:β→Prop} {m:Option β} (h:T m P) (k:∀a,P a→Q a):T m Q:=by obtain⟨a,e,p⟩:=h; exact⟨a,e,k a p⟩
theorem T.of {m:Option β} {a:β} (h:m= .some a) (hq:Q a):T m Q:=⟨a,h,hq⟩
theorem T.bind {m:Option α} {k:α→Option β} (P:α→Prop) (h:T m P) (hk:∀a,P a→T (k a) Q):T (m.bind k) Q:=by
 obtain⟨a,e,p⟩:=h
 rw[e]; exact hk a p
theorem T.bindEq {m:Option α} {k:α→Option β} {a:α} (h:m= .some a) (hk:T (k a) Q):T (m.bind k) Q:=by rw[h]; exact hk
theorem T.ite {c:Prop} [Decidable c] {a b:Option β} (h1:c→T a Q) (h2:¬c→T b Q):T (if c then a else b) Q:=by
 by_cases h:c
 ·rw[if_pos h]; exact h1 h
 ·rw[if_neg h]; exact h2 h
theorem T.grd {b:Bool} {k:Option β} (hb:b=true) (h:T k Q):T (grd b k) Q:=by unfold Go.Vm.grd; rw[if_pos hb]; exact h
theorem T.ix {l:List α} {i:Int} {k:α→Option β} (h0:0≤i) (h1:i < l.length) (hk:∀x,l[i.toNat]? =Option.some x→x∈l→T (k x) Q):T ((ix l i).bind k) Q:=by
 have hx:l[i.toNat]? =Option.some l[i.toNat]:=List.getElem?_eq_getElem (by omega)
 rw[nS l h0,hx]
 exact hk _ hx (List.getElem_mem _)
theorem T.app {xs ys:List α} {k:List α→Option β} (h:xs.length+ys.length≤1000000000) (hk:T (k (xs++ys)) Q):T ((app xs ys).bind k) Q:=by rw[cB h]; exact hk
theorem T.slc {l:List α} {a b:Int} {k:List α→Option β} (h:0≤a∧a≤b∧b≤l.length) (hk:T (k ((l.take b.toNat).drop a.toNat)) Q):T ((slc l a b).bind k) Q:=by unfold Go.Vm.slc; rw[if_pos h]; exact hk
variable {R:ρ→Prop} {G B:σ→Prop}
theorem T.go {s:σ} (h:G s):T (.some (Lp.go s)) (L3 G B R):=⟨_,rfl,h⟩
theorem T.brk {s:σ} (h:B s):T (.some (Lp.brk s)) (L3 G B R):=⟨_,rfl,h⟩
theorem T.ret {r:ρ} (h:R r):T (.some (Lp.ret r)) (L3 G B R):=⟨_,rfl,h⟩
theorem T.after {m:Option (Lp σ ρ)} {k:σ→Option ρ} (h:T m (L3 (λ_=>False) (λs=>T (k s) R) R)):T (after m k) R:=by
 obtain⟨a,e,p⟩:=h
 rw[e]
 cases a with
 | go s=>exact p.elim
 | brk s=>exact p
 | ret r=>exact⟨_,rfl,p⟩
theorem T.loopAt {step:σ→Option (Lp σ ρ)} (I:σ→Prop) (μ:σ→Nat) (hs:∀s,I s→T (step s) (L3 (λs'=>I s'∧μ s' < μ s) B R)):∀(F:Nat) (s:σ),I s→μ s < F→T (aT step F s) (L3 (λ_=>False) B R)
 | 0,_,_,h=>by omega
 | F+1,s,hi,hm=>by
  obtain⟨a,e,p⟩:=hs s hi
  unfold aT
  rw[e]
  cases a with
  | go s'=>exact T.loopAt I μ hs F s' p.1 (by have:=p.2; omega)
  | brk s'=>exact⟨_,rfl,p⟩
  | ret r=>exact⟨_,rfl,p⟩
theorem T.loop {step:σ→Option (Lp σ ρ)} {F:Nat} {s0:σ} {k:σ→Option ρ} (I:σ→Prop) (μ:σ→Nat) (B:σ→Prop) (hm:μ s0 < F) (h0:I s0) (hs:∀s,I s→T (step s) (L3 (λs'=>I s'∧μ s' < μ s) B R)) (hk:∀s,B s→T (k s) R):
    T (Go.Vm.after (aT step F s0) k) R:=T.after ((T.loopAt I μ hs F s0 h0 hm).mono λa=>by
      cases a with
      | go s=>exact λh=>h.elim
      | brk s=>exact hk s
      | ret r=>exact id)
end
theorem KJ {n:Nat} (x:Ar n):x.1.length=n:=x.2
theorem aBC (n:Int):0≤IntKind.wrap .u8 n∧IntKind.wrap .u8 n < 256:=by rw[EF]; omega
theorem wrI (n:Int): -9223372036854775808≤IntKind.wrap .i64 n∧IntKind.wrap .i64 n < 9223372036854775808:=by
 have e:IntKind.wrap .i64 n=(if decide (n % 18446744073709551616≥9223372036854775808)=true then n % 18446744073709551616 - 18446744073709551616 else n % 18446744073709551616):=rfl
 rw[e]
 simp only[decide_eq_true_eq]
 split <;> omega
end Go.Vm
namespace Go.Proofs.YtbbifdfldpfphaaGreat
open Go.Vm
theorem NY {F:Nat} {a b:Int} (hb:0≤b):T (tX F a b) λ_=>True:=by
 unfold tX
 refine .grd (by simpa using hb) (.grd (by simpa using Q3 _) (.some trivial))
theorem aGK {F:Nat} {l:List Int} (hF:1000≤F) (hl:l.length≤300):T (NU F l) λr=>r.length % 64=0∧r.length≤l.length+80:=by
 unfold NU
 refine .app (by simp; omega) (.app (by simp; omega) ?_)
 refine .loop (λq=>l.length+1≤q.length∧q.length≤(l.length+72) / 64*64 - 8+0∧l.length+9≤(l.length+72) / 64*64) (λq=>(l.length+72) / 64*64 - 8 - q.length) (λq=>(q.length+8) % 64=0∧q.length≤l.length+64) (by simp; omega) (by simp; omega) (λq hq=> ?_) (λq hq=> ?_)
 ·unfold wY
  rw[wr (by omega) (by omega),Int.tmod_eq_emod_of_nonneg (by omega)]
  refine .ite (λhc=> ?_) λhc=> ?_
  ·have:((q.length:Int)+8) % 64≠0:=by simpa using hc
   refine .app (by simp; omega) (.go ?_)
   simp only[List.length_append,List.length_singleton]
   omega
  ·have:((q.length:Int)+8) % 64=0:=by simpa using hc
   exact .brk (by omega)
 ·refine .loop (λs=> -1≤s.2∧s.2≤7∧(s.1.length:Int)+s.2=q.length+7) (λs=>(s.2+1).toNat) (λs=>s.1.length=q.length+8) (by simp; omega) (by simp) (λs hs=> ?_) (λs hs=>.some (by omega))
  obtain⟨a,i⟩:=s
  unfold wZ
  simp only at hs ⊢
  refine .ite (λhc=> ?_) λhc=> ?_
  ·have hc:=of_decide_eq_true hc
   rw[wr (n:=i - 1) (by omega) (by omega)]
   refine .grd (by simpa using Q3 _) (.app (by simp; omega) (.go ?_))
   simp only[List.length_append,List.length_singleton]
   omega
  ·exact .brk (by simp only[decide_eq_true_eq] at hc; show a.length=_; omega)
theorem aBD {F:Nat} {d:List Int} (hF:1000≤F) (hl:d.length≤300):T (V1 F d) mP:=by
 unfold V1
 refine .bind (λ_=>True) ⟨_,rfl,trivial⟩ λy6 _=> ?_
 refine .bind _ (aGK hF hl) λy hy=> ?_
 refine .loop (λs=>0≤s.2∧s.2 % 64=0∧s.2≤y.length) (λs=>(y.length - s.2).toNat) (λ_=>True) (by simp; omega) (by simp) (λs hs=> ?_) (λs _=> ?_)
 ·obtain⟨h,i⟩:=s
  unfold DK
  simp only at hs ⊢
  refine .ite (λhc=> ?_) λhc=>.brk trivial
  have hc:=of_decide_eq_true hc
  refine .loop (λs=>0≤s.2∧s.2≤64) (λs=>(64 - s.2).toNat) (λ_=>True) (by simp; omega) (by simp) (λs hs2=> ?_) (λs _=> ?_)
  ·obtain⟨w,j⟩:=s
   unfold DH
   simp only at hs2 ⊢
   refine .ite (λhc2=> ?_) λhc2=>.brk trivial
   have hc2:=of_decide_eq_true hc2
   have fin:IntKind.wrap .i64 (j+1)=j+1:=wr (by omega) (by omega)
   refine .after (.ite (λhc3=> ?_) λhc3=> ?_)
   ·have hc3:=of_decide_eq_true hc3
    refine .loop (λs=>0≤s.2∧s.2≤4) (λs=>(4 - s.2).toNat) (λ_=>True) (by simp; omega) (by simp) (λs hs4=> ?_) (λs _=>.brk (.go (by rw[fin]; simp only; omega)))
    obtain⟨w,k⟩:=s
    unfold DG
    simp only at hs4 ⊢
    refine .ite (λhc4=> ?_) λhc4=>.brk trivial
    have hc4:=of_decide_eq_true hc4
    rw[wr (n:=4*j) (by omega) (by omega),wr (n:=i+4*j) (by omega) (by omega),wr (n:=i+4*j+k) (by omega) (by omega),wr (n:=k+1) (by omega) (by omega)]
    refine .ix (by omega) (by rw[KJ]; omega) λ_ _ _=>.ix (by omega) (by omega) λ_ _ _=>.ix (by omega) (by rw[KJ]; omega) λ_ _ _=>.go ?_
    simp only
    omega
   ·have hc3:¬j < 16:=by simpa using hc3
    rw[wr (n:=j - 15) (by omega) (by omega),wr (n:=j - 2) (by omega) (by omega),wr (n:=j - 16) (by omega) (by omega),wr (n:=j - 7) (by omega) (by omega)]
    refine .ix (by omega) (by rw[KJ]; omega) λ_ _ _=>.ix (by omega) (by rw[KJ]; omega) λ_ _ _=>.ix (by omega) (by rw[KJ]; omega) λ_ _ _=>.ix (by omega) (by rw[KJ]; omega) λ_ _ _=> ?_
    refine .bind _ (NY (by omega)) λ_ _=>.bind _ (NY (by omega)) λ_ _=>.bind _ (NY (by omega)) λ_ _=>.bind _ (NY (by omega)) λ_ _=> ?_
    refine .ix (by omega) (by rw[KJ]; omega) λ_ _ _=>.brk (.go ?_)
    rw[fin]; simp only; omega
  ·refine .loop (λs=>0≤s.2∧s.2≤64) (λs=>(64 - s.2).toNat) (λ_=>True) (by simp; omega) (by simp) (λs hs2=> ?_) (λs _=> ?_)
   ·obtain⟨w,j⟩:=s
    unfold DI
    simp only at hs2 ⊢
    refine .ite (λhc2=> ?_) λhc2=>.brk trivial
    have hc2:=of_decide_eq_true hc2
    have fin:IntKind.wrap .i64 (j+1)=j+1:=wr (by omega) (by omega)
    rw[fin]
    repeat' (first | exact trivial | refine T.bind _ (NY (by omega)) λ_ _=> ?_ | refine T.ix (by omega) (by rw[KJ]; omega) λ_ _ _=> ?_)
    refine .go ?_
    simp only; omega
   ·refine .loop (λs=>0≤s.2∧s.2≤8) (λs=>(8 - s.2).toNat) (λ_=>True) (by simp; omega) (by simp) (λs hs2=> ?_) (λs _=> ?_)
    ·obtain⟨w,j⟩:=s
     unfold DJ
     simp only at hs2 ⊢
     refine .ite (λhc2=> ?_) λhc2=>.brk trivial
     have hc2:=of_decide_eq_true hc2
     rw[wr (n:=j+1) (by omega) (by omega)]
     refine .ix (by omega) (by rw[KJ]; omega) λ_ _ _=>.ix (by omega) (by rw[KJ]; omega) λ_ _ _=>.ix (by omega) (by rw[KJ]; omega) λ_ _ _=>.go ?_
     simp only; omega
    ·rw[wr (n:=i+64) (by omega) (by omega)]
     refine .go ?_
     simp only; omega
 ·refine .loop (λs=>0≤s.2∧s.2≤32∧mP s.1) (λs=>(32 - s.2).toNat) (λs=>mP s.1) (by simp; omega) ⟨by simp,by simp, ?_⟩ (λs hs2=> ?_) (λs hs=>.some hs)
  ·intro x hx
   have:x=0:=List.eq_of_mem_replicate hx
   subst this
   exact⟨by omega,by omega⟩
  ·obtain⟨w,j⟩:=s
   unfold w5
   simp only at hs2 ⊢
   refine .ite (λhc2=> ?_) λhc2=>.brk hs2.2.2
   have hc2:=of_decide_eq_true hc2
   rw[wr (n:=j+1) (by omega) (by omega),Int.tdiv_eq_ediv_of_nonneg (by omega),wr (n:=j / 4) (by omega) (by omega)]
   refine .ix (by omega) (by rw[KJ]; omega) λ_ _ _=>.grd (by simpa using Q3 _) (.ix (by omega) (by rw[KJ]; omega) λ_ _ _=>.go ⟨⟨?_, ?_, ?_⟩, ?_⟩)
   ·simp only; omega
   ·simp only; omega
   ·intro x hx
    rcases List.mem_or_eq_of_mem_set hx with h | rfl
    ·exact hs2.2.2 x h
    ·exact aBC _
   ·simp only; omega
end Go.Proofs.YtbbifdfldpfphaaGreat
namespace Go.Vm
section
variable {α β ρ:Type} {Q:β→Prop}
theorem T.ins {l:List α} {r:Int} {y:α} {k:List α→Option β} (h:0≤r∧r≤l.length) (hl:l.length≤1000000) (hk:∀z:List α,z.length=l.length+1→(∀x∈z,x∈l∨x=y)→T (k z) Q):
    T ((Go.Vm.slc l 0 r).bind λx=>(Go.Vm.app ([]:List α) x).bind λz=>(Go.Vm.app z ([y]:List α)).bind λz2=>(Go.Vm.slc l r l.length).bind λx2=>(Go.Vm.app z2 x2).bind k) Q:=by
  refine .slc (by omega) (.app (by simp; omega) (.app (by simp; omega) (.slc (by omega) (.app (by simp; omega) (hk _ (by simp; omega) λx hx=> ?_)))))
  simp only[List.mem_append,List.mem_singleton] at hx
  rcases hx with ((h | h) | h) | h
  · simp at h
  · exact .inl (List.mem_of_mem_take (List.mem_of_mem_drop h))
  · exact .inr h
  · exact .inl (List.mem_of_mem_take (List.mem_of_mem_drop h))
theorem T.scan {Q:ρ→Prop} {l:List α} {F:Nat} {body:Int→Option (Lp Int ρ)} {g:α→Option (Lp Bool (Lp Int ρ))} {k:Int→Option ρ} (hF:l.length < F) (hl:l.length < 1000000)
    (hb:∀i,body i=Go.Vm.after (if decide (i < (l.length:Int))=true then (Go.Vm.ix l i).bind g else Option.some (.brk false)) λj=>if j=true then Option.some (.go (IntKind.wrap .i64 (i+1))) else Option.some (.brk i))
    (hg:∀x∈l,T (g x) (L3 (λ_=>False) (λ_=>True) (λ_=>False))) (hk:∀r:Int,0≤r∧r≤l.length→T (k r) Q):T (Go.Vm.after (aT body F 0) k) Q:=by
  refine .loop (λi=>0≤i∧i≤l.length) (λi=>(l.length - i).toNat) (λi=>0≤i∧i≤l.length) (by omega) (by omega) (λi hi=> ?_) (λi hi=>hk i hi)
  rw[hb]
  refine .after (.ite (λhc=> ?_) λhc=>.brk ?_)
  · have hc:=of_decide_eq_true hc
    refine .ix (by omega) (by omega) λx _ hx=>(hg x hx).mono λa ha=> ?_
    cases a with
    | go s=>exact ha
    | ret s=>exact ha.elim
    | brk s=>
      refine T.ite (λ_=>.go ?_) λ_=>.brk hi
      rw[wr (by omega) (by omega)]
      omega
  · exact T.ite (λh=>by cases h) λ_=>.brk hi
end
end Go.Vm
namespace Go.Proofs.YtbbifdfldpfphaaGreat
open Go.Vm
def fOk (f:dR):Prop:=f.Path.size≤100∧gL gB f.Data
def U2 (f:dR):Prop:=fOk f∧f.Data.length≤200
theorem aBE {F:Nat} {l:List dR} (hF:1000≤F):T (KI F l) λb=>b=false→l.length≤6∧∀x∈l,x.Data.length≤200:=by
 unfold KI
 refine .ite (λhc=>.some λh=>by cases h) λhc=> ?_
 have hc:l.length≤6:=by simp at hc; omega
 rw[iQ (l:=l) (λx=>decide (200 < (x.Data.length:Int))) true (by omega) (λi x hx _ hi=>by
  unfold tW
  rw[f9 (by omega)]
  simp only[bB,hx,Option.bind_some,Int.ofNat_lt,hi,decide_true,if_true]
  split <;> rfl) (by unfold tW; simp)]
 cases h:l.any λx=>decide (200 < (x.Data.length:Int))
 ·refine .some λ_=>⟨hc,λx hx=> ?_⟩
  have:=List.any_eq_false.1 h x hx
  simp at this
  omega
 ·exact .some λh=>by cases h
theorem aGL {F:Nat} {l:List dR} (hF:1000≤F) (ho:∀f∈l,fOk f):T (M85 F l) λr=>r.2=0→r.1.length≤6∧∀f∈r.1,U2 f:=by
  unfold M85
  refine .bind _ (aBE hF) λb hb=>.ite (λ_=>.some λh=>by simp at h) λhc=> ?_
  obtain⟨hn,hd⟩:=hb (by simpa using hc)
  refine .loop (λi=>0≤i∧i≤l.length) (λi=>(l.length - i).toNat) (λ_=>True) (by omega) (by omega) (λi hi=> ?_) (λi _=> ?_)
  · unfold DD
    refine .ite (λhc=> ?_) λhc=>.brk trivial
    have hc:=of_decide_eq_true hc
    refine .ix (by omega) (by omega) λx _ hx=>.bindEq (MQ hF (ho x hx).1) (.ite (λ_=>.ret λh=>by simp at h) λ_=>.go ?_)
    rw[wr (by omega) (by omega)]
    omega
  · refine .loop (λs=>0≤s.2∧s.2≤l.length∧(s.1.length:Int)=s.2∧∀f∈s.1,U2 f) (λs=>(l.length - s.2).toNat) (λs=>s.1.length≤6∧∀f∈s.1,U2 f) (by simp; omega) (by simp) (λs hs=> ?_) (λs hs=>.some λ_=>hs)
    obtain⟨q,i⟩:=s
    simp only at hs
    unfold DF
    refine .ite (λhc=> ?_) λhc=>.brk ⟨by simp only; omega,hs.2.2.2⟩
    have hc:=of_decide_eq_true hc
    simp only at hc
    refine .loop (λj=>0≤j∧j≤q.length) (λj=>(q.length - j).toNat) (λj=>0≤j∧j≤q.length) (by omega) (by omega) (λj hj=> ?_) (λj hj=> ?_)
    · unfold DE
      have fin:j < q.length→0≤IntKind.wrap .i64 (j+1)∧IntKind.wrap .i64 (j+1)≤q.length∧(q.length - IntKind.wrap .i64 (j+1)).toNat < (q.length - j).toNat:=λh=>by
        rw[wr (by omega) (by omega)]; omega
      refine .after (.ite (λhc2=> ?_) λhc2=>.brk (T.ite (λh=>by cases h) λ_=>.brk hj))
      have hc2:=of_decide_eq_true hc2
      have:=fin hc2
      refine .ix (by omega) (by omega) λx _ hx=>.ix (by omega) (by omega) λy _ hy=>.brk (T.ite (λ_=>.go (by omega)) λ_=>.brk hj)
    · have rest:T (if (false:Bool)=true then some (.ret ([],9)) else (slc q 0 j).bind λx494=>(ix l i).bind λx496=>(ix l i).bind λx498=>(app ([]:List dR) x494).bind λz500=>(vK F x498.Data).bind λy506=>(app z500 ([({ Path:=x496.Path,Data:=y506}:dR)]:List dR)).bind λz508=>(slc q j (q.length:Int)).bind λx513=>(app z508 x513).bind λz515=>some (.go (z515,IntKind.wrap .i64 (i+1))))
          (L3 (λs':List dR×Int=>(0≤s'.2∧s'.2≤l.length∧(s'.1.length:Int)=s'.2∧∀f∈s'.1,U2 f)∧(l.length - s'.2).toNat < (l.length - i).toNat) (λs=>s.1.length≤6∧∀f∈s.1,U2 f) (λr:List dR×Int=>r.2=0→r.1.length≤6∧∀f∈r.1,U2 f)):=by
        refine T.ite (λh=>by cases h) λ_=> ?_
        rw[wr (n:=i+1) (by omega) (by omega)]
        refine .slc (by omega) (.ix (by omega) (by omega) λx _ hx=>.ix (by omega) (by omega) λy _ hy=>.app (by simp; omega) (.bindEq (UI (by have:=hd y hy; omega)) (.app (by simp; omega) (.slc (by omega) (.app (by simp; omega) (.go ?_))))))
        refine⟨⟨by simp only; omega,by simp only; omega,by simp; omega,λf hf=> ?_⟩,by simp only; omega⟩
        simp only[List.mem_append,List.mem_singleton] at hf
        rcases hf with ((h | h) | h) | h
        · simp at h
        · exact hs.2.2.2 f (List.mem_of_mem_take (List.mem_of_mem_drop h))
        · subst h
          exact⟨⟨(ho x hx).1,(ho y hy).2⟩,hd y hy⟩
        · exact hs.2.2.2 f (List.mem_of_mem_take (List.mem_of_mem_drop h))
      refine .after (.ite (λhc2=> ?_) λhc2=>.brk rest)
      have hc2:=of_decide_eq_true hc2
      refine .ix (by omega) (by omega) λx _ hx=>.ix (by omega) (by omega) λy _ hy=>.brk ?_
      cases x.Path.toList==y.Path.toList
      · exact rest
      · exact .ret λh=>by simp at h
theorem aGM {F:Nat} {l:List Int} (hF:1000≤F) (h0:0 < l.length) (hl:l.length≤300):T (NW F l) λk=>0 < k∧k≤l.length∧(8≤k∨k=l.length):=by
 unfold NW
 refine .loop (λs=>0≤s.2∧s.2≤l.length) (λs=>(l.length - s.2).toNat) (λ_=>True) (by simp; omega) (by simp) (λs hs=> ?_) (λs _=>.some (by omega))
 obtain⟨h,i⟩:=s
 simp only at hs
 unfold w7
 refine .ite (λhc=> ?_) λhc=>.brk trivial
 have hc:=of_decide_eq_true hc
 simp only at hc
 rw[wr (n:=i+1) (by omega) (by omega)]
 have k2:(8≤i+1)∨¬(8≤i+1):=by omega
 have e64:(i+1==64)=decide (i+1=64):=rfl
 refine .ix (by omega) (by omega) λx _ hx=>.after (.ite (λhc2=> ?_) λhc2=> ?_)
 ·have hc2:=of_decide_eq_true hc2
  refine .ite (λ_=>.brk (T.ite (λ_=>.ret (by omega)) λh=>absurd rfl h)) λ_=>.brk (T.ite (λ_=>.ret (by omega)) λ_=>.go (by simp only; omega))
 ·refine .brk (T.ite (λh=>.ret ?_) λ_=>.go (by simp only; omega))
  have:i+1=64:=by simpa using h
  omega
theorem aGN {F:Nat} {l:List Int} (hF:1000≤F) (hl:l.length≤200) (gl:gL gB l):T (NX F l) λr=>r.length≤25∧∀x∈r,x.length≤300∧gL gB x:=by
 unfold NX
 refine .loop (λs=>s.2.length≤l.length∧gL gB s.2∧(8*s.1.length+s.2.length≤l.length∨(s.2.length=0∧8*s.1.length≤l.length+7))∧∀x∈s.1,x.length≤300∧gL gB x) (λs=>s.2.length) (λs=>s.1.length≤25∧∀x∈s.1,x.length≤300∧gL gB x) (by simp; omega) (by simp[gl]) (λs hs=> ?_) (λs hs=>.some hs)
 obtain⟨q,d⟩:=s
 simp only at hs
 obtain⟨s1,s2,s3,s4⟩:=hs
 unfold w8
 refine .ite (λhc=> ?_) λhc=>.brk ⟨by simp only; omega,s4⟩
 have hc:=of_decide_eq_true hc
 simp only at hc
 refine .bind _ (aGM hF (by simp only; omega) (by simp only; omega)) λk hk=>.slc (by omega) (.bindEq (UI (by simp; omega)) (.app (by simp; omega) (.slc (by simp only at hk ⊢; omega) (.go ?_))))
 simp only at hk ⊢
 refine⟨⟨by simp; omega,λx hx=>s2 x (List.mem_of_mem_take (List.mem_of_mem_drop hx)),by simp; omega,λx hx=> ?_⟩,by simp; omega⟩
 rcases List.mem_append.1 hx with h | h
 ·exact s4 x h
 ·rw[List.mem_singleton] at h
  subst h
  exact⟨by simp; omega,λy hy=>s2 y (List.mem_of_mem_take (List.mem_of_mem_drop hy))⟩
theorem aGO {F:Nat} {l:List dR} (hF:1000≤F) (ho:∀f∈l,fOk f):T (NV F l) λ_=>True:=by
 unfold NV
 refine .bind _ (aBE hF) λb hb=>.ite (λ_=>.some trivial) λhc=> ?_
 obtain⟨hn,hd⟩:=hb (by simpa using hc)
 refine .loop (λi=>0≤i∧i≤l.length) (λi=>(l.length - i).toNat) (λ_=>True) (by omega) (by omega) (λi hi=> ?_) (λi _=>.some trivial)
 unfold w6
 refine .ite (λhc=> ?_) λhc=>.brk trivial
 have hc:=of_decide_eq_true hc
 rw[wr (n:=i+1) (by omega) (by omega)]
 have fin:∀b:Bool,T (if b=true then (some (.ret 1):Option (Lp Int Int)) else some (.go (i+1))) (L3 (λs'=>(0≤s'∧s'≤l.length)∧(l.length - s').toNat < (l.length - i).toNat) (λ_=>True) (λ_=>True)):=λb=>T.ite (λ_=>.ret trivial) λ_=>.go (by omega)
 refine .after (.ix (by omega) (by omega) λx _ hx=>.bindEq (MQ hF (ho x hx).1) (.ite (λ_=>.brk (fin _)) λ_=>.ite (λh=> ?_) λ_=>.brk (fin _)))
 have h:=of_decide_eq_true h
 rw[wr (by omega) (by omega)]
 exact .ix (by omega) (by omega) λ_ _ _=>.ix (by omega) (by omega) λ_ _ _=>.brk (fin _)
theorem aGP {F:Nat} {l:List bO} {d:bO} (hF:1000≤F) (hl:l.length < 900) (gl:∀x∈l,mP x) (hd:mP d):
    T (EX F l d) λr=>0≤r.2.1∧r.2.1≤l.length∧r.1.length=l.length+(if r.2.2=true then 1 else 0)∧∀x∈r.1,mP x:=by
  unfold EX
  refine T.scan (by omega) (by omega) (λ_=>rfl) (λx hx=>.bindEq (YH hF (gl x hx) hd) (.brk trivial)) λr hr=> ?_
  have rest:T ((slc l 0 r).bind λx84=>(app ([]:List bO) x84).bind λz86=>(app z86 ([d]:List bO)).bind λz92=>(slc l r (l).length).bind λx98=>(app z92 x98).bind λz100=>some (z100,r,true))
      λr=>0≤r.2.1∧r.2.1≤l.length∧r.1.length=l.length+(if r.2.2=true then 1 else 0)∧∀x∈r.1,mP x:=by
    refine .ins hr (by omega) λz h1 h2=>.some ⟨hr.1,hr.2,h1,λx hx=> ?_⟩
    rcases h2 x hx with h | rfl
    · exact gl x h
    · exact hd
  refine .after (.ite (λhc=> ?_) λ_=>.brk (T.ite (λh=>by cases h) λ_=>rest))
  have hc:=of_decide_eq_true hc
  refine .ix (by omega) (by omega) λx _ hx=>.brk ?_
  refine T.ite (λ_=>.some ?_) λ_=>rest
  exact⟨hr.1,hr.2,rfl,gl⟩
open Go.Vm
def IX (m:bD):Prop:=m.Name.size≤100∧m.Parts.length≤10∧(∀p∈m.Parts,p.Path.size≤100∧p.Ids.length≤40)∧yL m
def NZ (l:List (List Int)) (n:Nat):Prop:=l.length≤n∧∀x∈l,x.length≤300∧gL gB x
structure F1 (c:aR):Prop where
 seq:gI c.Snap.Seq
 man:IX c.Snap.Man
 locs:c.Snap.Locs= []
 cn:c.Chunks.length≤160
 ch:∀x∈c.Chunks,mP x.Id∧x.Data.length≤300∧gL gB x.Data∧x.Locs= []
 sq:gI c.Seq
 vol:gI c.Vol
 it:c.Items.length≤64
 iti:∀x∈c.Items,gI x.Seq∧gI x.Of∧gI x.Off∧gI x.Len
theorem U3:IX { Name:=ByteArray.empty,Parts:= []}:=⟨by decide,by simp,by simp,trivial,λ_ h=>by simp at h⟩
theorem aGQ {F:Nat} {nm:ByteArray} {fs:List dR} (hF:1000≤F) (hn:nm.size≤100) (h6:fs.length≤6) (ho:∀f∈fs,U2 f):T (M86 F nm fs) λr=>IX r.1∧NZ r.2.1 150:=by
 unfold M86
 refine .bindEq (MQ hF hn) (.ite (λ_=>.some ⟨U3,by simp,by simp⟩) λ_=>.bind _ (aGO hF λf hf=>(ho f hf).1) λy _=>.ite (λ_=>.some ⟨U3,by simp,by simp⟩) λ_=> ?_)
 refine .loop (λs=>0≤s.2.2.2∧s.2.2.2≤fs.length∧(s.1.length:Int)=s.2.2.2∧(∀p∈s.1,(p.Path.size≤100∧p.Ids.length≤40)∧G4 p)∧(s.2.1.length:Int)≤25*s.2.2.2∧(∀x∈s.2.1,x.length≤300∧gL gB x)∧s.2.2.1.length=s.2.1.length∧∀x∈s.2.2.1,mP x)
  (λs=>(fs.length - s.2.2.2).toNat) (λs=>(s.1.length≤6∧∀p∈s.1,(p.Path.size≤100∧p.Ids.length≤40)∧G4 p)∧NZ s.2.1 150) (by simp; omega) (by simp) (λs hs=> ?_) (λs hs=> ?_)
 ·obtain⟨ps,ds,ids,i⟩:=s
  simp only at hs
  obtain⟨s1,s2,s3,s4,s5,s6,s7,s8⟩:=hs
  unfold DM
  refine .ite (λhc=> ?_) λhc=>.brk ⟨⟨by simp only; omega,s4⟩,by simp only; omega,s6⟩
  have hc:=of_decide_eq_true hc
  simp only at hc
  rw[wr (n:=i+1) (by omega) (by omega)]
  refine .ix (by omega) (by omega) λx e hx=>.ix (by omega) (by omega) λx2 e2 hx2=>.ix (by omega) (by omega) λx3 e3 hx3=>.bind _ (aGN hF (ho x3 hx3).2 (ho x3 hx3).1.2) λy hy=> ?_
  obtain⟨y1,y2⟩:=hy
  refine .loop (λs=>0≤s.2.2.2∧s.2.2.2≤y.length∧(s.1.length:Int)=s.2.2.2∧(∀d∈s.1,mP d)∧(s.2.1.length:Int)≤25*i+s.2.2.2∧(∀x∈s.2.1,x.length≤300∧gL gB x)∧s.2.2.1.length=s.2.1.length∧∀x∈s.2.2.1,mP x)
   (λs=>(y.length - s.2.2.2).toNat) (λs=>(s.1.length≤25∧(∀d∈s.1,mP d))∧(s.2.1.length:Int)≤25*i+25∧(∀x∈s.2.1,x.length≤300∧gL gB x)∧s.2.2.1.length=s.2.1.length∧∀x∈s.2.2.1,mP x) (by simp; omega) ⟨by simp,by simp,by simp,by simp,by simp only; omega,s6,s7,s8⟩ (λs hs=> ?_) (λs hs=> ?_)
  ·obtain⟨q,ds,ids,j⟩:=s
   simp only at hs
   obtain⟨r1,r2,r3,r4,r5,r6,r7,r8⟩:=hs
   unfold DL
   refine .ite (λhc2=> ?_) λhc2=>.brk ⟨⟨by simp only; omega,r4⟩,by simp only; omega,r6,r7,r8⟩
   have hc2:=of_decide_eq_true hc2
   simp only at hc2
   rw[wr (n:=j+1) (by omega) (by omega)]
   refine .ix (by omega) (by omega) λz _ hz=>.bind _ (aBD hF (y2 z hz).1) λd hd=>.app (by simp; omega) (.bind _ (aGP hF (by simp only; omega) r8 hd) λr hr=> ?_)
   obtain⟨q1,q2,q3,q4⟩:=hr
   simp only at q2 q3
   have hq:∀a∈q++ [d],mP a:=λa ha=>by
    rcases List.mem_append.1 ha with h | h
    ·exact r4 a h
    ·rw[List.mem_singleton] at h; exact h ▸ hd
   refine .after (.ite (λhi=> ?_) λhi=>.brk (.go ?_))
   ·rw[if_pos hi] at q3
    refine .slc (by simp only; omega) (.ix (by omega) (by omega) λz2 _ hz2=>.app (by simp; omega) (.app (by simp; omega) (.slc (by simp only; omega) (.app (by simp; omega) (.brk (.go ?_))))))
    refine⟨⟨by simp only; omega,by simp only; omega,by simp; omega,hq,by simp; omega,λa ha=> ?_,by simp; omega,q4⟩,by simp only; omega⟩
    simp only[List.mem_append,List.mem_singleton] at ha
    rcases ha with ((h | h) | h) | h
    ·simp at h
    ·exact r6 a (List.mem_of_mem_take (List.mem_of_mem_drop h))
    ·exact h ▸ y2 z2 hz2
    ·exact r6 a (List.mem_of_mem_take (List.mem_of_mem_drop h))
   ·rw[if_neg hi] at q3
    exact⟨⟨by simp only; omega,by simp only; omega,by simp; omega,hq,by simp only; omega,r6,by simp only; omega,q4⟩,by simp only; omega⟩
  ·obtain⟨q,ds2,ids2,j⟩:=s
   simp only at hs
   obtain⟨⟨a1,a2⟩,a3,a4,a5,a6⟩:=hs
   refine .app (by simp; omega) (.go ?_)
   refine⟨⟨by simp only; omega,by simp only; omega,by simp; omega,λp hp=> ?_,by simp only; omega,a4,a5,a6⟩,by simp only; omega⟩
   rcases List.mem_append.1 hp with h | h
   ·exact s4 p h
   ·rw[List.mem_singleton] at h
    subst h
    have:=(ho x2 hx2).2
    exact⟨⟨(ho x hx).1.1,by simp only; omega⟩,trivial,by simp only[gI]; omega,a2⟩
 ·obtain⟨ps,ds,ids,i⟩:=s
  exact .some ⟨⟨hn,by have:=hs.1.1; simp only at this ⊢; omega,λp hp=>(hs.1.2 p hp).1,trivial,λp hp=>(hs.1.2 p hp).2⟩,hs.2⟩
theorem aBF (n:Int):∃b,LU [IntKind.wrap .u8 n]=some b∧b.size=1:=by
 have h:=aBC n
 refine⟨_,by unfold LU; rw[if_pos (by simp; omega)], ?_⟩
 rfl
structure Ok (c:aA):Prop where
 sm:Sm c
 rg:Rng c
theorem SO (n:Int):gI (IntKind.wrap .i64 n):=wrI n
theorem HN {k s:Int} {v:Int} (hs:gI s) (hv:gI v) {l:List aU} (h6:l.length≤64) (hl:∀x∈l,gI x.Seq∧gI x.Of∧gI x.Off∧gI x.Len):
    F1 { Kind:=k,Snap:= { Seq:=0,Man:= { Name:=ByteArray.empty,Parts:= []},Locs:= []},Chunks:= [],Seq:=s,Vol:=v,Items:=l}:=
  ⟨by simp[gI],U3,rfl,by simp,by simp,hs,hv,h6,hl⟩
structure SP (c:aA) (n:Int) (x:aU):Prop where
 id:mP x.Id
 q:0≤x.Seq∧x.Seq≤1073741824
 of:gI x.Of
 off:gI x.Off
 len:gI x.Len
 w:(x.Kind=1∧x.Seq=0∧∃j:Nat,(j:Int) < n∧∃y,c.Chunks[j]? =some y∧y.Id=x.Id)∨(x.Kind=2∧x.Id=kG∧∃j:Nat,(c.Chunks.length:Int)+j < n∧∃y,c.Snaps[j]? =some y∧y.Seq=x.Seq)∨
  (x.Kind=3∧x.Id=kG∧∃j:Nat,(c.Chunks.length:Int)+c.Snaps.length+j < n∧∃y,c.Exps[j]? =some y∧y.Seq=x.Seq∧y.Of=x.Of)
def Nd (q:List aU):Prop:=q.Pairwise λa b=>a.Kind=b.Kind→a.Id=b.Id→a.Seq≠b.Seq
structure KK (c:aA) (n:Int) (q:List aU):Prop where
 a:∀x∈q,SP c n x
 d:Nd q
theorem SP.mono {c:aA} {n m:Int} {x:aU} (h:SP c n x) (hm:n≤m):SP c m x:=⟨h.id,h.q,h.of,h.off,h.len,by
 rcases h.w with⟨a,b,j,k,e⟩ | ⟨a,b,j,k,e⟩ | ⟨a,b,j,k,e⟩
 ·exact .inl ⟨a,b,j,by omega,e⟩
 ·exact .inr (.inl ⟨a,b,j,by omega,e⟩)
 ·exact .inr (.inr ⟨a,b,j,by omega,e⟩)⟩
theorem OX {α:Type} {R:α→α→Prop} {l:List α} (h:l.Pairwise R) {i j:Nat} {x y:α} (hx:l[i]? =some x) (hy:l[j]? =some y) (hij:i < j):R x y:=by
 obtain⟨h1,rfl⟩:=List.getElem?_eq_some_iff.1 hx
 obtain⟨h2,rfl⟩:=List.getElem?_eq_some_iff.1 hy
 exact List.pairwise_iff_getElem.1 h i j h1 h2 hij
theorem N0:mP kG:=by
 intro x hx
 have:x=0:=List.eq_of_mem_replicate (n:=32) hx
 subst this
 exact⟨by omega,by omega⟩
theorem KK.put {c:aA} {n:Int} {q:List aU} {y:aU} (hG:Gd c) (h:KK c n q) (hy:SP c (n+1) y) (hn:¬SP c n y):KK c (n+1) (q++ [y]):=by
 refine⟨λx hx=> ?_,List.pairwise_append.2 ⟨h.d,List.pairwise_singleton _ _,λx hx z hz e1 e2 e3=> ?_⟩⟩
 ·rcases List.mem_append.1 hx with h1 | h1
  ·exact(h.a x h1).mono (by omega)
  ·rw[List.mem_singleton.1 h1]; exact hy
 ·rw[List.mem_singleton.1 hz] at e1 e2 e3
  refine hn ⟨hy.id,hy.q,hy.of,hy.off,hy.len, ?_⟩
  rcases(h.a x hx).w with⟨a,b,j,k,u,u1,u2⟩ | ⟨a,b,j,k,u,u1,u2⟩ | ⟨a,b,j,k,u,u1,u2,u3⟩
  ·exact .inl ⟨by omega,by omega,j,k,u,u1,by rw[u2,e2]⟩
  ·exact .inr (.inl ⟨by omega,by rw[← e2,b],j,k,u,u1,by omega⟩)
  ·rcases hy.w with⟨a',_⟩ | ⟨a',_⟩ | ⟨a',b',j',k',v,v1,v2,v3⟩
   ·omega
   ·omega
   ·rcases Nat.lt_trichotomy j j' with w | w | w
    ·have:=OX hG.eo u1 v1 w; omega
    ·subst w
     exact .inr (.inr ⟨a',b',j,k,v,v1,v2,v3⟩)
    ·have:=OX hG.eo v1 u1 w; omega
structure Mk (c:aA) (d:aR):Prop where
 k:0≤d.Kind∧d.Kind≤5
 v:0≤d.Vol∧d.Vol < c.Vols.length
 e:d.Kind≠3→d.Items= []
 it:KK c 1000 d.Items∨∃s∈c.Snaps,d.Items= [{ Kind:=3,Id:=kG,Seq:=c.Seq,Of:=s.Seq,Off:=13,Len:=17}]
theorem HO (c:aA) (n:Int):KK c n []:=⟨by simp,.nil⟩
theorem U4 {c:aA} {k s v:Int} {p:aH} {l:List aU} {m:List aB} (hk:0≤k∧k≤5) (hv:0≤v∧v < c.Vols.length) (he:k≠3→l= []) (h:KK c 1000 l):Mk c { Kind:=k,Snap:=p,Chunks:=m,Seq:=s,Vol:=v,Items:=l}:=⟨hk,hv,he,.inl h⟩
theorem t66 {F:Nat} {c:aA} {a:pR} (hF:1000≤F) (hc:Ok c) (hG:Gd c) (ho:∀f∈a.Tree,fOk f):T (M35 F c a) λr=>F1 r.1∧Mk c r.1:=by
  have g0:gI 0:=by simp[gI]
  have c1:=hc.rg.ch
  have c2:=hc.rg.sn
  have c3:=hc.rg.ex
  have c4:=hc.rg.vo
  have gq:=hc.sm.g.1
  unfold M35
  obtain⟨b,hb,hb1⟩:=aBF (IntKind.wrap .u64 (97+((IntKind.wrap .u64 a.N).tmod 5)))
  rw[hb]
  have e1:(ByteArray.mk #[110]).size=1:=rfl
  have e2:((ByteArray.mk #[110])++b).size=2:=by rw[ByteArray.size_append,e1,hb1]
  have hvn:=hG.vn
  simp only[gN,Bool.and_eq_true,decide_eq_true_eq] at hvn
  have v0:(0:Int)≤0∧(0:Int) < c.Vols.length:=by omega
  have hq:=hG.q
  simp only[gN,Bool.and_eq_true,decide_eq_true_eq] at hq
  refine .bindEq rfl (.grd (by rw[e1,hb1]; rfl) ?_)
  refine .after (T.mono (P:=L3 (λ_=>False) (λv=>gI v∧0≤v∧v < c.Vols.length) (λ_=>False)) (.ite (λh=> ?_) λ_=>.brk ⟨g0,v0⟩) λj hj=> ?_)
  · have h:=of_decide_eq_true h
    obtain⟨w,hw1,hw⟩:=aAX a.Vol (n:=c.Vols.length) (by omega) (by omega)
    rw[← wru (n:=c.Vols.length) (by omega)] at hw
    refine .grd ?_ (.brk ⟨SO _,by rw[hw]; omega⟩)
    rw[wru (by omega)]
    simp
    intro h2
    rw[h2] at h
    simp at h
  cases j with
  | go s=>exact hj
  | ret s=>exact hj.elim
  | brk v=>
  replace hj:gI v∧0≤v∧v < c.Vols.length:=hj
  refine T.after (T.mono (P:=L3 (λ_=>False) (λ_=>True) (λ_=>False)) (.ite (λ_=>.brk trivial) λ_=>.brk trivial) λj hj2=> ?_)
  cases j with
  | go s=>exact hj2
  | ret s=>exact hj2.elim
  | brk v2=>
  refine T.ite (λ_=> ?_) λ_=> ?_
  · refine .bind _ (aGL hF ho) λy hy=>.ite (λ_=>.some ⟨HN g0 g0 (by simp) (by simp),U4 (by decide) v0 (λ_=>rfl) (HO _ _)⟩) λh0=> ?_
    obtain⟨y1,y2⟩:=hy (by simpa using h0)
    refine .bind _ (aGQ hF (by omega) y1 y2) λm hm=> ?_
    obtain⟨m1,m2,m3⟩:=hm
    refine .loop (λs=>0≤s.2∧s.2≤m.2.1.length∧(s.1.length:Int)≤s.2∧∀x∈s.1,mP x.Id∧x.Data.length≤300∧gL gB x.Data∧x.Locs= []) (λs=>(m.2.1.length - s.2).toNat) (λs=>s.1.length≤160∧∀x∈s.1,mP x.Id∧x.Data.length≤300∧gL gB x.Data∧x.Locs= []) (by simp; omega) (by simp) (λs hs=> ?_) (λs hs=> ?_)
    · obtain⟨q,i⟩:=s
      simp only at hs
      unfold DN
      refine .ite (λh=> ?_) λ_=>.brk ⟨by simp only; omega,hs.2.2.2⟩
      have h:=of_decide_eq_true h
      simp only at h
      rw[wr (n:=i+1) (by omega) (by omega)]
      obtain⟨n,hn,_⟩:=m64 (F:=F) (c:=c) (d:=kG) hF (by omega)
      refine .ix (by omega) (by omega) λx _ hx=>.bind _ (aBD hF (m3 x hx).1) λd hd=> ?_
      obtain⟨n,hn,_⟩:=m64 (F:=F) (c:=c) (d:=d) hF (by omega)
      refine .bindEq hn (.after (.ite (λ_=>.ix (by omega) (by omega) λx2 _ hx2=>.app (by simp; omega) (.brk (.go ?_))) λ_=>.brk (.go ⟨⟨by simp only; omega,by simp only; omega,by simp only; omega,hs.2.2.2⟩,by simp only; omega⟩)))
      refine⟨⟨by simp only; omega,by simp only; omega,by simp; omega,λy hy=> ?_⟩,by simp only; omega⟩
      rcases List.mem_append.1 hy with h | h
      · exact hs.2.2.2 y h
      · rw[List.mem_singleton] at h
        subst h
        exact⟨hd,(m3 x2 hx2).1,(m3 x2 hx2).2,rfl⟩
    · obtain⟨q,i⟩:=s
      exact .some ⟨⟨gq,m1,rfl,hs.1,hs.2,g0,g0,by simp,by simp⟩,U4 (by decide) v0 (λ_=>rfl) (HO _ _)⟩
  · refine T.after (T.mono (P:=L3 (λ_=>False) (λ_=>True) (λ_=>False)) (.ite (λ_=>.brk trivial) λ_=>.brk trivial) λj hj2=> ?_)
    cases j with
    | go s=>exact hj2
    | ret s=>exact hj2.elim
    | brk v3=>
    refine T.ite (λ_=> ?_) λ_=> ?_
    · refine .ite (λ_=>.some ⟨HN g0 g0 (by simp) (by simp),U4 (by decide) v0 (λ_=>rfl) (HO _ _)⟩) λh0=> ?_
      have h0:0 < c.Snaps.length:=by
        have:¬((c.Snaps.length:Int)=0):=by simpa using h0
        omega
      obtain⟨k,hk,ek⟩:=aAX a.N h0 (by omega)
      rw[wru (by omega),ek]
      refine .grd (by simp; intro h; rw[h] at h0; simp at h0) (.ix (by omega) (by omega) λx _ hx=> ?_)
      have gx:=hc.sm.g.2.1 x hx
      refine .ite (λ_=>.some ⟨HN gx.1 g0 (by simp) (by simp),U4 (by decide) v0 (λ_=>rfl) (HO _ _)⟩) λ_=>.some ⟨HN g0 hj.1 (by simp) λy hy=> ?_,(show (0:Int)≤3∧(3:Int)≤5 by decide),hj.2,λh=>absurd rfl h,.inr ⟨x,hx,rfl⟩⟩
      rw[List.mem_singleton] at hy
      subst hy
      exact⟨gq,gx.1,by simp[gI],by simp[gI]⟩
    · refine T.after (T.mono (P:=L3 (λ_=>False) (λ_=>True) (λ_=>False)) (.ite (λ_=>.brk trivial) λ_=>.brk trivial) λj hj2=> ?_)
      cases j with
      | go s=>exact hj2
      | ret s=>exact hj2.elim
      | brk v4=>
      refine T.ite (λ_=> ?_) λ_=>.ite (λ_=>.some ⟨HN g0 hj.1 (by simp) (by simp),U4 (by decide) hj.2 (λ_=>rfl) (HO _ _)⟩) λ_=>.some ⟨HN g0 hj.1 (by simp) (by simp),U4 (by decide) hj.2 (λ_=>rfl) (HO _ _)⟩
      have w1:IntKind.wrap .i64 ((c.Chunks.length:Int)+(c.Snaps.length:Int))=(c.Chunks.length:Int)+(c.Snaps.length:Int):=wr (by omega) (by omega)
      have w2:IntKind.wrap .i64 ((c.Chunks.length:Int)+(c.Snaps.length:Int)+(c.Exps.length:Int))=(c.Chunks.length:Int)+(c.Snaps.length:Int)+(c.Exps.length:Int):=wr (by omega) (by omega)
      refine .loop (λs=>0≤s.2.2∧s.2.2≤420∧s.1.length≤64∧KK c s.2.2 s.1∧gI s.2.1) (λs=>(420 - s.2.2).toNat) (λs=>s.1.length≤64∧KK c 1000 s.1) (by simp; omega) ⟨by simp,by simp,by simp,HO _ _,by simp[gI]⟩ (λs hs=> ?_) (λs hs=> ?_)
      · obtain⟨q,o,i⟩:=s
        simp only at hs
        obtain⟨s1,s2,s3,s4,s5⟩:=hs
        unfold DO
        simp only[w1,w2]
        have fin:KK c 1000 q:=⟨λx hx=>(s4.a x hx).mono (by omega),s4.d⟩
        have s4':KK c (i+1) q:=⟨λx hx=>(s4.a x hx).mono (by omega),s4.d⟩
        refine .after (.ite (λh=>.brk (T.ite (λh2=> ?_) λ_=>.brk ⟨s3,fin⟩)) λ_=>.brk (T.ite (λh=>by cases h) λ_=>.brk ⟨s3,fin⟩))
        have h:=of_decide_eq_true h
        have h2:=of_decide_eq_true h2
        rw[wr (n:=i+1) (by omega) (by omega)]
        have put:∀y:aU,SP c (i+1) y→¬SP c i y→T ((app q ([y]:List aU)).bind λz1648=>some (.brk (z1648,IntKind.wrap .i64 (o+20))):Option (Lp (List aU×Int) (Lp (List aU×Int×Int) (aR×Bool))))
            (L3 (λ_=>False) (λs=>s.1.length≤64∧KK c (i+1) s.1∧gI s.2) (λ_=>False)):=λy hy hy2=>.app (by simp; omega) (.brk ⟨by simp; omega,s4.put hG hy hy2,SO _⟩)
        have g20:gI 20:=by simp[gI]
        refine .after (T.mono (P:=L3 (λ_=>False) (λs=>s.1.length≤64∧KK c (i+1) s.1∧gI s.2) (λ_=>False)) (.after ?_) λj hj3=> ?_)
        · have mid:T (after (if (decide (i < (c.Chunks.length:Int)))=true then ((ix c.Chunks i).bind λx1596=>some (.brk { { ({ Kind:=0,Id:=kG,Seq:=0,Of:=0,Off:=o,Len:=20}:aU) with Kind:=1} with Id:=x1596.Id})) else after (if (decide (i < (c.Chunks.length:Int)+(c.Snaps.length:Int)))=true then ((ix c.Snaps (IntKind.wrap .i64 (i - (c.Chunks.length:Int)))).bind λx1629=>some (.brk { { ({ Kind:=0,Id:=kG,Seq:=0,Of:=0,Off:=o,Len:=20}:aU) with Kind:=2} with Seq:=x1629.Seq})) else (ix c.Exps (IntKind.wrap .i64 ((IntKind.wrap .i64 (i - (c.Chunks.length:Int))) - (c.Snaps.length:Int)))).bind λx1634=>some (.brk { { { ({ Kind:=0,Id:=kG,Seq:=0,Of:=0,Off:=o,Len:=20}:aU) with Kind:=3} with Seq:=x1634.Seq} with Of:=x1634.Of}):Option (Lp (aU) (Lp (aU) (Lp ((List aU)×Int) (Lp ((List aU)×Int×Int) (aR×Bool)))))) λj1623=>some (.brk j1623):Option (Lp (aU) (Lp ((List aU)×Int) (Lp ((List aU)×Int×Int) (aR×Bool))))) λj1590=>(app q ([j1590]:List aU)).bind λz1648=>some (.brk (z1648,IntKind.wrap .i64 (o+20))):Option (Lp ((List aU)×Int) (Lp ((List aU)×Int×Int) (aR×Bool))))
              (L3 (λ_=>False) (λs=>s.1.length≤64∧KK c (i+1) s.1∧gI s.2) (λ_=>False)):=by
            refine .after (.ite (λh3=> ?_) λh3=>.after (.ite (λh4=> ?_) λh4=> ?_))
            · have h3:=of_decide_eq_true h3
              refine .ix (by omega) (by omega) λx ex hx=>.brk (put _ ⟨(hc.sm.g.2.2.1 x hx).1,by simp,g0,s5,g20,.inl ⟨rfl,rfl,i.toNat,by omega,x,ex,rfl⟩⟩ λh=> ?_)
              rcases h.w with⟨_,_,j,k,u,u1,u2⟩ | ⟨a,_⟩ | ⟨a,_⟩
              · have:=OX hG.co u1 ex (by omega)
                rw[u2] at this
                simp only at this; omega
              · exact absurd (show (1:Int)=2 from a) (by decide)
              · exact absurd (show (1:Int)=3 from a) (by decide)
            · have h4:=of_decide_eq_true h4
              have h3:¬(i < (c.Chunks.length:Int)):=by simpa using h3
              rw[wr (n:=i - (c.Chunks.length:Int)) (by omega) (by omega)]
              refine .ix (by omega) (by omega) λx ex hx=>.brk (.brk (put _ ⟨N0,by have:=hc.rg.s x hx; simp only; omega,g0,s5,g20,.inr (.inl ⟨rfl,rfl,(i - (c.Chunks.length:Int)).toNat,by omega,x,ex,rfl⟩)⟩ λh=> ?_))
              rcases h.w with⟨a,_⟩ | ⟨_,_,j,k,u,u1,u2⟩ | ⟨a,_⟩
              · exact absurd (show (2:Int)=1 from a) (by decide)
              · have:=OX hG.so u1 ex (by omega)
                simp only at u2; omega
              · exact absurd (show (2:Int)=3 from a) (by decide)
            · have h4:¬(i < (c.Chunks.length:Int)+(c.Snaps.length:Int)):=by simpa using h4
              rw[wr (n:=i - (c.Chunks.length:Int)) (by omega) (by omega),wr (n:=i - (c.Chunks.length:Int) - (c.Snaps.length:Int)) (by omega) (by omega)]
              refine .ix (by omega) (by omega) λx ex hx=>.brk (.brk (put _ ⟨N0,by have:=hc.rg.e x hx; simp only; omega,(hc.sm.g.2.2.2.1 x hx).2.1,s5,g20,.inr (.inr ⟨rfl,rfl,(i - (c.Chunks.length:Int) - (c.Snaps.length:Int)).toNat,by omega,x,ex,rfl,rfl⟩)⟩ λh=> ?_))
              rcases h.w with⟨a,_⟩ | ⟨a,_⟩ | ⟨_,_,j,k,u,u1,u2,u3⟩
              · exact absurd (show (3:Int)=1 from a) (by decide)
              · exact absurd (show (3:Int)=2 from a) (by decide)
              · have:=OX hG.eo u1 ex (by omega)
                simp only at u2; omega
          refine .ite (λh3=> ?_) λ_=>.brk (T.ite (λh=>by cases h) λ_=>mid)
          have h3:=of_decide_eq_true h3
          exact .ix (by omega) (by omega) λx _ _=>.brk (T.ite (λ_=>.brk ⟨s3,s4',s5⟩) λ_=>mid)
        · cases j with
          | go s=>exact hj3
          | ret s=>exact hj3.elim
          | brk s=>
            obtain⟨q2,o2⟩:=s
            exact .go ⟨⟨by simp only; omega,by simp only; omega,hj3.1,hj3.2.1,hj3.2.2⟩,by simp only; omega⟩
      · obtain⟨q,o,i⟩:=s
        exact .some ⟨HN g0 hj.1 hs.1 λx hx=>⟨by have:=(hs.2.a x hx).q; exact⟨by omega,by omega⟩,(hs.2.a x hx).of,(hs.2.a x hx).off,(hs.2.a x hx).len⟩,U4 (by decide) hj.2 (λh=>absurd rfl h) hs.2⟩
open Go.Vm
def N1 (l:List aB) (d:bO):List aB:=l.filter λx=>decide (ky x.Id < ky d)
def HP (l:List aB) (d:bO):List aB:=l.filter λx=>decide (ky d < ky x.Id)
def rR (l:List aB) (n:aB):List aB:=N1 l n.Id++ { (match l.find? λx=>decide (x.Id=n.Id) with | some x=>x | none=> { Id:=n.Id,Staged:=false,Data:= [],Locs:= []}) with Staged:=true,Data:=n.Data}::HP l n.Id
theorem DS {l:List aB} {d:bO} {p:Nat} (ha:At l d p):l.take p=N1 l d:=by
 unfold N1
 have e:l.filter (λx=>decide (ky x.Id < ky d))=(l.take p++l.drop p).filter λx=>decide (ky x.Id < ky d):=by rw[List.take_append_drop]
 rw[e,List.filter_append,List.filter_eq_self.2 λy hy=>decide_eq_true (ha.lo y hy),List.filter_eq_nil_iff.2 λy hy=>by
  have:=ha.hi y hy
  simp; omega]
 simp
theorem N2 {l:List aB} {d:bO} {p:Nat} (ha:At l d p) (hr:uG l) (hd:mP d) (hn:kJ l d=false):l.drop p=HP l d:=by
 unfold HP
 have e:l.filter (λx=>decide (ky d < ky x.Id))=(l.take p++l.drop p).filter λx=>decide (ky d < ky x.Id):=by rw[List.take_append_drop]
 rw[e,List.filter_append,List.filter_eq_nil_iff.2 λy hy=>by
  have:=ha.lo y hy
  simp; omega,List.filter_eq_self.2 λy hy=>by
   have hm:=List.mem_of_mem_drop hy
   have h1:=ha.hi y hy
   have h2:ky d≠ky y.Id:=λe=>by
    have:=List.any_eq_false.1 hn y hm
    simp[MN hd (hr.1 y hm) e] at this
   exact decide_eq_true (by omega)]
 simp
theorem IY {l:List aB} {d:bO} {p:Nat} {x:aB} (ha:At l d p) (hr:uG l) (hx:l[p]? =some x) (hd:x.Id=d):l.drop (p+1)=HP l d:=by
 obtain⟨hp,e0⟩:=List.getElem?_eq_some_iff.1 hx
 unfold HP
 have e:l.filter (λx=>decide (ky d < ky x.Id))=(l.take p++l[p]::l.drop (p+1)).filter λx=>decide (ky d < ky x.Id):=by
  rw[← List.drop_eq_getElem_cons hp,List.take_append_drop]
 rw[e,List.filter_append,List.filter_eq_nil_iff.2 λy hy=>by
  have:=ha.lo y hy
  simp; omega,List.filter_cons_of_neg (by rw[e0,hd]; simp),List.filter_eq_self.2 λy hy=>by
   obtain⟨j,hj,rfl⟩:=List.getElem_of_mem hy
   simp only[List.length_drop] at hj
   rw[List.getElem_drop]
   have:=hr.2 p (p+1+j) _ _ hx (List.getElem?_eq_getElem (by omega)) (by omega)
   rw[hd] at this
   exact decide_eq_true this]
 simp
theorem IZ {l:List aB} {p:Nat} {x:aB} (hr:uG l) (hx:l[p]? =some x):(l.find? λy=>decide (y.Id=x.Id))=some x:=by
 cases e:l.find? λy=>decide (y.Id=x.Id) with
 | none=>
  have:=List.find?_eq_none.1 e x (List.mem_of_getElem? hx)
  simp at this
 | some y=>
  have h1:=List.find?_some e
  have h1:y.Id=x.Id:=by simpa using h1
  obtain⟨j,hj,rfl⟩:=List.getElem_of_mem (List.mem_of_find?_eq_some e)
  rcases Nat.lt_trichotomy j p with h | h | h
  ·have:=hr.2 j p _ _ (List.getElem?_eq_getElem hj) hx h
   rw[h1] at this; omega
  ·subst h
   rw[List.getElem?_eq_getElem hj] at hx
   exact hx
  ·have:=hr.2 p j _ _ hx (List.getElem?_eq_getElem hj) h
   rw[h1] at this; omega
theorem N3 {l:List aB} {n:aB}:(rR l n).length≤l.length+1:=by
 have:∀m:List aB,(m.filter λx=>decide (ky x.Id < ky n.Id)).length+(m.filter λx=>decide (ky n.Id < ky x.Id)).length≤m.length:=by
  intro m
  induction m with
  | nil=>simp
  | cons a m ih=>
   by_cases h1:ky a.Id < ky n.Id
   ·have h2:¬ky n.Id < ky a.Id:=by omega
    simp[List.filter_cons,h1,h2]; omega
   ·by_cases h2:ky n.Id < ky a.Id <;> simp[List.filter_cons,h1,h2] <;> omega
 unfold rR N1 HP
 have:=this l
 simp only[List.length_append,List.length_cons]
 omega
theorem N4 {F:Nat} {d:aR} {l:List aB} {n:aB} {i:Nat} (hF:1000≤F) (hr:uG l) (hn:mP n.Id) (hl:l.length < 900) (hi:i < d.Chunks.length) (hx:d.Chunks[i]? =some n) (hd:d.Chunks.length≤400) (hdl:n.Data.length≤1000):
    rL F d l (i:Int)=some (.go (rR l n,((i+1:Nat):Int))):=by
  obtain⟨p,ha,e⟩:=UX hF hr hn (by omega)
  have hp:=ha.le
  unfold rL R0
  rw[f9 (by omega)]
  have ea:app [] n.Data=some n.Data:=by rw[cB (by simp; omega)]; rfl
  simp only[bB,hx,Int.ofNat_lt,hi,decide_true,if_true,Option.bind_some,e,ea]
  cases hh:kJ l n.Id with
  | false=>
    have g0:(l.take p++({ Id:=n.Id,Staged:=false,Data:= [],Locs:= []}:aB)::l.drop p)[p]? =some { Id:=n.Id,Staged:=false,Data:= [],Locs:= []}:=by
      rw[List.getElem?_append_right (by simp; omega)]
      simp[Nat.min_eq_left hp]
    simp only[Bool.not_false,if_true,C8 hp (show l.length < 1000 by omega),Option.bind_some,aG,g0,Int.toNat_natCast]
    rw[List.getElem?_set_self (by simp; omega)]
    simp only[Option.bind_some,List.set_set]
    have hf:(l.find? λx=>decide (x.Id=n.Id))=none:=List.find?_eq_none.2 λx hx=>by
      have:=List.any_eq_false.1 hh x hx
      simpa using this
    unfold rR
    rw[hf,← DS ha,← N2 ha hr hn hh,List.set_append_right _ _ (by simp; omega)]
    simp[Nat.min_eq_left hp]
  | true=>
    obtain⟨x,h1,h2⟩:=C9 hr ha hn hh
    obtain⟨hpl,e0⟩:=List.getElem?_eq_some_iff.1 h1
    simp only[Bool.not_true,Bool.false_eq_true,if_false,aG,h1,Option.bind_some,Int.toNat_natCast]
    rw[List.getElem?_set_self hpl]
    simp only[Option.bind_some,List.set_set]
    have hf:=IZ hr h1
    rw[h2] at hf
    unfold rR
    rw[hf,← DS ha,← IY ha hr h1 h2]
    simp only
    rw[List.set_eq_take_append_cons_drop,if_pos hpl]
open Go.Vm
def KL (l:List aB) (d:bO):aB:=match l.find? λx=>decide (x.Id=d) with | some x=>x | none=> { Id:=d,Staged:=false,Data:= [],Locs:= []}
theorem Q4 (l:List aB) (d:bO):(KL l d).Id=d:=by
 unfold KL
 cases e:l.find? λx=>decide (x.Id=d) with
 | none=>rfl
 | some x=>simpa using List.find?_some e
theorem I0 (l:List aB) (n:aB):rR l n=N1 l n.Id++ { KL l n.Id with Staged:=true,Data:=n.Data}::HP l n.Id:=rfl
theorem N5 {l:List aB} {n:aB} (hr:uG l) (hn:mP n.Id):uG (rR l n):=by
 rw[rN] at*
 obtain⟨h1,h2⟩:=hr
 rw[I0]
 have hid:({ KL l n.Id with Staged:=true,Data:=n.Data}:aB).Id=n.Id:=Q4 l n.Id
 generalize ({ KL l n.Id with Staged:=true,Data:=n.Data}:aB)=z at hid
 refine⟨λy hy=> ?_,List.pairwise_append.2 ⟨h2.sublist List.filter_sublist,List.pairwise_cons.2 ⟨λy hy=> ?_,h2.sublist List.filter_sublist⟩,λa ha b hb=> ?_⟩⟩
 ·rcases List.mem_append.1 hy with h | h
  ·exact h1 y (List.mem_filter.1 h).1
  ·rcases List.mem_cons.1 h with rfl | h
   ·rw[hid]; exact hn
   ·exact h1 y (List.mem_filter.1 h).1
 ·rw[hid]
  exact of_decide_eq_true (List.mem_filter.1 hy).2
 ·have ha':=of_decide_eq_true (List.mem_filter.1 ha).2
  rcases List.mem_cons.1 hb with rfl | hb
  ·rw[hid]; exact ha'
  ·have:=of_decide_eq_true (List.mem_filter.1 hb).2
   omega
def l8 (l ns:List aB):List aB:=ns.foldl rR l
theorem rS:∀ {ns l:List aB},uG l→(∀n∈ns,mP n.Id)→uG (l8 l ns)
 | [],_,h,_=>h
 | n::ns,_,h,hn=>rS (ns:=ns) (N5 h (hn n List.mem_cons_self)) λm hm=>hn m (List.mem_cons_of_mem _ hm)
theorem o1:∀ {ns l:List aB},(l8 l ns).length≤l.length+ns.length
 | [],_=>by simp[l8]
 | n::ns,l=>by
  have h1:=o1 (ns:=ns) (l:=rR l n)
  have h2:=N3 (l:=l) (n:=n)
  have:l8 l (n::ns)=l8 (rR l n) ns:=rfl
  rw[this,List.length_cons]
  omega
def kC (l:List aB):Bool:= !l.any λx=> !x.Staged || decide (0 < (x.Locs.length:Int))
theorem aGR {F:Nat} {l:List aB} (hF:1000≤F) (hl:l.length≤400):KF F l=some (kC l):=by
 unfold KF NL kC
 rw[m98 (f:=λx0=>NK F x0) (λx=> !x.Staged || decide (0 < (x.Locs.length:Int))) (by omega) (by omega) (λx _=>by
  unfold NK
  cases x.Staged <;> rfl)]
 simp only[Option.bind_some]
 cases ha:l.any (λx=> !x.Staged || decide (0 < (x.Locs.length:Int))) with
 | false=>rw[gP ha]; rfl
 | true=>
  obtain⟨i,x,h1, -⟩:=gH ha
  rw[h1]
  simp
def ad (c:aA) (d:aR):aA:= { c with Seq:=c.Seq+1,Snaps:=c.Snaps++ [{ Seq:=d.Snap.Seq,Man:=d.Snap.Man,Locs:= []}],Chunks:=l8 c.Chunks d.Chunks}
theorem n72 {F:Nat} {c:aA} {d:aR} (hF:1000≤F) (h:Sm c) (hg:Gd c) (hd:F1 d):
    V0 F c d=some (if d.Snap.Seq=c.Seq∧kC d.Chunks=true then (if c.Snaps.any (λs=>s.Man.Name.toList==d.Snap.Man.Name.toList) then (9,c.Seq,c.Snaps,c.Chunks) else (0,(ad c d).Seq,(ad c d).Snaps,(ad c d).Chunks)) else (1,c.Seq,c.Snaps,c.Chunks)):=by
  have hsn:=h.sn
  have hcn:=hg.cn
  have hdn:=hd.cn
  have hq:=hg.q
  unfold gN at hq
  simp only[Bool.and_eq_true,decide_eq_true_eq] at hq
  have hr:uG c.Chunks:=rN.2 ⟨λx hx=>(h.g.2.2.1 x hx).1,hg.co⟩
  unfold V0
  rw[hd.locs,aGR hF (by omega)]
  by_cases e1:d.Snap.Seq=c.Seq
  · rw[if_neg (by simp[e1])]
    simp only[List.length_nil,show decide ((0:Int) < ((0:Nat):Int))=false from rfl,Bool.false_eq_true,if_false,Option.bind_some,aG]
    cases e2:kC d.Chunks with
    | false=>simp[e1]
    | true=>
      simp only[Bool.not_true,Bool.false_eq_true,if_false,e1,and_self,if_true]
      rw[m47 hF (by show c.Snaps.length < 1000; omega)]
      simp only[Option.bind_some]
      cases ha:c.Snaps.any (λs=>s.Man.Name.toList==d.Snap.Man.Name.toList) with
      | true=>
        obtain⟨i,x,h1, -⟩:=gH ha
        rw[h1]
        simp
      | false=>
        rw[gP ha]
        simp only[show decide ((0:Int)≤ -1)=false from rfl,Bool.false_eq_true,if_false]
        rw[BJ hF hd.man.2.1 (λp hp=>(hd.man.2.2.1 p hp).2)]
        simp only[Option.bind_some]
        rw[cB (by simp; omega)]
        simp only[Option.bind_some]
        have:=jX (body:=λs:List aB×Int=>rL F d s.1 s.2) (s0:=(c.Chunks,(0:Int))) (n:=d.Chunks.length) (F:=F) (λi:Nat=>(l8 c.Chunks (d.Chunks.take i),(i:Int))) (by omega) rfl (λi hi=>by
          have hx:d.Chunks[i]? =some d.Chunks[i]:=List.getElem?_eq_getElem hi
          have hm:=List.getElem_mem hi
          have ht:d.Chunks.take (i+1)=d.Chunks.take i++ [d.Chunks[i]]:=List.take_succ_eq_append_getElem hi
          have hR:=rS (ns:=d.Chunks.take i) hr λn hn=>(hd.ch n (List.mem_of_mem_take hn)).1
          have hL:=o1 (ns:=d.Chunks.take i) (l:=c.Chunks)
          rw[List.length_take] at hL
          rw[ht]
          generalize d.Chunks[i]=n at hx hm
          rw[N4 hF hR (hd.ch n hm).1 (by omega) hi hx (by omega) (by have:=(hd.ch n hm).2.1; omega)]
          unfold l8
          rw[List.foldl_append]
          rfl) (by unfold rL; simp)
        rw[this]
        simp only[aG,List.take_length,wr (n:=c.Seq+1) (by omega) (by omega)]
        rw[show (ad c d).Snaps=c.Snaps++ [{ Seq:=d.Snap.Seq,Man:=d.Snap.Man,Locs:= []}] from rfl,e1]
        rfl
  · rw[if_pos (by simpa using e1)]
    simp[aG,e1]
open Go.Vm
theorem o3 {P:aB→Prop}:∀ {ns l:List aB},(∀x∈l,P x)→(∀n∈ns,P { Id:=n.Id,Staged:=true,Data:=n.Data,Locs:= []})→(∀x,P x→∀n∈ns,P { x with Staged:=true,Data:=n.Data})→∀y∈l8 l ns,P y
  | [],_,h,_,_=>h
  | n :: ns, l, h, hn, hs => o3 (ns := ns) (l := rR l n) (fun y hy => by
      rw[I0,List.mem_append,List.mem_cons] at hy
      rcases hy with h1 | h1 | h1
      · exact h y (List.mem_filter.1 h1).1
      · rw[h1]
        unfold KL
        cases e:l.find? λx=>decide (x.Id=n.Id) with
        | none=>exact hn n List.mem_cons_self
        | some x=>exact hs x (h x (List.mem_of_find?_eq_some e)) n List.mem_cons_self
      · exact h y (List.mem_filter.1 h1).1) (λm hm=>hn m (List.mem_cons_of_mem _ hm)) λx hx m hm=>hs x hx m (List.mem_cons_of_mem _ hm)
theorem N6 {c:aA} {d:aR} (h:Sm c) (hg:Gd c) (hd:F1 d):Sm (ad c d):=by
 have hq:=hg.q
 have hsn:=hg.sn
 have hcn:=hg.cn
 have hdn:=hd.cn
 unfold gN at hq
 simp only[Bool.and_eq_true,decide_eq_true_eq] at hq
 obtain⟨m1,m2,m3,m4⟩:=hd.man
 have L:=o1 (ns:=d.Chunks) (l:=c.Chunks)
 refine⟨⟨⟨by show _≤c.Seq+1; omega,by show c.Seq+1 < _; omega⟩, ?_, ?_,h.g.2.2.2.1,h.g.2.2.2.2⟩, ?_, ?_,h.ex,h.vo, ?_, ?_,h.el, ?_⟩
 ·intro s hs
  rcases List.mem_append.1 hs with h1 | h1
  ·exact h.g.2.1 s h1
  ·obtain rfl:=List.mem_singleton.1 h1
   exact⟨hd.seq,m4,λx hx=>by cases hx⟩
 ·exact o3 (P:=II) h.g.2.2.1 (λn hn=>⟨(hd.ch n hn).1,trivial,(hd.ch n hn).2.2.1,λx hx=>by cases hx⟩) λx hx n hn=>⟨hx.1,trivial,(hd.ch n hn).2.2.1,hx.2.2.2⟩
 ·show (c.Snaps++_).length≤12
  simp; omega
 ·show (l8 c.Chunks d.Chunks).length≤400
  omega
 ·intro s hs
  rcases List.mem_append.1 hs with h1 | h1
  ·exact h.sl s h1
  ·obtain rfl:=List.mem_singleton.1 h1
   simp
 ·exact o3 (P:=λx=>x.Locs.length≤300∧x.Data.length≤300) h.cl (λn hn=>⟨by simp,(hd.ch n hn).2.1⟩) λx hx n hn=>⟨hx.1,(hd.ch n hn).2.1⟩
 ·intro s hs
  rcases List.mem_append.1 hs with h1 | h1
  ·exact h.man s h1
  ·obtain rfl:=List.mem_singleton.1 h1
   exact⟨m1,m2,m3⟩
theorem tY (c:aA) (y:aB):(KG c y).Locs=y.Locs∧(KG c y).Id=y.Id∧((KG c y).Data=y.Data∨(KG c y).Data= []):=by
 unfold KG
 split
 ·exact⟨rfl,rfl,.inl rfl⟩
 ·exact⟨rfl,rfl,.inr rfl⟩
theorem I1 {c:aA} (h:Sm c):Sm { c with Chunks:=KH c}:=by
 obtain⟨g0,g1,g2,g3,g4⟩:=h.g
 refine { h with g:=⟨g0,g1, ?_,g3,g4⟩,ch:= ?_,cl:= ?_}
 ·intro y hy
  obtain⟨x,hx,rfl⟩:=List.mem_map.1 hy
  obtain⟨e1,e2,e3⟩:=tY c x
  have:=g2 x (List.mem_filter.1 hx).1
  refine⟨by rw[e2]; exact this.1,trivial, ?_,by rw[e1]; exact this.2.2.2⟩
  rcases e3 with e | e <;> rw[e]
  ·exact this.2.2.1
  ·intro z hz; cases hz
 ·show (List.map _ _).length≤400
  rw[List.length_map]
  exact Nat.le_trans (List.length_filter_le _ _) h.ch
 ·intro y hy
  obtain⟨x,hx,rfl⟩:=List.mem_map.1 hy
  obtain⟨e1,e2,e3⟩:=tY c x
  have:=h.cl x (List.mem_filter.1 hx).1
  refine⟨by rw[e1]; exact this.1, ?_⟩
  rcases e3 with e | e <;> rw[e]
  ·exact this.2
  ·simp
theorem DT {c:aA} {n:Int} (h:Sm c):Sm (wX c n):=I1 (p7 h _)
theorem N7 {F:Nat} {c:aA} {d:aR} (hF:1000≤F) (h:Sm c) (hg:Gd c) (hd:F1 d) (hk:d.Kind=1):
    C7 F c d=some (if d.Snap.Seq=c.Seq∧kC d.Chunks=true then (if c.Snaps.any (λs=>s.Man.Name.toList==d.Snap.Man.Name.toList) then (bU,9) else if iB (ad c d) then (ad c d,0) else (bU,1)) else (bU,1)):=by
  have hk2:kB.find? (λe=>e.1==d.Kind)=some (d.Kind,72):=by rw[hk]; rfl
  have go:∀(e:aA) (n:Int),gW F 72 c d=some (e,n)→(n=0→Sm e)→_:=λe n=>n29 (n:=n) hF h (jV.2 hg) hk2
  have e0:gW F 72 c d=(V0 F c d).bind λo=>some ({ c with Seq:=o.2.1,Snaps:=o.2.2.1,Chunks:=o.2.2.2},o.1):=by
    unfold gW
    rw[if_pos rfl]
  rw[n72 hF h hg hd] at e0
  by_cases e1:d.Snap.Seq=c.Seq∧kC d.Chunks=true
  · rw[if_pos e1] at e0 ⊢
    cases ha:c.Snaps.any (λs=>s.Man.Name.toList==d.Snap.Man.Name.toList) with
    | true=>
      rw[ha,if_pos rfl] at e0
      rw[go _ _ e0 nofun]
      rfl
    | false=>
      rw[ha,if_neg (by decide)] at e0
      rw[go (ad c d) 0 e0 λ_=>N6 h hg hd]
      rfl
  · rw[if_neg e1] at e0 ⊢
    rw[go _ _ e0 nofun]
    rfl
theorem I2 {F:Nat} {c:aA} {d:aR} (hF:1000≤F) (h:Sm c) (hg:Gd c) (hk:d.Kind=2):
    C7 F c d=some (if c.Snaps.any (λs=>s.Seq==d.Seq) then (if iB (wX c d.Seq) then (wX c d.Seq,0) else (bU,1)) else (bU,8)):=by
  have hk2:kB.find? (λe=>e.1==d.Kind)=some (d.Kind,73):=by rw[hk]; rfl
  have go:∀(e:aA) (n:Int),gW F 73 c d=some (e,n)→(n=0→Sm e)→_:=λe n=>n29 (n:=n) hF h (jV.2 hg) hk2
  have e0:gW F 73 c d=(VX F c d).bind λo=>some ({ c with Snaps:=o.2.1,Chunks:=o.2.2},o.1):=by
    unfold gW
    rw[if_neg (by decide),if_pos rfl]
  rw[n73 hF h hg] at e0
  cases ha:c.Snaps.any (λs=>s.Seq==d.Seq) with
  | true=>
    rw[ha,if_pos rfl] at e0
    rw[go (wX c d.Seq) 0 e0 λ_=>DT h]
    rfl
  | false=>
    rw[ha,if_neg (by decide)] at e0
    rw[go _ _ e0 nofun]
    rfl
open Go.Vm
theorem aGS {F:Nat} {l:List aH} {f:aH→Option Bool} (q:aH→Bool) (hF:1000≤F) (hl:l.length≤400) (hf:∀x∈l,f x=some (q x)):FF F l f=some (l.filter λx=> !q x):=by
 have h119:vW F l f=some (n3 l q):=by
  unfold vW
  refine iC q (by omega) (λi x hx hm hi=> ?_) (by unfold nA; simp)
  unfold nA
  rw[f9 (by omega)]
  simp only[bB,hx,hf x hm,Option.bind_some,Int.ofNat_lt,hi,decide_true,if_true]
  split <;> rfl
 unfold FF
 rw[h119]
 simp only[Option.bind_some]
 cases ha:l.any q with
 | false=>
  rw[gP ha]
  simp only[beq_self_eq_true,if_true]
  rw[List.filter_eq_self.2 λx hx=>by simpa using List.any_eq_false.1 ha x hx]
 | true=>
  obtain⟨i,x,h1,h2,h3,h4⟩:=gH ha
  rw[h1]
  have hn:((i:Int)== -1)=false:=by simp
  have hil:=(List.getElem?_eq_some_iff.1 h2).1
  rw[hn,f9 (by omega)]
  simp only[Bool.false_eq_true,if_false]
  obtain⟨cur,w,e1,e2,e3,e4⟩:=tA (l:=l) (q:=q) (F:=F) (body:=λs=>n7 F f s.1 s.2.1 s.2.2) (by omega) h2 h3 h4 (λcur w r x hc hw hr hx hm=>by
   unfold n7
   simp only
   rw[f9 (i:=r) (by omega),f9 (i:=w) (by omega)]
   have hcw:cur[w]? =some cur[w]:=List.getElem?_eq_getElem (by omega)
   simp only[bB,hx,hf x hm,Option.bind_some,hc,Int.ofNat_lt,hr,decide_true,if_true,hcw,Int.toNat_natCast]
   cases q x <;> rfl) (λcur w hc=>by unfold n7; simp[hc])
  rw[e1]
  simp only[aG]
  have g1:(decide ((0:Int)≤(w:Int)) && decide ((w:Int) < (cur.length:Int)))=true:=by simp; omega
  have g2:(decide ((0:Int)≤(w:Int)) && decide ((w:Int)≤(cur.length:Int)))=true:=by simp; omega
  simp only[grd,g1,g2,if_true,Int.toNat_natCast,e4]
open Go.Vm
def kQ (l:List bG) (x:bG):List bG:=(l.reverse.dropWhile λy=>kA y x).reverse++x::(l.reverse.takeWhile λy=>kA y x).reverse
theorem I3 {l:List bG} {x:bG} {p:Nat} (h:Pt l x p):l.take p++x::l.drop p=kQ l x:=by
 have e:l.reverse=(l.drop p).reverse++(l.take p).reverse:=by rw[← List.reverse_append,List.take_append_drop]
 have h1:∀y∈(l.drop p).reverse,kA y x=true:=λy hy=>h.hi y (List.mem_reverse.1 hy)
 have h2:((l.take p).reverse.takeWhile λy=>kA y x)= []∧((l.take p).reverse.dropWhile λy=>kA y x)=(l.take p).reverse:=by
  cases p with
  | zero=>simp
  | succ q=>
   have hl:=h.le
   have hq:l[q]? =some l[q]:=List.getElem?_eq_getElem (by omega)
   have:=h.lo l[q] (by omega) (by simp[hq])
   rw[List.take_succ_eq_append_getElem (by omega),List.reverse_append,List.reverse_singleton,List.singleton_append]
   simp[this]
 unfold kQ
 rw[e,List.takeWhile_append_of_pos h1,List.dropWhile_append_of_pos h1,h2.1,h2.2]
 simp
theorem I4 {F:Nat} {l:List bG} {x:bG} (hF:1000≤F) (hl:l.length≤400):vX F l x=some (kQ l x):=by
 obtain⟨p,hp,e⟩:=aAR hF hl (x:=x)
 rw[e,I3 hp]
theorem I5 (l:List bG) (x:bG):∃a b,l=a++b∧kQ l x=a++x::b:=by
 refine⟨_,_, ?_,rfl⟩
 rw[← List.reverse_append,List.takeWhile_append_dropWhile,List.reverse_reverse]
theorem zM {l:List bG} {x y:bG}:y∈kQ l x↔y∈l∨y=x:=by
 obtain⟨a,b,e,e2⟩:=I5 l x
 rw[e2,e]
 simp only[List.mem_append,List.mem_cons]
 constructor
 ·rintro(h | h | h)
  ·exact .inl (.inl h)
  ·exact .inr h
  ·exact .inl (.inr h)
 ·rintro((h | h) | h)
  ·exact .inl h
  ·exact .inr (.inr h)
  ·exact .inr (.inl h)
theorem zO {l:List bG} {x:bG}:(kQ l x).length=l.length+1:=by
 obtain⟨a,b,e,e2⟩:=I5 l x
 rw[e2,e]
 simp; omega
open Go.Vm
theorem FL {α:Type} {R:α→α→Prop} {l:List α} (h:l.Pairwise R) {i j:Nat} {x y:α} (hx:l[i]? =some x) (hy:l[j]? =some y) (hij:i < j):R x y:=by
 obtain⟨h1,rfl⟩:=List.getElem?_eq_some_iff.1 hx
 obtain⟨h2,rfl⟩:=List.getElem?_eq_some_iff.1 hy
 exact List.pairwise_iff_getElem.1 h i j h1 h2 hij
theorem qK {α:Type} {l:List α} {k:Nat} {x:α} (q:α→Prop) [DecidablePred q] (f:α→α) (hx:l[k]? =some x) (hq:q x) (h1:∀y∈l.take k,¬q y) (h2:∀y∈l.drop (k+1),¬q y):l.set k (f x)=l.map λy=>if q y then f y else y:=by
 obtain⟨hk,rfl⟩:=List.getElem?_eq_some_iff.1 hx
 rw[List.set_eq_take_append_cons_drop,if_pos hk]
 have e:(l.map λy=>if q y then f y else y)=(l.take k++l[k]::l.drop (k+1)).map λy=>if q y then f y else y:=by
  rw[← List.drop_eq_getElem_cons hk,List.take_append_drop]
 have m:∀m:List α,(∀y∈m,¬q y)→(m.map λy=>if q y then f y else y)=m:=λm hm=>by
  conv=>rhs; rw[← List.map_id m]
  exact List.map_congr_left λy hy=>by rw[if_neg (hm y hy)]; rfl
 rw[e,List.map_append,List.map_cons,if_pos hq,m _ h1,m _ h2]
theorem kR {α:Type} {l:List α} {f:α→α} (h:∀y∈l,f y=y):l.map f=l:=by
 conv=>rhs; rw[← List.map_id l]
 exact List.map_congr_left λy hy=>h y hy
structure AtE (l:List aQ) (q:Int) (p:Nat):Prop where
 le:p≤l.length
 lo:∀x∈l.take p,x.Seq < q
 hi:∀x∈l.drop p,q≤x.Seq
def Q5 (l:List aQ) (q:Int):Bool:=l.any λx=>x.Seq==q
theorem U5 {F:Nat} {l:List aQ} {q:Int} (hr:l.Pairwise λy x=>y.Seq < x.Seq) (hq:0≤q∧q≤1073741824) (hs:∀x∈l,0≤x.Seq∧x.Seq≤1073741824) (hl:l.length < 1000):∀(G lo hi:Nat),lo≤hi→hi≤l.length→hi - lo < G→
    (∀j x,l[j]? =some x→j < lo→x.Seq < q)→(∀j x,l[j]? =some x→hi≤j→q≤x.Seq)→
    ∃p:Nat,p≤l.length∧aT (λs=>tE F l q (λx0 x1=>C6 F x0 x1) s.1 s.2) G ((lo:Int),(hi:Int))=some (.brk ((p:Int),(p:Int)))∧
      (∀j x,l[j]? =some x→j < p→x.Seq < q)∧(∀j x,l[j]? =some x→p≤j→q≤x.Seq)
  | 0,_,_,_,_,h,_,_=>by omega
  | G+1,lo,hi,h1,h2,h3,h4,h5=>by
    unfold aT tE
    by_cases hlt:lo < hi
    · have hm:(lo+hi) / 2 < l.length:=by omega
      have hx:l[(lo+hi) / 2]? =some l[(lo+hi) / 2]:=List.getElem?_eq_getElem hm
      generalize l[(lo+hi) / 2]=x at hx
      have gx:=hs x (List.mem_of_getElem? hx)
      have e:C6 F x q=some (x.Seq - q):=by unfold C6; rw[wr (by omega) (by omega)]
      simp only[Int.ofNat_lt,hlt,decide_true,if_true,YJ (show lo+hi < 1000000000 by omega),bB,hx,Option.bind_some,e]
      by_cases hk:x.Seq < q
      · simp only[show x.Seq - q < 0 by omega,decide_true,if_true,aG]
        rw[f9 (by omega)]
        exact U5 hr hq hs hl G ((lo+hi) / 2+1) hi (by omega) h2 (by omega) (λj y hy hj=>by
          rcases Nat.lt_or_ge j ((lo+hi) / 2) with w | w
          · exact Int.lt_trans (FL hr hy hx w) hk
          · obtain rfl:j=(lo+hi) / 2:=by omega
            rw[hx] at hy; cases hy; exact hk) h5
      · simp only[show ¬x.Seq - q < 0 by omega,decide_false,Bool.false_eq_true,if_false,aG]
        exact U5 hr hq hs hl G lo ((lo+hi) / 2) (by omega) (by omega) (by omega) h4 (λj y hy hj=>by
          rcases Nat.lt_or_ge ((lo+hi) / 2) j with w | w
          · have:=FL hr hx hy w; omega
          · obtain rfl:j=(lo+hi) / 2:=by omega
            rw[hx] at hy; cases hy; omega)
    · obtain rfl:lo=hi:=by omega
      refine⟨lo,h2, ?_,h4,h5⟩
      simp
theorem aGT {F:Nat} {l:List aQ} {q:Int} (hF:1000≤F) (hr:l.Pairwise λy x=>y.Seq < x.Seq) (hq:0≤q∧q≤1073741824) (hs:∀x∈l,0≤x.Seq∧x.Seq≤1073741824) (hl:l.length < 1000):
    ∃p:Nat,AtE l q p∧M9 F l q (λx0 x1=>C6 F x0 x1)=some ((p:Int),Q5 l q):=by
  obtain⟨p,hp,e,h1,h2⟩:=U5 (F:=F) hr hq hs hl F 0 l.length (by omega) (Nat.le_refl _) (by omega) (λj x _ hj=>by omega) (λj x hx hj=>by have:=(List.getElem?_eq_some_iff.1 hx).1; omega)
  refine⟨p,⟨hp,λx hx=> ?_,λx hx=> ?_⟩, ?_⟩
  · obtain⟨i,hi,rfl⟩:=List.getElem_of_mem hx
    simp only[List.length_take] at hi
    rw[List.getElem_take]
    exact h1 i _ (List.getElem?_eq_getElem (by omega)) (by omega)
  · obtain⟨i,hi,rfl⟩:=List.getElem_of_mem hx
    simp only[List.length_drop] at hi
    rw[List.getElem_drop]
    exact h2 (p+i) _ (List.getElem?_eq_getElem (by omega)) (by omega)
  · unfold M9
    rw[show ((0:Int),(l.length:Int))=(((0:Nat):Int),(l.length:Int)) from rfl,e]
    simp only[aG]
    by_cases hlt:p < l.length
    · have hx:l[p]? =some l[p]:=List.getElem?_eq_getElem hlt
      have hmem:=List.getElem_mem hlt
      generalize l[p]=x at hx hmem
      have gx:=hs x hmem
      have hge:=h2 p x hx (Nat.le_refl _)
      have e:C6 F x q=some (x.Seq - q):=by unfold C6; rw[wr (by omega) (by omega)]
      simp only[Int.ofNat_lt,hlt,decide_true,if_true,bB,hx,Option.bind_some,e,aG]
      congr 2
      rw[Bool.eq_iff_iff]
      unfold Q5
      simp only[beq_iff_eq,List.any_eq_true]
      constructor
      · intro h; exact⟨x,hmem,by omega⟩
      · rintro⟨y,hy,e⟩
        obtain⟨j,hj,rfl⟩:=List.getElem_of_mem hy
        have hj':l[j]? =some l[j]:=List.getElem?_eq_getElem hj
        rcases Nat.lt_trichotomy j p with w | w | w
        · have:=h1 j _ hj' w; omega
        · subst w; rw[hj'] at hx; cases hx; omega
        · have:=FL hr hx hj' w; omega
    · simp only[show ¬((p:Int) < (l.length:Int)) by omega,decide_false,Bool.false_eq_true,if_false,aG]
      congr 2
      symm
      unfold Q5
      rw[List.any_eq_false]
      intro x hx
      obtain⟨j,hj,rfl⟩:=List.getElem_of_mem hx
      have:=h1 j _ (List.getElem?_eq_getElem hj) (by omega)
      simp; omega
structure It (i:aU):Prop where
 id:mP i.Id
 q0:0≤i.Seq∧i.Seq≤1073741824
 k:1≤i.Kind∧i.Kind≤3
 of:gI i.Of
 off:gI i.Off
 len:gI i.Len
def rU (i:aU) (a:bG) (y:aB):aB:=if i.Kind=1∧y.Id=i.Id then { y with Locs:=kQ y.Locs a} else y
def D3 (i:aU) (a:bG) (s:aH):aH:=if i.Kind=2∧s.Seq=i.Seq then { s with Locs:=kQ s.Locs a} else s
def zQ (l:List aQ) (i:aU):aQ:=match l.find? λx=>decide (x.Seq=i.Seq) with | some x=>x | none=> { Seq:=i.Seq,Of:=i.Of,Locs:= []}
def pG (l:List aQ) (i:aU) (a:bG):List aQ:=(l.filter λx=>decide (x.Seq < i.Seq))++ { zQ l i with Locs:=kQ (zQ l i).Locs a}::l.filter λx=>decide (i.Seq < x.Seq)
def w9 (c:aA) (i:aU) (a:bG):aA:= { c with
 Seq:=if i.Kind=3 then max c.Seq (i.Seq+1) else c.Seq
 Snaps:=c.Snaps.map (D3 i a)
 Chunks:=c.Chunks.map (rU i a)
 Exps:=if i.Kind=3 then pG c.Exps i a else c.Exps}
def kD (c:aA) (i:aU):Bool:=if i.Kind=1 then kJ c.Chunks i.Id else if i.Kind=2 then c.Snaps.any (λs=>s.Seq==i.Seq) else true
structure Wm (n:Nat) (c:aA):Prop where
 g:BG c
 r:uG c.Chunks
 cn:c.Chunks.length≤400
 cl:∀x∈c.Chunks,x.Locs.length≤n∧x.Data.length≤300
 so:c.Snaps.Pairwise λy x=>y.Seq < x.Seq
 sn:c.Snaps.length≤12
 sl:∀x∈c.Snaps,x.Locs.length≤n
 man:∀s∈c.Snaps,s.Man.Name.size≤100∧s.Man.Parts.length≤10∧∀p∈s.Man.Parts,p.Path.size≤100∧p.Ids.length≤40
 eo:c.Exps.Pairwise λy x=>y.Seq < x.Seq
 en:c.Exps.length≤n
 el:∀x∈c.Exps,x.Locs.length≤n
 eq:∀x∈c.Exps,0≤x.Seq∧x.Seq≤1073741824∧x.Seq < c.Seq
 q:0≤c.Seq∧c.Seq≤1073741826
 vo:c.Vols.length≤20
theorem Wm.sm {n:Nat} {c:aA} (h:Wm n c) (hn:n≤300):Sm c:=
 ⟨h.g,h.sn,h.cn,Nat.le_trans h.en hn,h.vo,λs hs=>Nat.le_trans (h.sl s hs) hn,λs hs=>⟨Nat.le_trans (h.cl s hs).1 hn,(h.cl s hs).2⟩,λs hs=>Nat.le_trans (h.el s hs) hn,h.man⟩
theorem aGU {F n:Nat} {c:aA} {i:aU} {a:bG} (hF:1000≤F) (h:Wm n c) (hn:n≤300) (hi:It i):
    HI F c i a=some (if kD c i then (0,(w9 c i a).Seq,(w9 c i a).Snaps,(w9 c i a).Chunks,(w9 c i a).Exps) else (8,c.Seq,c.Snaps,c.Chunks,c.Exps)):=by
  have hcn:=h.cn
  have hsn:=h.sn
  have hen:=h.en
  have hk:=hi.k
  unfold HI w9 kD
  by_cases k1:i.Kind=1
  · have e2:c.Snaps.map (D3 i a)=c.Snaps:=kR λy _=>by unfold D3; rw[if_neg (by omega)]
    obtain⟨p,ha,e⟩:=UX hF h.r hi.id (l:=c.Chunks) (by omega)
    rw[if_pos (by simp[k1]),e]
    simp only[Option.bind_some,k1,if_true,e2,show ¬((1:Int)=3) by omega,if_false]
    cases hh:kJ c.Chunks i.Id with
    | false=>simp[cO]
    | true=>
      obtain⟨x,h1,h2⟩:=C9 h.r ha hi.id hh
      have hx:=List.mem_of_getElem? h1
      simp only[Bool.not_true,Bool.false_eq_true,if_false,bB,h1,Option.bind_some,I4 hF (show x.Locs.length≤400 by have:=(h.cl x hx).1; omega),aG,Int.toNat_natCast]
      rw[qK (λy:aB=>y.Id=i.Id) (λy=> { y with Locs:=kQ y.Locs a}) h1 h2 (λy hy e=>by
        have:=ha.lo y hy
        rw[e] at this; omega) (λy hy e=>by
        obtain⟨j,hj,rfl⟩:=List.getElem_of_mem hy
        simp only[List.length_drop] at hj
        rw[List.getElem_drop] at e
        have:=h.r.2 p (p+1+j) _ _ h1 (List.getElem?_eq_getElem (by omega)) (by omega)
        rw[e,h2] at this; omega)]
      simp[rU,k1]
  · have e1:c.Chunks.map (rU i a)=c.Chunks:=kR λy _=>by unfold rU; rw[if_neg (by omega)]
    rw[if_neg (by simpa using k1)]
    by_cases k2:i.Kind=2
    · have hi2:p4 F c.Snaps (λx0=>M8 F x0 i)=some (n3 c.Snaps λs=>s.Seq==i.Seq):=by
        unfold p4
        refine iC (l:=c.Snaps) (λs:aH=>s.Seq==i.Seq) (by omega) (λi' x hx hm hi'=> ?_) (by unfold lT; simp)
        unfold lT M8
        rw[f9 (by omega)]
        simp only[bB,hx,Option.bind_some,Int.ofNat_lt,hi',decide_true,if_true]
        split <;> rfl
      rw[if_pos (by simp[k2]),hi2]
      simp only[Option.bind_some,k2,show ¬((2:Int)=1) by omega,if_true,e1,show ¬((2:Int)=3) by omega,if_false]
      cases ha:c.Snaps.any (λs=>s.Seq==i.Seq) with
      | false=>rw[gP ha]; simp[cO]
      | true=>
        obtain⟨p,x,h1,h2,h3,h4⟩:=gH ha
        have hx:=List.mem_of_getElem? h2
        rw[h1]
        simp only[show decide ((p:Int) < 0)=false from decide_eq_false (by omega),Bool.false_eq_true,if_false,bB,h2,Option.bind_some,I4 hF (show x.Locs.length≤400 by have:=h.sl x hx; omega),aG,Int.toNat_natCast,if_true]
        have h3:x.Seq=i.Seq:=by simpa using h3
        rw[qK (λy:aH=>y.Seq=i.Seq) (λy=> { y with Locs:=kQ y.Locs a}) h2 h3 (λy hy e=>by
          have:=h4 y hy
          simp[e] at this) (λy hy e=>by
          obtain⟨j,hj,rfl⟩:=List.getElem_of_mem hy
          simp only[List.length_drop] at hj
          rw[List.getElem_drop] at e
          have:=FL h.so h2 (List.getElem?_eq_getElem (show p+1+j < c.Snaps.length by omega)) (by omega)
          omega)]
        simp[D3,k2]
    · have k3:i.Kind=3:=by omega
      have e2:c.Snaps.map (D3 i a)=c.Snaps:=kR λy _=>by unfold D3; rw[if_neg (by omega)]
      obtain⟨p,ha,e⟩:=aGT hF h.eo hi.q0 (λx hx=>⟨(h.eq x hx).1,(h.eq x hx).2.1⟩) (l:=c.Exps) (by omega)
      have hp:=ha.le
      rw[if_neg (by simpa using k2),if_pos (by simp[k3]),e]
      simp only[Option.bind_some,k3,if_true,e1,e2,show ¬((3:Int)=1) by omega,show ¬((3:Int)=2) by omega,if_false]
      have hq0:=hi.q0
      have lowE:(c.Exps.filter λx=>decide (x.Seq < i.Seq))=c.Exps.take p:=by
        have e:(c.Exps.filter λx=>decide (x.Seq < i.Seq))=(c.Exps.take p++c.Exps.drop p).filter λx=>decide (x.Seq < i.Seq):=by rw[List.take_append_drop]
        rw[e,List.filter_append,List.filter_eq_self.2 λy hy=>decide_eq_true (ha.lo y hy),List.filter_eq_nil_iff.2 λy hy=>by
          have:=ha.hi y hy
          simp; omega]
        simp
      have higE:∀m,p+m≤c.Exps.length→(∀y∈(c.Exps.drop p).take m,y.Seq=i.Seq)→(∀y∈c.Exps.drop (p+m),y.Seq≠i.Seq)→(c.Exps.filter λx=>decide (i.Seq < x.Seq))=c.Exps.drop (p+m):=λm hm h5 h6=>by
        have e:(c.Exps.filter λx=>decide (i.Seq < x.Seq))=(c.Exps.take p++((c.Exps.drop p).take m++(c.Exps.drop p).drop m)).filter λx=>decide (i.Seq < x.Seq):=by rw[List.take_append_drop,List.take_append_drop]
        rw[e,List.filter_append,List.filter_append,List.filter_eq_nil_iff.2 λy hy=>by
          have:=ha.lo y hy
          simp; omega,List.filter_eq_nil_iff.2 λy hy=>by simp[h5 y hy],List.drop_drop,List.filter_eq_self.2 λy hy=>by
          have h7:=ha.hi y (by
            have:y∈(c.Exps.drop p).drop m:=by rw[List.drop_drop]; exact hy
            exact List.mem_of_mem_drop this)
          have:=h6 y hy
          exact decide_eq_true (by omega)]
        simp
      cases hh:Q5 c.Exps i.Seq with
      | false=>
        have hf:(c.Exps.find? λx=>decide (x.Seq=i.Seq))=none:=List.find?_eq_none.2 λx hx=>by
          have:=List.any_eq_false.1 hh x hx
          simpa using this
        have g0:(c.Exps.take p++({ Seq:=i.Seq,Of:=i.Of,Locs:= []}:aQ)::c.Exps.drop p)[p]? =some { Seq:=i.Seq,Of:=i.Of,Locs:= []}:=by
          rw[List.getElem?_append_right (by simp; omega)]
          simp[Nat.min_eq_left hp]
        have eh:=higE 0 hp (λy hy=>by simp at hy) (λy hy e=>by
          have:=List.any_eq_false.1 hh y (List.mem_of_mem_drop hy)
          simp[e] at this)
        simp only[Nat.add_zero] at eh
        simp only[Bool.not_false,if_true,C8 hp (show c.Exps.length < 1000 by omega),Option.bind_some,aG,bB,g0,I4 hF (show ([]:List bG).length≤400 by simp),Int.toNat_natCast,wr (n:=i.Seq+1) (by omega) (by omega)]
        unfold pG zQ
        rw[hf,lowE,eh,List.set_append_right _ _ (by simp; omega)]
        simp[Nat.min_eq_left hp]
      | true=>
        obtain⟨y,hy,ey⟩:=List.any_eq_true.1 hh
        have ey:y.Seq=i.Seq:=by simpa using ey
        have hpl:p < c.Exps.length:=by
          rcases Nat.lt_or_ge p c.Exps.length with w | w
          · exact w
          · have:y∈c.Exps.take p:=by rw[List.take_of_length_le w]; exact hy
            have:=ha.lo y this; omega
        have h1:c.Exps[p]? =some c.Exps[p]:=List.getElem?_eq_getElem hpl
        have hx:=List.getElem_mem hpl
        have h2:(c.Exps[p]).Seq=i.Seq:=by
          have hge:=ha.hi c.Exps[p] (by rw[List.drop_eq_getElem_cons hpl]; exact List.mem_cons_self)
          obtain⟨j,hj,rfl⟩:=List.getElem_of_mem hy
          rcases Nat.lt_trichotomy j p with w | w | w
          · have:=ha.lo (c.Exps[j]) (List.mem_of_getElem? (i:=j) (by rw[List.getElem?_take_of_lt w]; exact List.getElem?_eq_getElem hj)); omega
          · subst w; exact ey
          · have:=FL h.eo h1 (List.getElem?_eq_getElem hj) w; omega
        generalize c.Exps[p]=x at h1 h2 hx
        have hdr:∀z∈c.Exps.drop (p+1),x.Seq < z.Seq:=λz hz=>by
          obtain⟨j,hj,rfl⟩:=List.getElem_of_mem hz
          simp only[List.length_drop] at hj
          rw[List.getElem_drop]
          exact FL h.eo h1 (List.getElem?_eq_getElem (show p+1+j < c.Exps.length by omega)) (by omega)
        have hf:(c.Exps.find? λz=>decide (z.Seq=i.Seq))=some x:=by
          cases e:c.Exps.find? λz=>decide (z.Seq=i.Seq) with
          | none=>
            have:=List.find?_eq_none.1 e x hx
            simp[h2] at this
          | some z=>
            have h5:z.Seq=i.Seq:=by simpa using List.find?_some e
            obtain⟨j,hj,rfl⟩:=List.getElem_of_mem (List.mem_of_find?_eq_some e)
            rcases Nat.lt_trichotomy j p with w | w | w
            · have:=FL h.eo (List.getElem?_eq_getElem hj) h1 w; omega
            · subst w; rw[List.getElem?_eq_getElem hj] at h1; exact h1
            · have:=FL h.eo h1 (List.getElem?_eq_getElem hj) w; omega
        have eh:=higE 1 (by omega) (λz hz=>by
          rw[List.drop_eq_getElem_cons hpl,List.take_succ_cons,List.take_zero] at hz
          have:z=c.Exps[p]:=List.mem_singleton.1 hz
          rw[List.getElem?_eq_getElem hpl] at h1
          rw[this,Option.some.inj h1,h2]) (λz hz e=>by have:=hdr z hz; omega)
        have hsq:=(h.eq x hx).2.2
        simp only[Bool.not_true,Bool.false_eq_true,if_false,aG,bB,h1,Option.bind_some,I4 hF (show x.Locs.length≤400 by have:=h.el x hx; omega),Int.toNat_natCast]
        unfold pG zQ
        rw[hf,lowE,eh,List.set_eq_take_append_cons_drop,if_pos hpl,show max c.Seq (i.Seq+1)=c.Seq by omega]
open Go.Vm
theorem zR {S ρ:Type} {body:S→Option (Lp S ρ)} {n:Nat} (emb:Nat→S) (p:Nat→Bool) (R:ρ→Prop) (hb:∀i,i < n→p i=true→body (emb i)=some (.go (emb (i+1))))
    (hb2:∀i,i < n→p i=false→∃r,R r∧body (emb i)=some (.ret r)) (he:body (emb n)=some (.brk (emb n))):∀(m k G:Nat),k+m=n→m < G→
    ((∀j,k≤j→j < n→p j=true)∧aT body G (emb k)=some (.brk (emb n)))∨((∃j,k≤j∧j < n∧p j=false)∧∃r,R r∧aT body G (emb k)=some (.ret r))
  | 0,k,G+1,h,_=>.inl ⟨λj h1 h2=>by omega,by
      obtain rfl:k=n:=by omega
      unfold aT; rw[he]⟩
  | m+1,k,G+1,h,hG=>by
    unfold aT
    cases hp:p k with
    | false=>
      obtain⟨r,h1,h2⟩:=hb2 k (by omega) hp
      exact .inr ⟨⟨k,Nat.le_refl _,by omega,hp⟩,r,h1,by rw[h2]⟩
    | true=>
      rw[hb k (by omega) hp]
      rcases zR emb p R hb hb2 he m (k+1) G (by omega) (by omega) with⟨h1,h2⟩ | ⟨⟨j,h1,h2,h3⟩,h4⟩
      · refine .inl ⟨λj h3 h4=> ?_,h2⟩
        rcases Nat.lt_or_ge k j with w | w
        · exact h1 j w h4
        · obtain rfl:j=k:=by omega
          exact hp
      · exact .inr ⟨⟨j,by omega,h2,h3⟩,h4⟩
def uH (p:Int) (i:aU) (y:aB):aB:=if p=0∧i.Kind=1∧y.Id=i.Id then { y with Staged:=false,Data:= []} else y
def vZ (p:Int) (c:aA) (i:aU) (a:bG):aA:= { w9 c i a with Chunks:=(w9 c i a).Chunks.map (uH p i)}
def qL (v f:Int) (i:aU):bG:= { Vol:=v,File:=f,Off:=i.Off,Len:=i.Len}
def zS (p v f:Int) (c:aA) (l:List aU):aA:=l.foldl (λc i=>vZ p c i (qL v f i)) c
def ws (c:aA) (v:Int) (x:aP):aA:= { c with Vols:=c.Vols.set v.toNat { x with State:=2,Files:=x.Files+1}}
def nC (l:List aU) (s:aH):Bool:=l.any λi=>i.Kind==3 && s.Seq==i.Of
def pH (c:aA) (d:aR) (x:aP):aA:=zS x.Pool d.Vol (x.Files+1) (ws c d.Vol x) d.Items
def AP (c:aA) (d:aR) (x:aP):aA:= { pH c d x with Snaps:=(pH c d x).Snaps.filter λs=> !nC d.Items s}
def tZ (c:aA) (d:aR) (x:aP):aA:=if (AP c d x).Snaps.length < (pH c d x).Snaps.length then { AP c d x with Chunks:=KH (AP c d x)} else AP c d x
theorem vQ (i:aU) (a:bG) (y:aB):(rU i a y).Id=y.Id:=by unfold rU; split <;> rfl
theorem DU (p:Int) (i:aU) (y:aB):(uH p i y).Id=y.Id:=by unfold uH; split <;> rfl
theorem uA (i:aU) (a:bG) (y:aH):(D3 i a y).Seq=y.Seq∧(D3 i a y).Man=y.Man:=by unfold D3; split <;> exact⟨rfl,rfl⟩
theorem FM (l:List aQ) (i:aU):(zQ l i).Seq=i.Seq:=by
 unfold zQ
 cases e:l.find? λx=>decide (x.Seq=i.Seq) with
 | none=>rfl
 | some x=>simpa using List.find?_some e
theorem Q6 (l:List aQ) (i:aU):zQ l i∈l∨zQ l i= { Seq:=i.Seq,Of:=i.Of,Locs:= []}:=by
 unfold zQ
 cases e:l.find? λx=>decide (x.Seq=i.Seq) with
 | none=>exact .inr rfl
 | some x=>exact .inl (List.mem_of_find?_eq_some e)
theorem zT {l:List aB} {f:aB→aB} (h:∀y,(f y).Id=y.Id) (d:bO):kJ (l.map f) d=kJ l d:=by
 unfold kJ
 rw[List.any_map]
 congr 1
 funext y
 simp[h y]
theorem N8 {p:Int} {c:aA} {i j:aU} {a:bG}:kD (vZ p c i a) j=kD c j:=by
 unfold kD
 have e1:kJ (vZ p c i a).Chunks j.Id=kJ c.Chunks j.Id:=by
  show kJ ((c.Chunks.map (rU i a)).map (uH p i)) j.Id=_
  rw[zT (DU p i),zT (vQ i a)]
 have e2:(vZ p c i a).Snaps.any (λs=>s.Seq==j.Seq)=c.Snaps.any λs=>s.Seq==j.Seq:=by
  show (c.Snaps.map (D3 i a)).any _=_
  rw[List.any_map]
  congr 1
  funext y
  simp[(uA i a y).1]
 rw[e1,e2]
theorem N9 (l:List aQ) (i:aU) (a:bG):(pG l i a).length≤l.length+1:=by
 have:∀m:List aQ,(m.filter λx=>decide (x.Seq < i.Seq)).length+(m.filter λx=>decide (i.Seq < x.Seq)).length≤m.length:=by
  intro m
  induction m with
  | nil=>simp
  | cons b m ih=>
   by_cases h1:b.Seq < i.Seq
   ·have h2:¬i.Seq < b.Seq:=by omega
    simp[List.filter_cons,h1,h2]; omega
   ·by_cases h2:i.Seq < b.Seq <;> simp[List.filter_cons,h1,h2] <;> omega
 have:=this l
 unfold pG
 simp only[List.length_append,List.length_cons]
 omega
theorem OA {P:aQ→Prop} {l:List aQ} {i:aU} {a:bG} (h:∀x∈l,P x) (h1:∀x∈l,P { x with Locs:=kQ x.Locs a}) (h2:P { Seq:=i.Seq,Of:=i.Of,Locs:=kQ [] a}):∀x∈pG l i a,P x:=by
 intro x hx
 unfold pG at hx
 rcases List.mem_append.1 hx with hx | hx
 ·exact h x (List.mem_filter.1 hx).1
 ·rcases List.mem_cons.1 hx with rfl | hx
  ·rcases Q6 l i with e | e
   ·exact h1 _ e
   ·rw[e]; exact h2
  ·exact h x (List.mem_filter.1 hx).1
theorem Q7 {l:List aQ} {i:aU} {a:bG} (h:l.Pairwise λy x=>y.Seq < x.Seq):(pG l i a).Pairwise λy x=>y.Seq < x.Seq:=by
 unfold pG
 have hs:=FM l i
 refine List.pairwise_append.2 ⟨h.sublist List.filter_sublist,List.pairwise_cons.2 ⟨λy hy=> ?_,h.sublist List.filter_sublist⟩,λy hy z hz=> ?_⟩
 ·have:=of_decide_eq_true (List.mem_filter.1 hy).2
  simp only[hs]; exact this
 ·have h1:=of_decide_eq_true (List.mem_filter.1 hy).2
  rcases List.mem_cons.1 hz with rfl | hz
  ·simp only[hs]; exact h1
  ·have:=of_decide_eq_true (List.mem_filter.1 hz).2
   omega
theorem HQ {l:List bG} {a:bG} (h:gL pV l) (ha:pV a):gL pV (kQ l a):=λx hx=>by
 rcases zM.1 hx with h1 | rfl
 ·exact h x h1
 ·exact ha
theorem xA {l:List aB} {f:aB→aB} (h:∀y,(f y).Id=y.Id) (hr:uG l):uG (l.map f):=by
 rw[rN] at*
 refine⟨λx hx=> ?_,List.pairwise_map.2 (hr.2.imp fun {a b} e=>by rw[h a,h b]; exact e)⟩
 obtain⟨y,hy,rfl⟩:=List.mem_map.1 hx
 rw[h y]; exact hr.1 y hy
theorem Wm.step {n:Nat} {c:aA} {i:aU} {a:bG} (p:Int) (h:Wm n c) (hi:It i) (ha:pV a):Wm (n+1) (vZ p c i a):=by
 obtain⟨g0,g1,g2,g3,g4⟩:=h.g
 have hq:=h.q
 have hiq:=hi.q0
 have hsq:0≤(vZ p c i a).Seq∧(vZ p c i a).Seq≤1073741826∧c.Seq≤(vZ p c i a).Seq∧(i.Kind=3→i.Seq < (vZ p c i a).Seq):=by
  show 0≤(if i.Kind=3 then max c.Seq (i.Seq+1) else c.Seq)∧(if i.Kind=3 then max c.Seq (i.Seq+1) else c.Seq)≤_∧c.Seq≤(if i.Kind=3 then max c.Seq (i.Seq+1) else c.Seq)∧(i.Kind=3→i.Seq < (if i.Kind=3 then max c.Seq (i.Seq+1) else c.Seq))
  split <;> omega
 have el:∀P:aQ→Prop,(∀x∈c.Exps,P x)→(∀x∈c.Exps,P { x with Locs:=kQ x.Locs a})→(i.Kind=3→P { Seq:=i.Seq,Of:=i.Of,Locs:=kQ [] a})→∀x∈(vZ p c i a).Exps,P x:=λP h1 h2 h3 x hx=>by
  have hx:x∈(if i.Kind=3 then pG c.Exps i a else c.Exps):=hx
  split at hx
  ·rename_i k; exact OA h1 h2 (h3 k) x hx
  ·exact h1 x hx
 have cl:∀P:aB→Prop,(∀x∈c.Chunks,∀l d s,(l=x.Locs∨l=kQ x.Locs a)→(d=x.Data∨d= [])→P { Id:=x.Id,Staged:=s,Data:=d,Locs:=l})→∀x∈(vZ p c i a).Chunks,P x:=λP h1 x hx=>by
  obtain⟨y,hy,rfl⟩:=List.mem_map.1 hx
  obtain⟨z,hz,rfl⟩:=List.mem_map.1 hy
  unfold uH rU
  split <;> split <;> first | exact h1 z hz _ _ _ (.inr rfl) (.inr rfl) | exact h1 z hz _ _ _ (.inl rfl) (.inr rfl) | exact h1 z hz _ _ _ (.inr rfl) (.inl rfl) | exact h1 z hz _ _ _ (.inl rfl) (.inl rfl)
 have sl:∀P:aH→Prop,(∀x∈c.Snaps,∀l,(l=x.Locs∨l=kQ x.Locs a)→P { x with Locs:=l})→∀x∈(vZ p c i a).Snaps,P x:=λP h1 x hx=>by
  obtain⟨z,hz,rfl⟩:=List.mem_map.1 hx
  unfold D3
  split
  ·exact h1 z hz _ (.inr rfl)
  ·exact h1 z hz _ (.inl rfl)
 have pl:∀l l':List bG,(l'=l∨l'=kQ l a)→l.length≤n→l'.length≤n+1:=λl l' e hl=>by
  rcases e with rfl | rfl
  ·omega
  ·rw[zO]; omega
 have pg:∀l l':List bG,(l'=l∨l'=kQ l a)→gL pV l→gL pV l':=λl l' e hl=>by
  rcases e with rfl | rfl
  ·exact hl
  ·exact HQ hl ha
 have p0:(kQ [] a).length≤n+1:=by rw[zO]; simp
 refine⟨⟨⟨by omega,by omega⟩,sl _ λx hx l e=>⟨(g1 x hx).1,(g1 x hx).2.1,pg _ _ e (g1 x hx).2.2⟩,cl _ λx hx l d s e e2=>⟨(g2 x hx).1,trivial, ?_,pg _ _ e (g2 x hx).2.2.2⟩,el _ g3 (λx hx=>⟨(g3 x hx).1,(g3 x hx).2.1,HQ (g3 x hx).2.2 ha⟩) λ_=>⟨⟨by show _≤i.Seq; omega,by show i.Seq < _; omega⟩,hi.of,HQ (λ_ h=>by cases h) ha⟩,g4⟩,xA (DU p i) (xA (vQ i a) h.r), ?_,cl _ λx hx l d s e e2=>⟨pl _ _ e (h.cl x hx).1, ?_⟩,List.pairwise_map.2 (h.so.imp fun {y z} e=>by rw[(uA i a y).1,(uA i a z).1]; exact e), ?_,sl _ λx hx l e=>pl _ _ e (h.sl x hx),sl _ λx hx l e=>h.man x hx, ?_, ?_,el _ (λx hx=>Nat.le_succ_of_le (h.el x hx)) (λx hx=>pl _ _ (.inr rfl) (h.el x hx)) λ_=>p0, ?_,⟨hsq.1,hsq.2.1⟩,h.vo⟩
 ·rcases e2 with rfl | rfl
  ·exact(g2 x hx).2.2.1
  ·intro z hz; cases hz
 ·show ((c.Chunks.map _).map _).length≤_
  simp; exact h.cn
 ·rcases e2 with rfl | rfl
  ·exact(h.cl x hx).2
  ·simp
 ·show (c.Snaps.map _).length≤_
  simp; exact h.sn
 ·show List.Pairwise _ (if i.Kind=3 then pG c.Exps i a else c.Exps)
  split
  ·exact Q7 h.eo
  ·exact h.eo
 ·show (if i.Kind=3 then pG c.Exps i a else c.Exps).length≤_
  have:=h.en
  split
  ·have:=N9 c.Exps i a; omega
  ·omega
 ·refine λx hx=>⟨?_, ?_, ?_⟩
  ·exact el (λx=>0≤x.Seq) (λx hx=>(h.eq x hx).1) (λx hx=>(h.eq x hx).1) (λ_=>hiq.1) x hx
  ·exact el (λx=>x.Seq≤1073741824) (λx hx=>(h.eq x hx).2.1) (λx hx=>(h.eq x hx).2.1) (λ_=>hiq.2) x hx
  ·exact el (λx=>x.Seq < (vZ p c i a).Seq) (λx hx=>by have:=(h.eq x hx).2.2; omega) (λx hx=>by have:=(h.eq x hx).2.2; simp only; omega) (λk=>hsq.2.2.2 k) x hx
theorem zU {p v f:Int} (gv:gI v) (gf:gI f):∀ {l:List aU} {n:Nat} {c:aA},Wm n c→(∀i∈l,It i)→Wm (n+l.length) (zS p v f c l)
 | [],_,_,h,_=>h
 | i::l,n,c,h,hi=>by
  have:=zU (p:=p) gv gf (l:=l) (h.step p (hi i List.mem_cons_self) (a:=qL v f i) ⟨gv,gf,(hi i List.mem_cons_self).off,(hi i List.mem_cons_self).len⟩) λj hj=>hi j (List.mem_cons_of_mem _ hj)
  rw[List.length_cons,show n+(l.length+1)=n+1+l.length by omega]
  exact this
theorem zV {p v f:Int} {j:aU}:∀ {l:List aU} {c:aA},kD (zS p v f c l) j=kD c j
 | [],_=>rfl
 | i::l,c=>by
  show kD (zS p v f (vZ p c i (qL v f i)) l) j=_
  rw[zV,N8]
open Go.Vm
structure Wd (d:aR):Prop where
 n:d.Items.length≤64
 it:∀i∈d.Items,mP i.Id∧(0≤i.Seq∧i.Seq≤1073741824)∧gI i.Of∧gI i.Off∧gI i.Len
def gs (l:List aU):List Int:=l.foldl (λa i=>if i.Kind==3 then mK a i.Of else a) []
theorem OB {l:List Int} {x:Int} (q:Int→Bool):(mK l x).any q=(l.any q || q x):=by
 unfold mK
 split
 ·rename_i h
  obtain⟨y,hy,e⟩:=List.any_eq_true.1 h
  have e:x=y:=by simpa using e
  subst e
  cases hq:q x with
  | false=>simp
  | true=>simp[List.any_eq_true.2 ⟨x,hy,hq⟩]
 ·simp
theorem U6 (s:aH):∀(l:List aU),((gs l).any λz=>s.Seq==z)=nC l s:=by
 have:∀(l:List aU) (a:List Int),((l.foldl (λa i=>if i.Kind==3 then mK a i.Of else a) a).any λz=>s.Seq==z)=(a.any (λz=>s.Seq==z) || nC l s):=by
  intro l
  induction l with
  | nil=>intro a; simp[nC]
  | cons i l ih=>
   intro a
   rw[List.foldl_cons,ih]
   unfold nC
   rw[List.any_cons]
   cases e:i.Kind==3 with
   | false=>simp[e]
   | true=>simp[e,OB,Bool.or_assoc]
 intro l
 unfold gs
 rw[this]
 simp
theorem Q8 (l:List aU) (i:aU):gs (l++ [i])=if i.Kind==3 then mK (gs l) i.Of else gs l:=by
 unfold gs
 rw[List.foldl_append]
 rfl
theorem FN (p v f:Int) (c:aA) (l:List aU) (i:aU):zS p v f c (l++ [i])=vZ p (zS p v f c l) i (qL v f i):=by
 unfold zS
 rw[List.foldl_append]
 rfl
theorem zW (p v f:Int):∀(l:List aU) (c:aA),(zS p v f c l).Vols=c.Vols
 | [],_=>rfl
 | i::l,c=>zW p v f l (vZ p c i (qL v f i))
theorem OD {c:aA} {v:Int} {x:aP} (h:Sm c) (hg:Gd c) (hx:c.Vols[v.toNat]? =some x):Wm 200 (ws c v x):=by
 obtain⟨g0,g1,g2,g3,g4⟩:=h.g
 have hq:=hg.q
 unfold gN at hq
 simp only[Bool.and_eq_true,decide_eq_true_eq] at hq
 have hxb:=hg.v x (List.mem_of_getElem? hx)
 unfold nE gN at hxb
 simp only[Bool.and_eq_true,Bool.or_eq_true,decide_eq_true_eq,beq_iff_eq] at hxb
 refine⟨⟨g0,g1,g2,g3,λy hy=> ?_⟩,rN.2 ⟨λy hy=>(g2 y hy).1,hg.co⟩,h.ch,λy hy=>⟨(hg.cl y hy).n,(h.cl y hy).2⟩,hg.so,h.sn,λy hy=>(hg.sl y hy).n,h.man,hg.eo,hg.en,λy hy=>(hg.el y hy).n,λy hy=> ?_,⟨hq.1,by show c.Seq≤_; omega⟩, ?_⟩
 ·rcases List.mem_or_eq_of_mem_set hy with h1 | rfl
  ·exact g4 y h1
  ·have:=g4 x (List.mem_of_getElem? hx)
   exact⟨this.1,this.2.1,(⟨by decide,by decide⟩:gI 2),(⟨by show _≤x.Files+1; omega,by show x.Files+1 < _; omega⟩:gI (x.Files+1))⟩
 ·have:=(hg.eq y hy).1
  unfold gN at this
  simp only[Bool.and_eq_true,decide_eq_true_eq] at this
  exact⟨this.1,by omega,by show y.Seq < c.Seq; omega⟩
 ·show (c.Vols.set _ _).length≤20
  rw[List.length_set]; exact h.vo
theorem aGV {F:Nat} {l:List aU} (hF:1000≤F) (hl:l.length≤64):KD F l (λx0=>KC F x0)=some (l.any λi=>decide (i.Kind < 1) || decide (3 < i.Kind)):=by
 have h1:NF F l (λx0=>KC F x0)=some (n3 l λi=>decide (i.Kind < 1) || decide (3 < i.Kind)):=by
  unfold NF
  refine iC (l:=l) (λi:aU=>decide (i.Kind < 1) || decide (3 < i.Kind)) (by omega) (λi x hx hm hi=> ?_) (by unfold tG; simp)
  unfold tG KC
  rw[f9 (by omega)]
  simp only[bB,hx,Option.bind_some,Int.ofNat_lt,hi,decide_true,if_true]
  by_cases a:x.Kind < 1 <;> by_cases b:3 < x.Kind <;> simp[a,b,aG]
 unfold KD
 rw[h1]
 simp only[Option.bind_some]
 cases ha:l.any (λi=>decide (i.Kind < 1) || decide (3 < i.Kind)) with
 | false=>rw[gP ha]; rfl
 | true=>
  obtain⟨i,x,h1, -⟩:=gH ha
  rw[h1]
  simp
def jW (x:aP) (d:aR):Bool:= !(x.State==3) && !d.Items.isEmpty && !d.Items.any λi=>decide (i.Kind < 1) || decide (3 < i.Kind)
theorem Q9 {l:List aB} {d:bO} {p:Nat} {y:aB} (f:aB→aB) (hr:uG l) (ha:At l d p) (hy:l[p]? =some y) (hd:y.Id=d):l.set p (f y)=l.map λz=>if z.Id=d then f z else z:=
 qK (λz:aB=>z.Id=d) f hy hd (λz hz e=>by
  have:=ha.lo z hz
  rw[e] at this; omega) λz hz e=>by
  obtain⟨j,hj,rfl⟩:=List.getElem_of_mem hz
  simp only[List.length_drop] at hj
  rw[List.getElem_drop] at e
  have:=hr.2 p (p+1+j) _ _ hy (List.getElem?_eq_getElem (by omega)) (by omega)
  rw[e,hd] at this; omega
theorem FO {F:Nat} {c:aA} {d:aR} {x:aP} {i:aU} {k:Nat} (hF:1000≤F) (hW:Wm 200 (ws c d.Vol x)) (gv:gI d.Vol) (gf:0≤x.Files∧x.Files≤65535) (hn:d.Items.length≤64) (hI:∀i∈d.Items,It i) (hk:k < d.Items.length) (hi:d.Items[k]? =some i)
    (e:aA) (he:e=zS x.Pool d.Vol (x.Files+1) (ws c d.Vol x) (d.Items.take k)):
    (kD (ws c d.Vol x) i=true→oZ F c d x (gs (d.Items.take k)) e.Seq e.Snaps e.Chunks e.Exps (k:Int)=some (.go (gs (d.Items.take (k+1)),(vZ x.Pool e i (qL d.Vol (x.Files+1) i)).Seq,(vZ x.Pool e i (qL d.Vol (x.Files+1) i)).Snaps,(vZ x.Pool e i (qL d.Vol (x.Files+1) i)).Chunks,(vZ x.Pool e i (qL d.Vol (x.Files+1) i)).Exps,((k+1:Nat):Int))))∧
    (kD (ws c d.Vol x) i=false→∃r,r.1=8∧oZ F c d x (gs (d.Items.take k)) e.Seq e.Snaps e.Chunks e.Exps (k:Int)=some (.ret r)):=by
  have gF:gI (x.Files+1):=⟨by omega,by omega⟩
  have hm:=List.mem_of_getElem? hi
  have It':=hI i hm
  have hWe:=zU (p:=x.Pool) gv gF (l:=d.Items.take k) hW λj hj=>hI j (List.mem_of_mem_take hj)
  have hp:=zV (p:=x.Pool) (v:=d.Vol) (f:=x.Files+1) (j:=i) (l:=d.Items.take k) (c:=ws c d.Vol x)
  have hv:=zW x.Pool d.Vol (x.Files+1) (d.Items.take k) (ws c d.Vol x)
  rw[← he] at hWe hp hv
  rw[List.length_take] at hWe
  have hV:(c.Vols.set d.Vol.toNat { x with State:=2}).set d.Vol.toNat { ({ x with State:=2}:aP) with Files:=x.Files+1}=e.Vols:=by
    rw[hv,List.set_set]; rfl
  have hga:pV (qL d.Vol (x.Files+1) i):=⟨gv,gF,It'.off,It'.len⟩
  have hgs:gs (d.Items.take (k+1))=if i.Kind==3 then mK (gs (d.Items.take k)) i.Of else gs (d.Items.take k):=by
    obtain⟨hk',rfl⟩:=List.getElem?_eq_some_iff.1 hi
    rw[List.take_succ_eq_append_getElem hk,Q8]
  have h123:=aGU (a:=qL d.Vol (x.Files+1) i) hF hWe (by omega) It'
  have wF:IntKind.wrap .i64 (x.Files+1)=x.Files+1:=wr (by omega) (by omega)
  have h123':HI F { Seq:=e.Seq,Snaps:=e.Snaps,Chunks:=e.Chunks,Exps:=e.Exps,Vols:=e.Vols} i { Vol:=d.Vol,File:=x.Files+1,Off:=i.Off,Len:=i.Len}=HI F e i (qL d.Vol (x.Files+1) i):=rfl
  constructor
  · intro hpr
    rw[hp,hpr,if_pos rfl] at h123
    have hr:=xA (vQ i (qL d.Vol (x.Files+1) i)) hWe.r
    obtain⟨p,ha,e116⟩:=UX hF hr It'.id (l:=e.Chunks.map (rU i (qL d.Vol (x.Files+1) i))) (by simp; have:=hWe.cn; omega)
    have e116':wP F (w9 e i (qL d.Vol (x.Files+1) i)).Chunks i.Id=_:=e116
    unfold oZ
    rw[f9 (by omega)]
    simp only[bB,hi,Option.bind_some,Int.ofNat_lt,hk,decide_true,if_true,wF,hV,h123',h123,e116']
    rw[if_neg (by simp),hgs]
    have gn:∀ {ρ:Type} (k':List Int→Option ρ),(after (if (i.Kind==3)=true then some (.brk (mK (gs (d.Items.take k)) i.Of)) else some (.brk (gs (d.Items.take k))):Option (Lp (List Int) ρ)) k')=k' (if i.Kind==3 then mK (gs (d.Items.take k)) i.Of else gs (d.Items.take k)):=λk'=>by split <;> rfl
    rw[gn]
    have fin:(vZ x.Pool e i (qL d.Vol (x.Files+1) i)).Chunks=(w9 e i (qL d.Vol (x.Files+1) i)).Chunks.map (uH x.Pool i):=rfl
    by_cases k1:i.Kind=1
    · have hhas:kJ (w9 e i (qL d.Vol (x.Files+1) i)).Chunks i.Id=true:=by
        show kJ (e.Chunks.map (rU i (qL d.Vol (x.Files+1) i))) i.Id=true
        rw[zT (vQ i _)]
        rw[← hp] at hpr
        unfold kD at hpr
        rwa [if_pos k1] at hpr
      rw[show kJ (e.Chunks.map (rU i (qL d.Vol (x.Files+1) i))) i.Id=true from hhas]
      obtain⟨y,y1,y2⟩:=C9 hr ha It'.id hhas
      simp only[k1,beq_self_eq_true,if_true,aG]
      by_cases p0:x.Pool=0
      · have y1':(w9 e i (qL d.Vol (x.Files+1) i)).Chunks[p]? =some y:=y1
        have hpl:=(List.getElem?_eq_some_iff.1 y1').1
        have hb:(x.Pool==0)=true:=by simpa using p0
        simp only[hb,if_true,y1',Option.bind_some,Int.toNat_natCast]
        rw[List.getElem?_set_self hpl]
        simp only[Option.bind_some,List.set_set,aG]
        rw[fin]
        have:=Q9 (λz:aB=> { z with Staged:=false,Data:= []}) (show uG (w9 e i (qL d.Vol (x.Files+1) i)).Chunks from hr) (show At (w9 e i (qL d.Vol (x.Files+1) i)).Chunks i.Id p from ha) y1' y2
        rw[this]
        have e9:(λz:aB=>if z.Id=i.Id then ({ z with Staged:=false,Data:= []}:aB) else z)=uH x.Pool i:=by
          funext z
          simp only[uH,p0,k1,true_and]
        rw[e9]
        rfl
      · simp only[show (x.Pool==0)=false from by simpa using p0,Bool.false_eq_true,if_false,aG]
        rw[fin,kR λz _=>by unfold uH; rw[if_neg (by simp[p0])]]
        rfl
    · simp only[show (i.Kind==1)=false from by simpa using k1,Bool.false_eq_true,if_false,aG]
      rw[fin,kR λz _=>by unfold uH; rw[if_neg (by simp[k1])]]
      rfl
  · intro hpr
    rw[hp,hpr,if_neg (by decide)] at h123
    refine⟨(8,e.Seq,e.Snaps,e.Chunks,e.Exps,e.Vols),rfl, ?_⟩
    unfold oZ
    simp only[bB,hi,Option.bind_some,Int.ofNat_lt,hk,decide_true,if_true,wF,hV,h123',h123]
    rw[if_pos (by simp)]
theorem n74 {F:Nat} {c:aA} {d:aR} {x:aP} (hF:1000≤F) (h:Sm c) (hg:Gd c) (hd:Wd d) (gv:gI d.Vol) (h0:0≤d.Vol) (hx:c.Vols[d.Vol.toNat]? =some x):
    ∃r,VY F c d=some r∧(if jW x d=true then (if d.Items.all (kD c)=true then r=(0,(tZ c d x).Seq,(tZ c d x).Snaps,(tZ c d x).Chunks,(tZ c d x).Exps,(tZ c d x).Vols) else r.1=8) else r.1=1):=by
  have hxb:=hg.v x (List.mem_of_getElem? hx)
  have gf:0≤x.Files∧x.Files≤65535:=by
    unfold nE gN at hxb
    simp only[Bool.and_eq_true,Bool.or_eq_true,decide_eq_true_eq,beq_iff_eq] at hxb
    omega
  have gF:gI (x.Files+1):=⟨by omega,by omega⟩
  have hlt:=(List.getElem?_eq_some_iff.1 hx).1
  have hn:=hd.n
  have hW:=OD h hg hx
  unfold VY
  rw[aGV hF hn]
  simp only[Option.bind_some,nS _ h0,hx]
  rw[if_neg (by simp; omega),if_neg (by simp; omega)]
  by_cases c1:x.State=3
  · rw[if_pos (by simp[c1])]
    simp only[aG,if_true]
    exact⟨_,rfl,by simp[jW,c1]⟩
  rw[if_neg (by simp[c1])]
  by_cases c2:d.Items= []
  · simp[c2,aG,jW]
  have hpos:0 < d.Items.length:=List.length_pos_iff.2 c2
  rw[if_neg (by simp; omega),if_neg (by simp; omega)]
  simp only[aG]
  cases c3:d.Items.any (λi=>decide (i.Kind < 1) || decide (3 < i.Kind)) with
  | true=>
    simp only[Bool.not_true,Bool.not_false,if_true]
    exact⟨_,rfl,by simp[jW,c3]⟩
  | false=>
  have hI:∀i∈d.Items,It i:=λi hi=>by
    obtain⟨a1,a2,a3,a4,a5⟩:=hd.it i hi
    have:=List.any_eq_false.1 c3 i hi
    simp only[Bool.or_eq_true,decide_eq_true_eq] at this
    exact⟨a1,a2,by omega,a3,a4,a5⟩
  have hwc:jW x d=true:=by simp[jW,c1,c2,c3]
  simp only[Bool.not_false,Bool.not_true,Bool.false_eq_true,if_false,hwc,if_true]
  have key:=zR (body:=λs:List Int×Int×List aH×List aB×List aQ×Int=>oZ F c d x s.1 s.2.1 s.2.2.1 s.2.2.2.1 s.2.2.2.2.1 s.2.2.2.2.2) (n:=d.Items.length)
    (λk=>(gs (d.Items.take k),(zS x.Pool d.Vol (x.Files+1) (ws c d.Vol x) (d.Items.take k)).Seq,(zS x.Pool d.Vol (x.Files+1) (ws c d.Vol x) (d.Items.take k)).Snaps,(zS x.Pool d.Vol (x.Files+1) (ws c d.Vol x) (d.Items.take k)).Chunks,(zS x.Pool d.Vol (x.Files+1) (ws c d.Vol x) (d.Items.take k)).Exps,(k:Int)))
    (λk=>(d.Items[k]?).any (kD c)) (λr=>r.1=8)
    (λk hk hp=>by
      have hi:d.Items[k]? =some d.Items[k]:=List.getElem?_eq_getElem hk
      have:=(FO hF hW gv gf hn hI hk hi _ rfl).1 (by rw[hi] at hp; exact hp)
      refine this.trans ?_
      rw[← FN,← List.take_succ_eq_append_getElem hk])
    (λk hk hp=>by
      have hi:d.Items[k]? =some d.Items[k]:=List.getElem?_eq_getElem hk
      exact(FO hF hW gv gf hn hI hk hi _ rfl).2 (by rw[hi] at hp; exact hp))
    (by unfold oZ; simp) d.Items.length 0 F (by omega) (by omega)
  have st0:([],c.Seq,c.Snaps,c.Chunks,c.Exps,0)=(gs (d.Items.take 0),(zS x.Pool d.Vol (x.Files+1) (ws c d.Vol x) (d.Items.take 0)).Seq,(zS x.Pool d.Vol (x.Files+1) (ws c d.Vol x) (d.Items.take 0)).Snaps,(zS x.Pool d.Vol (x.Files+1) (ws c d.Vol x) (d.Items.take 0)).Chunks,(zS x.Pool d.Vol (x.Files+1) (ws c d.Vol x) (d.Items.take 0)).Exps,((0:Nat):Int)):=rfl
  rw[st0]
  rcases key with⟨k1,k2⟩ | ⟨⟨j, -,k1,k2⟩,r,k3,k4⟩
  · rw[k2]
    simp only[aG,List.take_length]
    have hall:d.Items.all (kD c)=true:=List.all_eq_true.2 λi hi=>by
      obtain⟨j,hj,rfl⟩:=List.getElem_of_mem hi
      have:=k1 j (Nat.zero_le _) hj
      rw[List.getElem?_eq_getElem hj] at this
      exact this
    rw[hall]
    simp only[if_true]
    have hWe:=zU (p:=x.Pool) gv gF hW hI
    have e1:zS x.Pool d.Vol (x.Files+1) (ws c d.Vol x) d.Items=pH c d x:=rfl
    have hVv:(c.Vols.set d.Vol.toNat { x with State:=2}).set d.Vol.toNat { ({ x with State:=2}:aP) with Files:=IntKind.wrap .i64 (x.Files+1)}=(pH c d x).Vols:=by
      rw[← e1,zW,List.set_set,wr (by omega) (by omega)]; rfl
    rw[e1] at hWe ⊢
    have hsm:=hWe.sm (by omega)
    rw[aGS (l:=(pH c d x).Snaps) (λs=>nC d.Items s) hF (by have:=hWe.sn; omega) (λs hs=>by unfold QU; rw[U6])]
    simp only[Option.bind_some]
    rw[hVv]
    have h120:HH F { Seq:=(pH c d x).Seq,Snaps:=(pH c d x).Snaps.filter (λs=> !nC d.Items s),Chunks:=(pH c d x).Chunks,Exps:=(pH c d x).Exps,Vols:=(pH c d x).Vols}=some (KH (AP c d x)):=aAS hF (p7 hsm _)
    rw[h120]
    refine⟨_, ?_,rfl⟩
    unfold tZ
    have e2:(AP c d x).Snaps=(pH c d x).Snaps.filter λs=> !nC d.Items s:=rfl
    rw[e2]
    by_cases hs:((pH c d x).Snaps.filter λs=> !nC d.Items s).length < (pH c d x).Snaps.length
    · rw[if_pos (by simpa using hs),if_pos hs]
      simp only[Option.bind_some,aG]
      rfl
    · rw[if_neg (by simpa using hs),if_neg hs]
      simp only[aG]
      rfl
  · have hall:d.Items.all (kD c)=false:=by
      rw[List.all_eq_false]
      refine⟨d.Items[j],List.getElem_mem k1, ?_⟩
      rw[List.getElem?_eq_getElem k1] at k2
      simpa using k2
    rw[k4,hall]
    exact⟨_,rfl,by simpa using k3⟩
theorem HR {c:aA} {d:aR} {x:aP} (h:Sm c) (hg:Gd c) (hd:Wd d) (gv:gI d.Vol) (hx:c.Vols[d.Vol.toNat]? =some x) (hI:∀i∈d.Items,1≤i.Kind∧i.Kind≤3):Sm (tZ c d x):=by
 have hxb:=hg.v x (List.mem_of_getElem? hx)
 have gf:0≤x.Files∧x.Files≤65535:=by
  unfold nE gN at hxb
  simp only[Bool.and_eq_true,Bool.or_eq_true,decide_eq_true_eq,beq_iff_eq] at hxb
  omega
 have gF:gI (x.Files+1):=⟨by omega,by omega⟩
 have hn:=hd.n
 have hWe:=zU (p:=x.Pool) gv gF (OD h hg hx) (λi hi=>⟨(hd.it i hi).1,(hd.it i hi).2.1,hI i hi,(hd.it i hi).2.2.1,(hd.it i hi).2.2.2.1,(hd.it i hi).2.2.2.2⟩)
 have hs:=p7 (hWe.sm (by omega)) λs=> !nC d.Items s
 unfold tZ
 split
 ·exact I1 hs
 ·exact hs
theorem FP {F:Nat} {c:aA} {d:aR} {x:aP} (hF:1000≤F) (h:Sm c) (hg:Gd c) (hk:d.Kind=3) (hd:Wd d) (gv:gI d.Vol) (h0:0≤d.Vol) (hx:c.Vols[d.Vol.toNat]? =some x):
    C7 F c d=some (if jW x d=true then (if d.Items.all (kD c)=true then (if iB (tZ c d x)=true then (tZ c d x,0) else (bU,1)) else (bU,8)) else (bU,1)):=by
  have hk2:kB.find? (λe=>e.1==d.Kind)=some (d.Kind,74):=by rw[hk]; rfl
  have go:∀(e:aA) (n:Int),gW F 74 c d=some (e,n)→(n=0→Sm e)→_:=λe n=>n29 (n:=n) hF h (jV.2 hg) hk2
  obtain⟨r,hr,hq⟩:=n74 hF h hg hd gv h0 hx
  have e0:gW F 74 c d=(VY F c d).bind λo=>some ({ c with Seq:=o.2.1,Snaps:=o.2.2.1,Chunks:=o.2.2.2.1,Exps:=o.2.2.2.2.1,Vols:=o.2.2.2.2.2},o.1):=by
    unfold gW
    simp only[if_neg (show ¬(74:Nat)=72 by decide),if_neg (show ¬(74:Nat)=73 by decide),if_true]
  rw[hr] at e0
  by_cases c1:jW x d=true
  · rw[if_pos c1] at hq ⊢
    by_cases c2:d.Items.all (kD c)=true
    · rw[if_pos c2] at hq ⊢
      subst hq
      rw[go (tZ c d x) 0 e0 λ_=>HR h hg hd gv hx λi hi=>by
        unfold jW at c1
        simp only[Bool.and_eq_true,Bool.not_eq_true',List.any_eq_false,Bool.or_eq_true,decide_eq_true_eq,not_or,Int.not_lt] at c1
        exact c1.2 i hi]
      rfl
    · rw[if_neg c2] at hq ⊢
      rw[go _ _ e0 λh=>by rw[hq] at h; cases h]
      simp[hq]
  · rw[if_neg c1] at hq ⊢
    rw[go _ _ e0 λh=>by rw[hq] at h; cases h]
    simp[hq]
open Go.Vm
def KM (n:Nat) (l:List bG):Prop:=l.length≤n∧gL pV l
def RA (n:Nat) (s:aH):Prop:=gI s.Seq∧IX s.Man∧KM n s.Locs
def RB (n:Nat) (x:aB):Prop:=mP x.Id∧x.Data.length≤300∧gL gB x.Data∧KM n x.Locs
def RC (n:Nat) (x:aQ):Prop:=gI x.Seq∧gI x.Of∧KM n x.Locs
structure Md (n m:Nat) (q:Int) (s:List aH) (k:List aB) (e:List aQ) (v:List aP):Prop where
 q:gI q
 sn:s.length≤9
 s:∀x∈s,RA n x
 kn:k.length≤360
 k:∀x∈k,RB n x
 en:e.length≤m
 e:∀x∈e,RC n x
 vn:v.length≤8
 v:∀x∈v,R8 x
theorem KM.mono {n n':Nat} {l:List bG} (h:KM n l) (hn:n≤n'):KM n' l:=⟨Nat.le_trans h.1 hn,h.2⟩
theorem RA.mono {n n':Nat} {x:aH} (h:RA n x) (hn:n≤n'):RA n' x:=⟨h.1,h.2.1,h.2.2.mono hn⟩
theorem RB.mono {n n':Nat} {x:aB} (h:RB n x) (hn:n≤n'):RB n' x:=⟨h.1,h.2.1,h.2.2.1,h.2.2.2.mono hn⟩
theorem RC.mono {n n':Nat} {x:aQ} (h:RC n x) (hn:n≤n'):RC n' x:=⟨h.1,h.2.1,h.2.2.mono hn⟩
theorem Md.mono {n m n' m':Nat} {q:Int} {s:List aH} {k:List aB} {e:List aQ} {v:List aP} (h:Md n m q s k e v) (hn:n≤n') (hm:m≤m'):Md n' m' q s k e v:=
 ⟨h.q,h.sn,λx hx=>(h.s x hx).mono hn,h.kn,λx hx=>(h.k x hx).mono hn,Nat.le_trans h.en hm,λx hx=>(h.e x hx).mono hn,h.vn,h.v⟩
theorem Md.sm {n m:Nat} {q:Int} {s:List aH} {k:List aB} {e:List aQ} {v:List aP} (h:Md n m q s k e v) (hn:n≤300) (hm:m≤300):Sm { Seq:=q,Snaps:=s,Chunks:=k,Exps:=e,Vols:=v} where
 g:=⟨h.q,λx hx=>⟨(h.s x hx).1,(h.s x hx).2.1.2.2.2,(h.s x hx).2.2.2⟩,λx hx=>⟨(h.k x hx).1,trivial,(h.k x hx).2.2.1,(h.k x hx).2.2.2.2⟩,λx hx=>⟨(h.e x hx).1,(h.e x hx).2.1,(h.e x hx).2.2.2⟩,h.v⟩
 sn:=Nat.le_trans h.sn (by omega)
 ch:=Nat.le_trans h.kn (by omega)
 ex:=Nat.le_trans h.en hm
 vo:=Nat.le_trans h.vn (by omega)
 sl:=λx hx=>Nat.le_trans (h.s x hx).2.2.1 hn
 cl:=λx hx=>⟨Nat.le_trans (h.k x hx).2.2.2.1 hn,(h.k x hx).2.1⟩
 el:=λx hx=>Nat.le_trans (h.e x hx).2.2.1 hn
 man:=λx hx=>⟨(h.s x hx).2.1.1,(h.s x hx).2.1.2.1,(h.s x hx).2.1.2.2.1⟩
theorem vR {c:aA} {l:List bG} (h:h9 c l=true):l.length≤200:=by
 unfold h9 at h
 simp only[Bool.and_eq_true,decide_eq_true_eq] at h
 exact h.1
theorem Ok.md {c:aA} (h:Ok c):Md 200 200 c.Seq c.Snaps c.Chunks c.Exps c.Vols where
 q:=h.sm.g.1
 sn:=Nat.le_trans h.rg.sn (by omega)
 s:=λx hx=>⟨(h.sm.g.2.1 x hx).1,⟨(h.sm.man x hx).1,(h.sm.man x hx).2.1,(h.sm.man x hx).2.2,(h.sm.g.2.1 x hx).2.1⟩,vR (h.rg.s x hx).2.2.2,(h.sm.g.2.1 x hx).2.2⟩
 kn:=Nat.le_trans h.rg.ch (by omega)
 k:=λx hx=>⟨(h.sm.g.2.2.1 x hx).1,(h.sm.cl x hx).2,(h.sm.g.2.2.1 x hx).2.2.1,vR (h.rg.k x hx).2,(h.sm.g.2.2.1 x hx).2.2.2⟩
 en:=h.rg.ex
 e:=λx hx=>⟨(h.sm.g.2.2.2.1 x hx).1,(h.sm.g.2.2.2.1 x hx).2.1,vR (h.rg.e x hx).2.2.2.2,(h.sm.g.2.2.2.1 x hx).2.2⟩
 vn:=h.rg.vo
 v:=h.sm.g.2.2.2.2
open Go.Vm
theorem BM {α:Type} {l:List α} {P:α→Prop} {i:Int} {x:α} (h0:0≤i) (hx:l[i.toNat]? =some x) (h:∀y∈l.take i.toNat,P y) (hP:P x):∀y∈l.take (i+1).toNat,P y:=by
 intro y hy
 obtain⟨hlt,he⟩:=List.getElem?_eq_some_iff.1 hx
 rw[show (i+1).toNat=i.toNat+1 from by omega,List.take_succ_eq_append_getElem hlt] at hy
 rcases List.mem_append.1 hy with h1 | h1
 ·exact h y h1
 ·rw[List.mem_singleton,he] at h1
  exact h1 ▸ hP
theorem OE {α:Type} {l:List α} {i n:Nat} {x:α} (hx:l[i]? =some x) (hi:i < n):x∈l.take n:=by
 refine List.mem_of_getElem? (i:=i) ?_
 rw[List.getElem?_take_of_lt hi,hx]
def I6 (a:pR):Prop:=∀f∈a.Tree,f.Path.size≤100
theorem t27 {F:Nat} {l:List pR} (hF:1000≤F):T (M14 F l) λb=>b=false→∀a∈l.take 30,I6 a:=by
 unfold M14
 refine .ite (λ_=>.some λh=>by cases h) λhl=> ?_
 have hl:l.length≤120:=by simp at hl; omega
 refine .loop (λi=>0≤i∧i≤l.length∧i≤30∧∀a∈l.take i.toNat,I6 a) (λi=>(l.length - i).toNat) (λ_=>∀a∈l.take 30,I6 a) (by omega) (by simp) (λi hi=> ?_) (λi hi=>.some λ_=>hi)
 obtain⟨i0,i1,i2,i3⟩:=hi
 unfold DQ
 refine .after (.ite (λhc=>.brk (T.ite (λhc2=> ?_) λhc2=>.brk λa ha=> ?_)) λhc=>.brk (T.ite (λh=>by cases h) λ_=>.brk λa ha=> ?_))
 ·have hc:=of_decide_eq_true hc
  have hc2:=of_decide_eq_true hc2
  rw[wr (n:=i+1) (by omega) (by omega)]
  refine .after (.ix (by omega) (by omega) λx e hx=>.ite (λ_=>.brk (T.ite (λ_=>.ret λh=>by cases h) λh=>absurd rfl h)) λ_=>.ix (by omega) (by omega) λy e2 hy=>.brk (T.ite (λ_=>.ret λh=>by cases h) λht=> ?_))
  have ht:y.Tree.length≤10:=by simp at ht; omega
  refine .loop (λj=>0≤j∧j≤y.Tree.length∧∀f∈y.Tree.take j.toNat,f.Path.size≤100) (λj=>(y.Tree.length - j).toNat) (λ_=>I6 y) (by omega) (by simp) (λj hj=> ?_) (λj hj=>.go ⟨⟨by omega,by omega,by omega,BM i0 e2 i3 hj⟩,by omega⟩)
  obtain⟨j0,j1,j2⟩:=hj
  have same:∀z,l[i.toNat]? =some z→z=y:=λz hz=>by rw[e2] at hz; exact(Option.some.inj hz).symm
  unfold DP
  refine .ix (by omega) (by omega) λz ez _=> ?_
  obtain rfl:=same z ez
  refine .ite (λhc=> ?_) λhc=>.brk λf hf=>j2 f ?_
  ·have hc:=of_decide_eq_true hc
   rw[wr (n:=j+1) (by omega) (by omega)]
   refine .after (.ix (by omega) (by omega) λz2 ez2 _=> ?_)
   obtain rfl:=same z2 ez2
   refine .ix (by omega) (by omega) λf ef hf=>.ite (λ_=>.brk (T.ite (λ_=>.ret (show (_:Bool)=false→_ from λh=>by cases h)) λh=>absurd rfl h)) λ_=>.ix (by omega) (by omega) λz3 ez3 _=> ?_
   obtain rfl:=same z3 ez3
   refine .ix (by omega) (by omega) λf ef hf=>.brk (T.ite (λ_=>.ret (show (_:Bool)=false→_ from λh=>by cases h)) λhp=>.go ⟨⟨by omega,by omega,BM j0 ef j2 ?_⟩,by omega⟩)
   simp at hp
   omega
  ·have hc:¬(j < z.Tree.length):=by simpa using hc
   rw[List.take_of_length_le (by omega)]
   exact hf
 ·have hc2:¬(i < 30):=by simpa using hc2
  have:i.toNat=30:=by omega
  rw[this] at i3
  exact i3 a ha
 ·have hc:¬(i < l.length):=by simpa using hc
  refine i3 a ?_
  rw[List.take_of_length_le (by omega)]
  exact List.mem_of_mem_take ha
theorem aGW (x:Int) (hx:gI x):cJ .and .i64 x 1=0∨cJ .and .i64 x 1=1:=by
 have e:cJ .and .i64 x 1=IntKind.wrap .i64 ((BitVec.ofInt 64 x &&& BitVec.ofInt 64 1).toNat:Int):=rfl
 have e1:(BitVec.ofInt 64 1).toNat=1:=by decide
 rw[e,BitVec.toNat_and,e1,Nat.and_one_is_mod]
 rcases Nat.mod_two_eq_zero_or_one (BitVec.ofInt 64 x).toNat with h | h <;> rw[h]
 ·exact .inl rfl
 ·exact .inr rfl
theorem t29 {F:Nat} {l:List Int} (hF:1000≤F) (gl:gL gI l):T (M16 F l) λr=>gN r.length 1 8=true∧r.all vV=true∧gL gI r:=by
 unfold M16
 refine .loop (λs=>0≤s.2∧s.2≤l.length∧s.2≤8∧(s.1.length:Int)=s.2∧∀x∈s.1,x=0∨x=1) (λs=>(8 - s.2).toNat) (λs=>s.1.length≤8∧∀x∈s.1,x=0∨x=1) (by simp; omega) (by simp) (λs hs=> ?_) (λs hs=> ?_)
 ·obtain⟨q,i⟩:=s
  simp only at hs
  unfold DR
  refine .after (.ite (λhc=>.brk (T.ite (λhc2=> ?_) λhc2=>.brk ⟨by first | omega | (simp only; omega),hs.2.2.2.2⟩)) λhc=>.brk (T.ite (λh=>by cases h) λ_=>.brk ⟨by first | omega | (simp only; omega),hs.2.2.2.2⟩))
  have hc:=of_decide_eq_true hc
  have hc2:=of_decide_eq_true hc2
  simp only at hc hc2
  rw[wr (n:=i+1) (by omega) (by omega)]
  refine .ix (by omega) (by omega) λx _ hx=>.app (by simp; omega) (.go ⟨⟨by first | omega | (simp only; omega),by first | omega | (simp only; omega),by first | omega | (simp only; omega),by simp; omega,λy hy=> ?_⟩,by first | omega | (simp only; omega)⟩)
  rcases List.mem_append.1 hy with h | h
  ·exact hs.2.2.2.2 y h
  ·rw[List.mem_singleton] at h
   exact h ▸ aGW x (gl x hx)
 ·obtain⟨q,i⟩:=s
  simp only at hs
  have fin:∀r:List Int,0 < r.length→r.length≤8→(∀x∈r,x=0∨x=1)→gN r.length 1 8=true∧r.all vV=true∧gL gI r:=λr h1 h2 h3=>by
   refine⟨by unfold gN; simp; omega, ?_,λx hx=> ?_⟩
   ·rw[List.all_eq_true]
    intro x hx
    rcases h3 x hx with rfl | rfl <;> rfl
   ·rcases h3 x hx with rfl | rfl <;> simp[gI]
  refine .after (.ite (λ_=>.brk (.some (fin _ (by simp) (by simp) (by simp)))) λhc=>.brk (.some (fin _ ?_ hs.1 hs.2)))
  have:¬((q.length:Int)=0):=by simpa using hc
  omega
end Go.Proofs.YtbbifdfldpfphaaGreat
