import Derived.Test.YtbbifdfldpfphaaGreatK9P5
import Derived.Test.YtbbifdfldpfphaaGreatK9P4
import Derived.Test.YtbbifdfldpfphaaGreatK9P8
import Derived.Test.YtbbifdfldpfphaaGreatK9P7
set_option linter.unusedSimpArgs false
set_option linter.unusedVariables false
set_option maxHeartbeats 4000000
set_option maxRecDepth 100000
open Bool(and_eq_true)
open ByteArray(empty)
open Int(ofNat_lt)
open Go.IntKind(wrap)
open List(any_eq_false filter_append filter_eq_self getElem?_eq_getElem length_append map mem_append mem_cons mem_cons_self mem_filter mem_map mem_of_mem_drop mem_of_mem_take mem_singleton nil_sublist)
open Option(bind_some)
open Go.Proofs.Tryz(prog)
namespace Go.Proofs.YtbbifdfldpfphaaGreat
open Go.Vm
def uU (m:Nat) (p0:List dR) (q0:Int):Option (Lp (Int) (Bool)):=
 if decide (q0 < (p0.length:Int)) then ((ix p0 q0).bind λx0=>if decide (200 < (x0.Data.length:Int)) then Rk true else Gk (wrap .i64 (q0+1))) else Bk q0
def LE (m:Nat) (p0:List dR):Option (Bool):=
 if decide (6 < (p0.length:Int)) then (some true) else after (aT (λs=>uU m p0 s) m 0) λr0=>some false
theorem aDQ {u:Nat} {p0:List dR} {o:Bool} (h:aF) (m:LE u p0=some o):
 aM prog 139 [.sl none 2 (map eU p0)] h (λr h'=>r= .sc (.bool o)/\h'=h):=by
 refine fM 20 [.tmp 2] Tryz.func139 rfl rfl rfl rfl ?_
 unfold LE at m
 refine v (v (dI AK rfl (v ?_)))
 apply vi m<;>intro c4 m
 refine v (v ?_)
 obtain rfl:=eT m
 exact eI rfl
 refine v (v (jT m (σ:=Int) (λs=>[]) (λs=>.c 0 (.sl none 2 (map eU p0)) (.c 3 (nZ s) .nil)) (lx (.k2 .nil)) ?_ ?_))
 rintro _ q0 x m
 replace m:uU u p0 q0=some x:=m
 unfold uU at m
 refine v (dI AK rfl (v ?_))
 apply vi m<;>intro c0 m
 refine v (v (v (vx m pP rfl rfl λ_ _ m=>dI n4 rfl (v ?_))))
 apply vi m<;>intro c1 m
 refine v (v (gM m λm=> ?_))
 obtain rfl:=eT m
 exact eI rfl
 exact v (v (w7 m))
 exact v (LY m)
 rintro _ r0 m
 refine v (v ?_)
 obtain rfl:=eT m
 exact eI rfl
theorem UT:aP prog 139=true:=by kernel_rfl
def DC (m:Nat) (p0:List dR) (q0:Int):Option (Lp (Int) ((List dR)×Int)):=
 if decide (q0 < (p0.length:Int)) then ((ix p0 q0).bind λx0=>(C1 m x0.Path).bind λy0=>if (!y0)then (Rk ([],1)) else Gk (wrap .i64 (q0+1))) else Bk q0
def DD (m:Nat) (p0:List dR) (q0:List dR) (q1:Int) (q2:Int):Option (Lp (Int) (Lp ((List dR)×Int) ((List dR)×Int))):=
 after (if decide (q2 < (q0.length:Int)) then ((ix q0 q2).bind λx0=>(ix p0 q1).bind λx1=>Bk (Op.bytesLess x0.Path.toList x1.Path.toList)) else Bk false:Option (Lp (Bool) (Lp (Int) (Lp ((List dR)×Int) ((List dR)×Int))))) λj0=>if j0 then (Gk (wrap .i64 (q2+1))) else Bk q2
def DE (m:Nat) (p0:List dR) (q0:List dR) (q1:Int):Option (Lp ((List dR)×Int) ((List dR)×Int)):=
 if decide (q1 < (p0.length:Int)) then (after (aT (λs=>DD m p0 q0 q1 s) m 0) λr0=>after (if decide (r0 < (q0.length:Int)) then ((ix q0 r0).bind λx0=>(ix p0 q1).bind λx1=>Bk (x0.Path.toList==x1.Path.toList)) else Bk false:Option (Lp (Bool) (Lp ((List dR)×Int) ((List dR)×Int)))) λj0=>if j0 then (Rk ([],9)) else (slc q0 0 r0).bind λx2=>(ix p0 q1).bind λx3=>(ix p0 q1).bind λx4=>(app ([]:List dR) x2).bind λz0=>(vZ m x4.Data).bind λy0=>(app z0 ([({ Path:=x3.Path,Data:=y0}:dR)]:List dR)).bind λz1=>(slc q0 r0 (q0.length:Int)).bind λx5=>(app z1 x5).bind λz2=>Gk (z2,wrap .i64 (q1+1))) else Bk (q0,q1)
def M85 (m:Nat) (p0:List dR):Option ((List dR)×Int):=
 (LE m p0).bind λy4=>if y4 then (some ([],2)) else after (aT (λs=>DC m p0 s) m 0) λr0=>after (aT (λs=>DE m p0 s.1 s.2) m ([],0)) λ⟨r1,r2⟩=>some (r1,0)
theorem W85 {w:Nat} {p0:List dR} {o:(List dR)×Int} (h:aF) (m:M85 w p0=some o):
 aM prog 85 [.sl none 2 (map eU p0)] h (λr h'=>r= .tup [.sl none 2 (map eU o.1),nZ o.2]/\h'=h):=by
 refine fM 91 [.tmp 2,.tmp 3] Tryz.func85 rfl rfl rfl rfl ?_
 unfold M85 at m
 refine v (v (vk aDQ UT m rfl rfl λ_ m=>v ?_))
 apply vi m<;>intro c6 m
 refine v (v ?_)
 cases m
 exact vr λu=>dW.of2 (.inl rfl) (gK _ _ (.sc (.slice _ _ _)) rfl) (gK _ _ (.sc (.int _ _)) rfl) (iG.refl _) (bC _) (bD.refl _ _) ⟨rfl,rfl⟩
 refine v (v (jT m (σ:=Int) (λs=>[]) (λs=>.c 0 (.sl none 2 (map eU p0)) (.c 4 (nZ s) .nil)) (lx (.k2 .nil)) ?_ ?_))
 rintro _ q0 x m
 replace m:DC w p0 q0=some x:=m
 unfold DC at m
 refine v (dI AK rfl (v ?_))
 apply vi m<;>intro c0 m
 refine v (v (v (vx m pP rfl rfl λ_ _ m=>vk NT E6 m rfl rfl λ_ m=>v ?_)))
 apply vi m<;>intro c1 m
 refine v (v (gM m λm=> ?_))
 cases m
 exact vr λu=>dW.of2 (.inl rfl) (gK _ _ (.sc (.slice _ _ _)) rfl) (gK _ _ (.sc (.int _ _)) rfl) (iG.refl _) (bC _) (bD.refl _ _) ⟨rfl,rfl⟩
 exact v (v (w7 m))
 exact v (LY m)
 rintro _ r0 m
 refine v (v (pJ (BI (.tok 95 2 (([]:List dR).length*2)) 5 (ow none 2 (map eU [])) (iB _ _)) (nE m (σ:=(List dR)×Int) (τ:=Option bX) (λg s=>[(g,.tok 95 2 ((s.1:List dR).length*2))]) (λg s=>(g=none->s.1= [])) (λg s=>.c 0 (.sl none 2 (map eU p0)) (.c 5 (ow g 2 (map eU s.1)) (.c 6 (nZ s.2) .nil))) none (λ_=>rfl) (lx (.k3 .nil)) ?_ ?_)))
 rintro tg0 ⟨q1,q2⟩ x t0 m
 replace m:DE w p0 q1 q2=some x:=m
 unfold DE at m
 refine v (dI AK rfl (v ?_))
 apply vi m<;>intro c2 m
 refine v (v (v (vs (jT m (σ:=Int) (λs=>[(tg0,.tok 95 2 ((q1:List dR).length*2))]) (λs=>.c 0 (.sl none 2 (map eU p0)) (.c 5 (ow tg0 2 (map eU q1)) (.c 6 (nZ q2) (.c 7 (nZ s) .nil)))) (lx (.k4 .nil)) ?_ ?_))))
 rintro _ q3 x m
 replace m:DD w p0 q1 q2 q3=some x:=m
 unfold DD at m
 refine vs (vs (fP m (σ:=Bool) (λs=>[(tg0,.tok 95 2 ((q1:List dR).length*2))]) (λs=>.c 0 (.sl none 2 (map eU p0)) (.c 5 (ow tg0 2 (map eU q1)) (.c 6 (nZ q2) (.c 7 (nZ q3) (.c 46 (.sc (.bool s)) .nil))))) (λx m=> ?_) ?_))
 refine v (vq (by kernel_rfl) (bV (vK AK t0 rfl) ?_))
 apply vi m<;>intro b0 m
 rw[b0]
 obtain⟨_,X0,m⟩:=aC m
 exact bV (T1 X0 pP t0 rfl rfl) (vx m pP rfl rfl λ_ _ m=>bV (GT rfl rfl rfl trivial) (lE m))
 rw[b0]
 exact lE m
 rintro _ j0 m
 refine v ?_
 apply vi m<;>intro c3 m
 exact v (v (v (fV m)))
 exact v (u0 m)
 rintro _ r1 m
 refine vs (vs (fP m (σ:=Bool) (λs=>[(tg0,.tok 95 2 ((q1:List dR).length*2))]) (λs=>.c 0 (.sl none 2 (map eU p0)) (.c 5 (ow tg0 2 (map eU q1)) (.c 6 (nZ q2) (.c 7 (nZ r1) (.c 65 (.sc (.bool s)) .nil))))) (λx m=> ?_) ?_))
 refine v (vq (by kernel_rfl) (bV (vK AK t0 rfl) ?_))
 apply vi m<;>intro b1 m
 rw[b1]
 obtain⟨_,X1,m⟩:=aC m
 exact bV (T1 X1 pP t0 rfl rfl) (vx m pP rfl rfl λ_ _ m=>bV (GT rfl rfl rfl trivial) (lE m))
 rw[b1]
 exact lE m
 rintro _ j1 m
 refine v ?_
 apply vi m<;>intro c4 m
 refine v (v (gM m λm=> ?_))
 cases m
 exact vr λu=>dW.of2 (.inl rfl) (gK _ _ (.sc (.slice _ _ _)) rfl) (gK _ _ (.sc (.int _ _)) rfl) (aU (nil_sublist _) u).1 (bC _) (bD.refl _ _) ⟨rfl,rfl⟩
 refine v (v (v (vz [] mixed (λu=>trivial) λu=>zC 0 rfl (fC (.sc (.slice _ _ _)) rfl) (zC 1 rfl (fC (ow _ _ _) rfl) (zI 2 rfl rfl ?_)))))
 obtain⟨_,X2,m⟩:=aC m
 refine zC 3 rfl (CN X2 pP rfl t0 rfl rfl rfl) (zC 5 rfl (fC (.sl _ _ _) rfl) (zI 6 rfl rfl ?_))
 obtain⟨x0,X3,m⟩:=aC m
 refine zC 7 rfl (l4 X3 pP rfl rfl) (zC 8 rfl (nG NG rfl rfl) (zC 9 rfl (mJ (.sc (.string x0.Path)) IT rfl rfl) (zC 10 rfl (fC (.sl _ _ _) rfl) (zI 11 rfl rfl ?_))))
 obtain⟨x1,X4,m⟩:=aC m
 refine zC 12 rfl (l4 X4 pP rfl rfl) (zC 13 rfl (nG NH rfl rfl) (zC 14 rfl (mJ (.sl none 1 (map gG x1.Data)) oB rfl rfl) ?_))
 obtain⟨z0,Z0,m⟩:=aC m
 refine zE 4 rfl (oQ (c:=eU) Z0 RW rfl rfl u nofun (qO (sX X2 t0)) λtg1 t1 K0=>⟨trivial, ?_⟩)
 obtain⟨y0,Y0,m⟩:=aC m
 refine zC 15 rfl (bW (N4 _ Y0) rfl FD rfl) (zC 16 rfl (eQ (eU ({ Path:=x0.Path,Data:=y0}:dR)) aGB rfl) (zC 17 rfl (eJ (map eU ([({ Path:=x0.Path,Data:=y0}:dR)]:List dR)) RW rfl rfl rfl rfl) ?_))
 obtain⟨z1,Z1,m⟩:=aC m
 refine zE 18 rfl (fK (c:=eU) 0 Z1 RW rfl rfl rfl t1 K0 rfl λtg2 t2 K1=>⟨trivial, ?_⟩)
 refine zC 19 rfl (iJ (ow _ _ _) rfl) (zX (qk (f:=.c 8 _ (T5 84 _ _ _ _ (.c 70 _ (aAH 80 _ _ _ _ _ _ _ _ _ _ (T5 69 _ _ _ _ _))))) K1 rfl (v ?_)))
 obtain⟨_,X5,m⟩:=aC m
 refine bV (CN X5 pP rfl t0 rfl rfl rfl) ?_
 obtain⟨z2,Z2,m⟩:=aC m
 exact ve λu=>fK (c:=eU) 0 Z2 RW rfl rfl rfl t2 u (qO (sX X5 t0)) λtg3 t3 K2=>qk K2 rfl (v (eF m tg3 t3 (mG [0] rfl rfl (.k3 .nil))))
 exact v (lF m tg0 t0 (lx (.k3 .nil)))
 rintro tg4 ⟨r2,r3⟩ t4 m
 refine v (v ?_)
 cases m
 exact vr λu=>dW.of2 (.inl rfl) (gK _ _ (ow _ _ _) rfl) (gK _ _ (.sc (.int _ _)) rfl) (aU (nil_sublist _) u).1 ((eB _ 0 t4 u rfl)) (bD.refl _ _) ⟨rfl,rfl⟩
theorem aI9:aP prog 85=true:=by kernel_rfl
def XJ (m:Nat):Option ((Ar 64)):=
 some (⟨[1116352408,1899447441,3049323471,3921009573,961987163,1508970993,2453635748,2870763221,3624381080,310598401,607225278,1426881987,1925078388,2162078206,2614888103,3248222580,3835390401,4022224774,264347078,604807628,770255983,1249150122,1555081692,1996064986,2554220882,2821834349,2952996808,3210313671,3336571891,3584528711,113926993,338241895,666307205,773529912,1294757372,1396182291,1695183700,1986661051,2177026350,2456956037,2730485921,2820302411,3259730800,3345764771,3516065817,3600352804,4094571909,275423344,430227734,506948616,659060556,883997877,958139571,1322822218,1537002063,1747873779,1955562222,2024104815,2227730452,2361852424,2428436474,2756734187,3204031479,3329325298],rfl⟩:Ar 64)
theorem aJA {w:Nat} {o:(Ar 64)} (h:aF) (m:XJ w=some o):
 aM prog 144 [] h (λr h'=>r= .agg (dA o)/\h'=h):=by
 refine fM 2 [.cell 0 181] Tryz.func144 rfl rfl rfl rfl ?_
 unfold XJ at m
 refine v (ve λu=>bE (dA (YP 64)) u NK rfl rfl λk2 K3=>qk K3 rfl (v (bV (CO [1116352408,1899447441,3049323471,3921009573,961987163,1508970993,2453635748,2870763221,3624381080,310598401,607225278,1426881987,1925078388,2162078206,2614888103,3248222580,3835390401,4022224774,264347078,604807628,770255983,1249150122,1555081692,1996064986,2554220882,2821834349,2952996808,3210313671,3336571891,3584528711,113926993,338241895,666307205,773529912,1294757372,1396182291,1695183700,1986661051,2177026350,2456956037,2730485921,2820302411,3259730800,3345764771,3516065817,3600352804,4094571909,275423344,430227734,506948616,659060556,883997877,958139571,1322822218,1537002063,1747873779,1955562222,2024104815,2227730452,2361852424,2428436474,2756734187,3204031479,3329325298] rfl WA rfl rfl rfl) (ve λu=>aL 0 (dA (⟨[1116352408,1899447441,3049323471,3921009573,961987163,1508970993,2453635748,2870763221,3624381080,310598401,607225278,1426881987,1925078388,2162078206,2614888103,3248222580,3835390401,4022224774,264347078,604807628,770255983,1249150122,1555081692,1996064986,2554220882,2821834349,2952996808,3210313671,3336571891,3584528711,113926993,338241895,666307205,773529912,1294757372,1396182291,1695183700,1986661051,2177026350,2456956037,2730485921,2820302411,3259730800,3345764771,3516065817,3600352804,4094571909,275423344,430227734,506948616,659060556,883997877,958139571,1322822218,1537002063,1747873779,1955562222,2024104815,2227730452,2361852424,2428436474,2756734187,3204031479,3329325298],rfl⟩:Ar 64)) u rfl rfl rfl rfl UC rfl rfl λK6=>qk K6 rfl ?_))))
 refine v ?_
 cases m
 exact vr λu=>dW.of1 (.inl rfl) (sS (.agg (dA (⟨[1116352408,1899447441,3049323471,3921009573,961987163,1508970993,2453635748,2870763221,3624381080,310598401,607225278,1426881987,1925078388,2162078206,2614888103,3248222580,3835390401,4022224774,264347078,604807628,770255983,1249150122,1555081692,1996064986,2554220882,2821834349,2952996808,3210313671,3336571891,3584528711,113926993,338241895,666307205,773529912,1294757372,1396182291,1695183700,1986661051,2177026350,2456956037,2730485921,2820302411,3259730800,3345764771,3516065817,3600352804,4094571909,275423344,430227734,506948616,659060556,883997877,958139571,1322822218,1537002063,1747873779,1955562222,2024104815,2227730452,2361852424,2428436474,2756734187,3204031479,3329325298],rfl⟩:Ar 64))) aAY rfl (a9 0 u rfl) rfl) (aU (nil_sublist _) u).1 (bD.refl _ _) ⟨rfl,rfl⟩
theorem aDS:aP prog 144=true:=by kernel_rfl
def xC (m:Nat) (q0:List Int):Option (Lp ((List Int)) ((List Int))):=
 if (((wrap .i64 ((q0.length:Int)+8)).tmod 64) !=0)then ((app q0 ([0]:List Int)).bind λz0=>Gk z0) else Bk q0
def xD (m:Nat) (p0:List Int) (q0:List Int) (q1:Int):Option (Lp ((List Int)×Int) ((List Int))):=
 if decide (0<=q1) then (grd (decide (0<=(wrap .u64 (8*(wrap .u64 q1))))) <| (app q0 ([wrap .u8 ((wrap .u64 ((wrap .u64 (p0.length:Int))*8)).fdiv (2 ^ (min ((wrap .u64 (8*(wrap .u64 q1))):Int).toNat (IntKind.bits .u64))))]:List Int)).bind λz0=>Gk (z0,wrap .i64 (q1 - 1))) else Bk (q0,q1)
def PF (m:Nat) (p0:List Int):Option ((List Int)):=
 (app ([]:List Int) p0).bind λz4=>(app z4 ([128]:List Int)).bind λz0=>after (aT (λs=>xC m s) m z0) λr0=>after (aT (λs=>xD m p0 s.1 s.2) m (r0,7)) λ⟨r1,r2⟩=>some r1
theorem aJB {w:Nat} {p0:List Int} {o:(List Int)} (h:aF) (m:PF w p0=some o):
 aM prog 145 [.sl none 1 (map gG p0)] h (λr h'=>r= .sl none 1 (map gG o)/\h'=h):=by
 refine fM 37 [.tmp 2] Tryz.func145 rfl rfl rfl rfl ?_
 unfold PF at m
 refine v (v (v ?_))
 obtain⟨z4,Z5,m⟩:=aC m
 refine ve λu=>oQ (c:=gG) Z5 yH rfl rfl u nofun rfl λtg6 t7 K8=>qk K8 rfl (bV (eJ (map gG ([128]:List Int)) yH rfl rfl rfl rfl) ?_)
 obtain⟨z0,Z0,m⟩:=aC m
 refine ve λu=>fK (c:=gG) 0 Z0 yH rfl rfl rfl t7 u rfl λtg0 t0 K0=>qk K0 rfl (vs (nE m (σ:=(List Int)) (τ:=Option bX) (λg s=>[(g,.tok 5 1 ((s:List Int).length*1))]) (λg s=>(g=none->s= [])) (λg s=>.c 0 (.sl none 1 (map gG p0)) (.c 3 (ow g 1 (map gG s)) .nil)) tg0 t0 (lx (.k2 .nil)) ?_ ?_))
 rintro tg1 q0 x t1 m
 replace m:xC w q0=some x:=m
 unfold xC at m
 refine v (bV (vK n4 t1 rfl) (v ?_))
 apply vi m<;>intro c0 m
 refine v (v (v (bV (eJ (map gG ([0]:List Int)) yH rfl rfl rfl rfl) ?_)))
 obtain⟨z1,Z1,m⟩:=aC m
 exact ve λu=>fK (c:=gG) 0 Z1 yH rfl rfl rfl t1 u rfl λtg2 t2 K1=>qk K1 rfl (eF m tg2 t2 (lx (.k2 .nil)))
 exact v (lF m tg1 t1 (lx (.k2 .nil)))
 rintro tg3 r0 t3 m
 refine v (dI n4 rfl (v (nE m (σ:=(List Int)×Int) (τ:=Option bX) (λg s=>[(g,.tok 5 1 ((s.1:List Int).length*1))]) (λg s=>(g=none->s.1= [])) (λg s=>.c 3 (ow g 1 (map gG s.1)) (.c 4 (.sc (.int .u64 (wrap .u64 ((wrap .u64 (p0.length:Int))*8)))) (.c 5 (nZ s.2) .nil))) tg3 t3 (lx (.k3 .nil)) ?_ ?_)))
 rintro tg4 ⟨q1,q2⟩ x t4 m
 replace m:xD w p0 q1 q2=some x:=m
 unfold xD at m
 refine v (v ?_)
 apply vi m<;>intro c1 m
 refine v (v (v (YQ m λ_ m=>bV (eJ (map gG ([wrap .u8 ((wrap .u64 ((wrap .u64 (p0.length:Int))*8)).fdiv (2 ^ (min ((wrap .u64 (8*(wrap .u64 q2))):Int).toNat (IntKind.bits .u64))))]:List Int)) yH rfl rfl rfl rfl) ?_)))
 obtain⟨z2,Z2,m⟩:=aC m
 exact ve λu=>fK (c:=gG) 0 Z2 yH rfl rfl rfl t4 u rfl λtg5 t5 K2=>qk K2 rfl (v (eF m tg5 t5 (lx (.k3 .nil))))
 exact v (lF m tg4 t4 (lx (.k3 .nil)))
 rintro tg7 ⟨r1,r2⟩ t6 m
 refine v (v ?_)
 obtain rfl:=eT m
 exact vr λu=>dW.of1 (.inl rfl) (gK _ _ (ow _ _ _) rfl) (aU (nil_sublist _) u).1 ((eB _ 0 t6 u rfl)) ⟨rfl,rfl⟩
theorem aDT:aP prog 145=true:=by kernel_rfl
def uV (m:Nat) (p0:Int) (p1:Int):Option (Int):=
 grd (decide (0<=p1)) <| grd (decide (0<=(wrap .u64 (32 - p1)))) <| some (cF .or .u32 (p0.fdiv (2 ^ (min (p1:Int).toNat (IntKind.bits .u32)))) (wrap .u32 (p0*2 ^ (min ((wrap .u64 (32 - p1)):Int).toNat (IntKind.bits .u32)))))
theorem AU {u:Nat} {p0:Int} {p1:Int} {o:Int} (h:aF) (m:uV u p0 p1=some o):
 aM prog 146 [.sc (.int .u32 p0),.sc (.int .u64 p1)] h (λr h'=>r= .sc (.int .u32 o)/\h'=h):=by
 refine fM 13 [.tmp 4] Tryz.func146 rfl rfl rfl rfl ?_
 unfold uV at m
 refine v (v (YQ m λ_ m=>YQ m λ_ m=>v ?_))
 cases m
 exact eI rfl
theorem rE:aP prog 146=true:=by kernel_rfl
def DF (m:Nat) (y0:(List Int)) (q0:Int) (q1:Int) (q2:Ar 64) (q3:Int):Option (Lp ((Ar 64)×Int) (Lp ((Ar 64)) (Lp ((Ar 64)×Int) (Lp ((Ar 8)×Int) (bK))))):=
 if decide (q3 < 4) then ((ix q2.1 q1).bind λx0=>(ix y0 (wrap .i64 ((wrap .i64 (q0+(wrap .i64 (4*q1))))+q3))).bind λx1=>(ix q2.1 q1).bind λ_=>Gk (T4 q2 q1.toNat (cF .or .u32 (wrap .u32 (x0*2 ^ (min (8:Int).toNat (IntKind.bits .u32)))) (wrap .u32 x1)),wrap .i64 (q3+1))) else Bk (q2,q3)
def DG (m:Nat) (y0:(List Int)) (q0:Int) (q1:Ar 64) (q2:Int):Option (Lp ((Ar 64)×Int) (Lp ((Ar 8)×Int) (bK))):=
 if decide (q2 < 64) then (after (if decide (q2 < 16) then (after (aT (λs=>DF m y0 q0 q2 s.1 s.2) m (q1,0)) λ⟨r0,r1⟩=>Bk r0) else (ix q1.1 (wrap .i64 (q2 - 15))).bind λx0=>(ix q1.1 (wrap .i64 (q2 - 2))).bind λx1=>(ix q1.1 (wrap .i64 (q2 - 16))).bind λx2=>(ix q1.1 (wrap .i64 (q2 - 7))).bind λx3=>(uV m x0 7).bind λy1=>(uV m x0 18).bind λy2=>(uV m x1 17).bind λy3=>(uV m x1 19).bind λy4=>(ix q1.1 q2).bind λ_=>Bk (T4 q1 q2.toNat (wrap .u32 ((wrap .u32 ((wrap .u32 (x2+x3))+(cF .xor .u32 (cF .xor .u32 y1 y2) (x0.fdiv (2 ^ (min (3:Int).toNat (IntKind.bits .u32)))))))+(cF .xor .u32 (cF .xor .u32 y3 y4) (x1.fdiv (2 ^ (min (10:Int).toNat (IntKind.bits .u32)))))))):Option (Lp ((Ar 64)) (Lp ((Ar 64)×Int) (Lp ((Ar 8)×Int) (bK))))) λj0=>Gk (j0,wrap .i64 (q2+1))) else Bk (q1,q2)
def DH (m:Nat) (y6:(Ar 64)) (r0:Ar 64) (q0:Ar 8) (q1:Int):Option (Lp ((Ar 8)×Int) (Lp ((Ar 8)×Int) (bK))):=
 if decide (q1 < 64) then ((ix q0.1 0).bind λx0=>(ix q0.1 4).bind λx1=>(ix q0.1 7).bind λx2=>(uV m x1 6).bind λy0=>(uV m x1 11).bind λy1=>(uV m x1 25).bind λy2=>(ix q0.1 5).bind λx3=>(ix q0.1 6).bind λx4=>(ix y6.1 q1).bind λx5=>(ix r0.1 q1).bind λx6=>(uV m x0 2).bind λy3=>(uV m x0 13).bind λy4=>(uV m x0 22).bind λy5=>(ix q0.1 1).bind λx7=>(ix q0.1 2).bind λx8=>(ix q0.1 1).bind λx9=>(ix q0.1 2).bind λx10=>(ix q0.1 0).bind λx11=>(ix q0.1 1).bind λx12=>(ix q0.1 2).bind λx13=>(ix q0.1 3).bind λx14=>(ix q0.1 4).bind λx15=>(ix q0.1 5).bind λx16=>(ix q0.1 6).bind λx17=>Gk ((⟨[wrap .u32 ((wrap .u32 ((wrap .u32 ((wrap .u32 ((wrap .u32 (x2+(cF .xor .u32 (cF .xor .u32 y0 y1) y2)))+(cF .xor .u32 (cF .and .u32 x1 x3) (cF .and .u32 (cF .xor .u32 (IntKind.max .u32) x1) x4))))+x5))+x6))+(wrap .u32 ((cF .xor .u32 (cF .xor .u32 y3 y4) y5)+(cF .xor .u32 (cF .xor .u32 (cF .and .u32 x0 x7) (cF .and .u32 x0 x8)) (cF .and .u32 x9 x10))))),x11,x12,x13,wrap .u32 (x14+(wrap .u32 ((wrap .u32 ((wrap .u32 ((wrap .u32 (x2+(cF .xor .u32 (cF .xor .u32 y0 y1) y2)))+(cF .xor .u32 (cF .and .u32 x1 x3) (cF .and .u32 (cF .xor .u32 (IntKind.max .u32) x1) x4))))+x5))+x6))),x15,x16,x17],rfl⟩:Ar 8),wrap .i64 (q1+1))) else Bk (q0,q1)
def DI (m:Nat) (r0:Ar 8) (q0:Ar 8) (q1:Int):Option (Lp ((Ar 8)×Int) (Lp ((Ar 8)×Int) (bK))):=
 if decide (q1 < 8) then ((ix q0.1 q1).bind λx0=>(ix r0.1 q1).bind λx1=>(ix q0.1 q1).bind λ_=>Gk (T4 q0 q1.toNat (wrap .u32 (x0+x1)),wrap .i64 (q1+1))) else Bk (q0,q1)
def DJ (m:Nat) (y6:(Ar 64)) (y0:(List Int)) (q0:Ar 8) (q1:Int):Option (Lp ((Ar 8)×Int) (bK)):=
 if decide (q1 < (y0.length:Int)) then (after (aT (λs=>DG m y0 q1 s.1 s.2) m ((YP 64),0)) λ⟨r0,r1⟩=>after (aT (λs=>DH m y6 r0 s.1 s.2) m (q0,0)) λ⟨r2,r3⟩=>after (aT (λs=>DI m r2 s.1 s.2) m (q0,0)) λ⟨r4,r5⟩=>Gk (r4,wrap .i64 (q1+64))) else Bk (q0,q1)
def xE (m:Nat) (r0:Ar 8) (q0:bK) (q1:Int):Option (Lp (bK×Int) (bK)):=
 if decide (q1 < 32) then ((ix r0.1 (wrap .i64 (q1.tdiv 4))).bind λx0=>grd (decide (0<=(wrap .u64 (wrap .i64 (24 - (wrap .i64 (8*(q1.tmod 4)))))))) <| (ix q0.1 q1).bind λ_=>Gk (T4 q0 q1.toNat (wrap .u8 (x0.fdiv (2 ^ (min ((wrap .u64 (wrap .i64 (24 - (wrap .i64 (8*(q1.tmod 4)))))):Int).toNat (IntKind.bits .u32))))),wrap .i64 (q1+1))) else Bk (q0,q1)
def ZC (m:Nat) (p0:List Int):Option (bK):=
 (XJ m).bind λy6=>(PF m p0).bind λy0=>after (aT (λs=>DJ m y6 y0 s.1 s.2) m ((⟨[1779033703,3144134277,1013904242,2773480762,1359893119,2600822924,528734635,1541459225],rfl⟩:Ar 8),0)) λ⟨r0,r1⟩=>after (aT (λs=>xE m r0 s.1 s.2) m (iC,0)) λ⟨r2,r3⟩=>some r2
theorem W87 {w:Nat} {p0:List Int} {o:bK} (h:aF) (m:ZC w p0=some o):
 aM prog 87 [.sl none 1 (map gG p0)] h (λr h'=>r= .agg (bF o)/\h'=h):=by
 refine fM 208 [.cell 2 36] Tryz.func87 rfl rfl rfl rfl ?_
 unfold ZC at m
 refine v (ve λu=>bE (bF iC) u M4 rfl rfl λk2 K3=>qk K3 rfl (v (vk aJA aDS m rfl rfl λy6 m=>ve λu=>bE (dA (YP 64)) u NK rfl rfl λk8 K9=>qk K9 rfl (ve λu=>aL 0 (dA y6) u rfl rfl rfl rfl UC rfl rfl λK0=>qk K0 rfl (v (bV (CO [1779033703,3144134277,1013904242,2773480762,1359893119,2600822924,528734635,1541459225] rfl NM rfl rfl rfl) (ve λu=>bE (eD (YP 8)) u UD rfl rfl λk13 K1=>qk K1 rfl (ve λu=>aL 0 (eD (⟨[1779033703,3144134277,1013904242,2773480762,1359893119,2600822924,528734635,1541459225],rfl⟩:Ar 8)) u rfl rfl rfl rfl NL rfl rfl λK2=>qk K2 rfl (v (vk aJB aDT m rfl rfl λy0 m=>v (jT m (σ:=(Ar 8)×Int) (λs=>[(some k13,.obj 183 (eD s.1)),(some k8,.obj 181 (dA y6)),(some k2,.obj 36 (bF iC))]) (λs=>.c 2 (.ptr k2 0) (.c 3 (.ptr k8 0) (.c 4 (.ptr k13 0) (.c 5 (.sl none 1 (map gG y0)) (.c 6 (nZ s.2) .nil))))) (lx (.k5 .nil)) ?_ ?_)))))))))))
 rintro _ ⟨q0,q1⟩ x m
 replace m:DJ w y6 y0 q0 q1=some x:=m
 unfold DJ at m
 refine v (dI n4 rfl (v ?_))
 apply vi m<;>intro c0 m
 refine v (v (v (ve λu=>bE (dA (YP 64)) u NK rfl rfl λk1783 K4=>qk K4 rfl (v (jT m (σ:=(Ar 64)×Int) (λs=>[(some k1783,.obj 181 (dA s.1)),(some k13,.obj 183 (eD q0)),(some k8,.obj 181 (dA y6)),(some k2,.obj 36 (bF iC))]) (λs=>.c 2 (.ptr k2 0) (.c 3 (.ptr k8 0) (.c 4 (.ptr k13 0) (.c 5 (.sl none 1 (map gG y0)) (.c 6 (nZ q1) (.c 7 (.ptr k1783 0) (.c 8 (nZ s.2) .nil))))))) (lx (.k7 .nil)) ?_ ?_)))))
 rintro _ ⟨q2,q3⟩ x m
 replace m:DG w y0 q1 q2 q3=some x:=m
 unfold DG at m
 refine v (v ?_)
 apply vi m<;>intro c1 m
 refine v (vs (fP m (σ:=(Ar 64)) (λs=>[(some k1783,.obj 181 (dA s)),(some k13,.obj 183 (eD q0)),(some k8,.obj 181 (dA y6)),(some k2,.obj 36 (bF iC))]) (λs=>.c 2 (.ptr k2 0) (.c 3 (.ptr k8 0) (.c 4 (.ptr k13 0) (.c 5 (.sl none 1 (map gG y0)) (.c 6 (nZ q1) (.c 7 (.ptr k1783 0) (.c 8 (nZ q3) .nil))))))) (λx m=> ?_) ?_))
 refine v (v (v ?_))
 apply vi m<;>intro c2 m
 refine v (jT m (σ:=(Ar 64)×Int) (λs=>[(some k1783,.obj 181 (dA s.1)),(some k13,.obj 183 (eD q0)),(some k8,.obj 181 (dA y6)),(some k2,.obj 36 (bF iC))]) (λs=>.c 2 (.ptr k2 0) (.c 3 (.ptr k8 0) (.c 4 (.ptr k13 0) (.c 5 (.sl none 1 (map gG y0)) (.c 6 (nZ q1) (.c 7 (.ptr k1783 0) (.c 8 (nZ q3) (.c 9 (nZ s.2) .nil)))))))) (lx (.k8 .nil)) ?_ ?_)
 rintro _ ⟨q4,q5⟩ x m
 replace m:DF w y0 q1 q3 q4 q5=some x:=m
 unfold DF at m
 refine v (v ?_)
 apply vi m<;>intro c3 m
 refine v (v (v (vz [(17,some k1783,.obj 181 (dA q4))] mixed (λu=>⟨λ_=>aN 0 u rfl,trivial⟩) λu=>zI 0 rfl rfl (zI 1 rfl rfl ?_))))
 obtain⟨x0,X0,m⟩:=aC m
 refine zC 2 rfl (dZ (y:=q4) X0 tE rfl rfl) (w6 3 rfl (λ_ _ hi hB=>eO (y:=q4) 0 X0 iR rfl (At.s (fS.get 0 hi rfl (hB 17 (by kernel_rfl)))) (eP _)) (zC 4 rfl (U8 rfl rfl rfl (by decide)) (zC 5 rfl (fC (.sl _ _ _) rfl) (zI 6 rfl rfl (zI 7 rfl rfl (zC 8 rfl (mW rfl rfl rfl trivial) (zC 9 rfl (mW rfl rfl rfl trivial) (zI 10 rfl rfl (zC 11 rfl (mW rfl rfl rfl trivial) ?_)))))))))
 obtain⟨x1,X1,m⟩:=aC m
 refine zC 12 rfl (l4 X1 M8 rfl rfl) (zC 13 rfl (mJ (.sc (.int .u8 x1)) ES rfl rfl) (zC 14 rfl (RE ti5 aAX rfl) (zC 15 rfl (mW rfl rfl rfl trivial) ?_)))
 obtain⟨_,X2,m⟩:=aC m
 refine zC 16 rfl (dZ (y:=q4) X2 tE rfl rfl) (zE 17 rfl (w5 (y:=q4) (v:=cF .or .u32 (wrap .u32 (x0*2 ^ (min (8:Int).toNat (IntKind.bits .u32)))) (wrap .u32 x1)) 0 u X2 rfl rfl rfl NJ λK5=>⟨⟨λe=>absurd e (by decide),trivial⟩, ?_⟩))
 exact zX (qk (f:=AE 57 _ _ _ _ _ _ _ _ _ _ _ _ _ _ _ _ _ _) K5 rfl (v (MY m)))
 exact v (bq8 m)
 rintro _ ⟨r0,r1⟩ m
 exact v (CR m)
 refine v (v (vq (by kernel_rfl) ?_))
 obtain⟨x2,X3,m⟩:=aC m
 refine bV (dZ (y:=q2) X3 tE rfl rfl) (vn (λu=>eO (y:=q2) 0 X3 iR rfl (a9 0 u rfl) (eP _)) ?_)
 obtain⟨x3,X4,m⟩:=aC m
 refine bV (dZ (y:=q2) X4 tE rfl rfl) (vn (λu=>eO (y:=q2) 0 X4 iR rfl (a9 0 u rfl) (eP _)) (v (vz [(29,some k1783,.obj 181 (dA q2))] mixed (λu=>⟨λ_=>aN 0 u rfl,trivial⟩) λu=>zI 0 rfl rfl (zI 1 rfl rfl (zC 2 rfl (mW rfl rfl rfl trivial) ?_)))))
 obtain⟨x4,X5,m⟩:=aC m
 refine zC 3 rfl (dZ (y:=q2) X5 tE rfl rfl) (w6 4 rfl (λ_ _ hi hB=>eO (y:=q2) 0 X5 iR rfl (At.s (fS.get 0 hi rfl (hB 29 (by kernel_rfl)))) (eP _)) (zI 5 rfl rfl (zC 6 rfl (mW rfl rfl rfl trivial) ?_)))
 obtain⟨x5,X6,m⟩:=aC m
 refine zC 7 rfl (dZ (y:=q2) X6 tE rfl rfl) (w6 8 rfl (λ_ _ hi hB=>eO (y:=q2) 0 X6 iR rfl (At.s (fS.get 0 hi rfl (hB 29 (by kernel_rfl)))) (eP _)) (zC 9 rfl (mW rfl rfl rfl trivial) (zI 10 rfl rfl ?_)))
 obtain⟨y1,Y0,m⟩:=aC m
 refine zC 11 rfl (bW (AU _ Y0) rfl rE rfl) (zI 12 rfl rfl ?_)
 obtain⟨y2,Y1,m⟩:=aC m
 refine zC 13 rfl (bW (AU _ Y1) rfl rE rfl) (zC 14 rfl (mW rfl rfl rfl trivial) (zI 15 rfl rfl (zC 16 rfl (U8 rfl rfl rfl (by decide)) (zC 17 rfl (mW rfl rfl rfl trivial) (zC 18 rfl (mW rfl rfl rfl trivial) (zI 19 rfl rfl ?_))))))
 obtain⟨y3,Y2,m⟩:=aC m
 refine zC 20 rfl (bW (AU _ Y2) rfl rE rfl) (zI 21 rfl rfl ?_)
 obtain⟨y4,Y3,m⟩:=aC m
 refine zC 22 rfl (bW (AU _ Y3) rfl rE rfl) (zC 23 rfl (mW rfl rfl rfl trivial) (zI 24 rfl rfl (zC 25 rfl (U8 rfl rfl rfl (by decide)) (zC 26 rfl (mW rfl rfl rfl trivial) (zC 27 rfl (mW rfl rfl rfl trivial) ?_)))))
 obtain⟨_,X7,m⟩:=aC m
 refine zC 28 rfl (dZ (y:=q2) X7 tE rfl rfl) (zE 29 rfl (w5 (y:=q2) (v:=wrap .u32 ((wrap .u32 ((wrap .u32 (x4+x5))+(cF .xor .u32 (cF .xor .u32 y1 y2) (x2.fdiv (2 ^ (min (3:Int).toNat (IntKind.bits .u32)))))))+(cF .xor .u32 (cF .xor .u32 y3 y4) (x3.fdiv (2 ^ (min (10:Int).toNat (IntKind.bits .u32))))))) 0 u X7 rfl rfl rfl NJ λK6=>⟨⟨λe=>absurd e (by decide),trivial⟩, ?_⟩))
 exact zX (qk (f:=aFR 94 _ _ _ _ _ _ _ _ _ _ _ _ _ _ _ _ _ _ _ _ _ _ _ _ _ _ _ _ _ _) K6 rfl (CR m))
 rintro _ j0 m
 exact v (CR m)
 exact v (bq7 m)
 rintro _ ⟨r2,r3⟩ m
 refine v (vl 1 (.agg (eD q0)) aAZ rfl rfl rfl (ve λu=>bE (eD (YP 8)) u UD rfl rfl λk2413 K7=>qk K7 rfl (ve λu=>aL 0 (eD q0) u rfl rfl rfl rfl NL rfl rfl λK8=>qk K8 rfl (v (jT m (σ:=(Ar 8)×Int) (λs=>[(some k2413,.obj 183 (eD s.1)),(some k1783,.obj 181 (dA r2)),(some k13,.obj 183 (eD q0)),(some k8,.obj 181 (dA y6)),(some k2,.obj 36 (bF iC))]) (λs=>.c 2 (.ptr k2 0) (.c 3 (.ptr k8 0) (.c 4 (.ptr k13 0) (.c 5 (.sl none 1 (map gG y0)) (.c 6 (nZ q1) (.c 7 (.ptr k1783 0) (.c 12 (.ptr k2413 0) (.c 13 (nZ s.2) .nil)))))))) (lx (.k8 .nil)) ?_ ?_)))))
 rintro _ ⟨q6,q7⟩ x m
 replace m:DH w y6 r2 q6 q7=some x:=m
 unfold DH at m
 refine v (v ?_)
 apply vi m<;>intro c4 m
 refine v (v (v (vq (by kernel_rfl) ?_)))
 obtain⟨x6,X8,m⟩:=aC m
 refine bV (dZ (y:=q6) X8 kL rfl rfl) (vn (λu=>eO (y:=q6) 0 X8 iR rfl (a9 0 u rfl) (eP _)) ?_)
 obtain⟨x7,X9,m⟩:=aC m
 refine bV (dZ (y:=q6) X9 kL rfl rfl) (vn (λu=>eO (y:=q6) 0 X9 iR rfl (a9 0 u rfl) (eP _)) (v (vq (by kernel_rfl) ?_)))
 obtain⟨x8,X10,m⟩:=aC m
 refine bV (dZ (y:=q6) X10 kL rfl rfl) (vn (λu=>eO (y:=q6) 0 X10 iR rfl (a9 0 u rfl) (eP _)) (vk AU rE m rfl rfl λy5 m=>vk AU rE m rfl rfl λy7 m=>vk AU rE m rfl rfl λy8 m=> ?_))
 obtain⟨x9,X11,m⟩:=aC m
 refine bV (dZ (y:=q6) X11 kL rfl rfl) (vn (λu=>eO (y:=q6) 0 X11 iR rfl (a9 0 u rfl) (eP _)) (bV (aAD rfl rfl) ?_))
 obtain⟨x10,X12,m⟩:=aC m
 refine bV (dZ (y:=q6) X12 kL rfl rfl) (vn (λu=>eO (y:=q6) 0 X12 iR rfl (a9 0 u rfl) (eP _)) ?_)
 obtain⟨x11,X13,m⟩:=aC m
 refine bV (dZ (y:=y6) X13 tE rfl rfl) (vn (λu=>eO (y:=y6) 0 X13 iR rfl (a9 3 u rfl) (eP _)) ?_)
 obtain⟨x12,X14,m⟩:=aC m
 refine bV (dZ (y:=r2) X14 tE rfl rfl) (vn (λu=>eO (y:=r2) 0 X14 iR rfl (a9 1 u rfl) (eP _)) (v (vq (by kernel_rfl) (vk AU rE m rfl rfl λy9 m=>vk AU rE m rfl rfl λy10 m=>vk AU rE m rfl rfl λy11 m=> ?_))))
 obtain⟨x13,X15,m⟩:=aC m
 refine bV (dZ (y:=q6) X15 kL rfl rfl) (vn (λu=>eO (y:=q6) 0 X15 iR rfl (a9 0 u rfl) (eP _)) ?_)
 obtain⟨x14,X16,m⟩:=aC m
 refine bV (dZ (y:=q6) X16 kL rfl rfl) (vn (λu=>eO (y:=q6) 0 X16 iR rfl (a9 0 u rfl) (eP _)) ?_)
 obtain⟨x15,X17,m⟩:=aC m
 refine bV (dZ (y:=q6) X17 kL rfl rfl) (vn (λu=>eO (y:=q6) 0 X17 iR rfl (a9 0 u rfl) (eP _)) ?_)
 obtain⟨x16,X18,m⟩:=aC m
 refine bV (dZ (y:=q6) X18 kL rfl rfl) (vn (λu=>eO (y:=q6) 0 X18 iR rfl (a9 0 u rfl) (eP _)) (v ?_))
 obtain⟨x17,X19,m⟩:=aC m
 refine bV (dZ (y:=q6) X19 kL rfl rfl) (vn (λu=>eO (y:=q6) 0 X19 iR rfl (a9 0 u rfl) (eP _)) ?_)
 obtain⟨x18,X20,m⟩:=aC m
 refine bV (dZ (y:=q6) X20 kL rfl rfl) (vn (λu=>eO (y:=q6) 0 X20 iR rfl (a9 0 u rfl) (eP _)) ?_)
 obtain⟨x19,X21,m⟩:=aC m
 refine bV (dZ (y:=q6) X21 kL rfl rfl) (vn (λu=>eO (y:=q6) 0 X21 iR rfl (a9 0 u rfl) (eP _)) ?_)
 obtain⟨x20,X22,m⟩:=aC m
 refine bV (dZ (y:=q6) X22 kL rfl rfl) (vn (λu=>eO (y:=q6) 0 X22 iR rfl (a9 0 u rfl) (eP _)) ?_)
 obtain⟨x21,X23,m⟩:=aC m
 refine bV (dZ (y:=q6) X23 kL rfl rfl) (vn (λu=>eO (y:=q6) 0 X23 iR rfl (a9 0 u rfl) (eP _)) ?_)
 obtain⟨x22,X24,m⟩:=aC m
 refine bV (dZ (y:=q6) X24 kL rfl rfl) (vn (λu=>eO (y:=q6) 0 X24 iR rfl (a9 0 u rfl) (eP _)) ?_)
 obtain⟨x23,X25,m⟩:=aC m
 refine bV (dZ (y:=q6) X25 kL rfl rfl) (vn (λu=>eO (y:=q6) 0 X25 iR rfl (a9 0 u rfl) (eP _)) (bV (CO [wrap .u32 ((wrap .u32 ((wrap .u32 ((wrap .u32 ((wrap .u32 (x8+(cF .xor .u32 (cF .xor .u32 y5 y7) y8)))+(cF .xor .u32 (cF .and .u32 x7 x9) (cF .and .u32 (cF .xor .u32 (IntKind.max .u32) x7) x10))))+x11))+x12))+(wrap .u32 ((cF .xor .u32 (cF .xor .u32 y9 y10) y11)+(cF .xor .u32 (cF .xor .u32 (cF .and .u32 x6 x13) (cF .and .u32 x6 x14)) (cF .and .u32 x15 x16))))),x17,x18,x19,wrap .u32 (x20+(wrap .u32 ((wrap .u32 ((wrap .u32 ((wrap .u32 (x8+(cF .xor .u32 (cF .xor .u32 y5 y7) y8)))+(cF .xor .u32 (cF .and .u32 x7 x9) (cF .and .u32 (cF .xor .u32 (IntKind.max .u32) x7) x10))))+x11))+x12))),x21,x22,x23] rfl NM rfl rfl rfl) (ve λu=>aL 0 (eD (⟨[wrap .u32 ((wrap .u32 ((wrap .u32 ((wrap .u32 ((wrap .u32 (x8+(cF .xor .u32 (cF .xor .u32 y5 y7) y8)))+(cF .xor .u32 (cF .and .u32 x7 x9) (cF .and .u32 (cF .xor .u32 (IntKind.max .u32) x7) x10))))+x11))+x12))+(wrap .u32 ((cF .xor .u32 (cF .xor .u32 y9 y10) y11)+(cF .xor .u32 (cF .xor .u32 (cF .and .u32 x6 x13) (cF .and .u32 x6 x14)) (cF .and .u32 x15 x16))))),x17,x18,x19,wrap .u32 (x20+(wrap .u32 ((wrap .u32 ((wrap .u32 ((wrap .u32 (x8+(cF .xor .u32 (cF .xor .u32 y5 y7) y8)))+(cF .xor .u32 (cF .and .u32 x7 x9) (cF .and .u32 (cF .xor .u32 (IntKind.max .u32) x7) x10))))+x11))+x12))),x21,x22,x23],rfl⟩:Ar 8)) u rfl rfl rfl rfl NL rfl rfl λK10=>qk K10 rfl ?_)))
 exact v (MY m)
 exact v (bq8 m)
 rintro _ ⟨r4,r5⟩ m
 refine v (jT m (σ:=(Ar 8)×Int) (λs=>[(some k2413,.obj 183 (eD r4)),(some k1783,.obj 181 (dA r2)),(some k13,.obj 183 (eD s.1)),(some k8,.obj 181 (dA y6)),(some k2,.obj 36 (bF iC))]) (λs=>.c 2 (.ptr k2 0) (.c 3 (.ptr k8 0) (.c 4 (.ptr k13 0) (.c 5 (.sl none 1 (map gG y0)) (.c 6 (nZ q1) (.c 12 (.ptr k2413 0) (.c 18 (nZ s.2) .nil))))))) (lx (.k7 .nil)) ?_ ?_)
 rintro _ ⟨q8,q9⟩ x m
 replace m:DI w r4 q8 q9=some x:=m
 unfold DI at m
 refine v (v ?_)
 apply vi m<;>intro c5 m
 refine v (v (v (vz [(8,some k13,.obj 183 (eD q8)),(1000000,some k2413,.obj 183 (eD r4))] mixed (λu=>⟨λ_=>aN 2 u rfl,λ_=>aN 0 u rfl,trivial⟩) λu=>zI 0 rfl rfl ?_)))
 obtain⟨x24,X26,m⟩:=aC m
 refine zC 1 rfl (dZ (y:=q8) X26 kL rfl rfl) (w6 2 rfl (λ_ _ hi hB=>eO (y:=q8) 0 X26 iR rfl (At.s (fS.get 0 hi rfl (hB 8 (by kernel_rfl)))) (eP _)) (zI 3 rfl rfl ?_))
 obtain⟨x25,X27,m⟩:=aC m
 refine zC 4 rfl (dZ (y:=r4) X27 kL rfl rfl) (w6 5 rfl (λ_ _ hi hB=>eO (y:=r4) 0 X27 iR rfl (At.s (fS.get 1 hi rfl (hB 1000000 (by kernel_rfl)))) (eP _)) (zC 6 rfl (mW rfl rfl rfl trivial) ?_))
 obtain⟨_,X28,m⟩:=aC m
 refine zC 7 rfl (dZ (y:=q8) X28 kL rfl rfl) (zE 8 rfl (w5 (y:=q8) (v:=wrap .u32 (x24+x25)) 2 u X28 rfl rfl rfl NJ λK12=>⟨⟨λe=>absurd e (by decide),λ_=>aN 0 K12 rfl,trivial⟩, ?_⟩))
 exact zX (qk (f:=T6 189 _ _ _ _ _ _ _ _ _) K12 rfl (v (CR m)))
 exact v (bq7 m)
 rintro _ ⟨r6,r7⟩ m
 exact v (z8 m (mG [2,3,4] rfl rfl (.k5 .nil)))
 exact v (YR m)
 rintro _ ⟨r8,r9⟩ m
 refine v (ve λu=>bE (bF iC) u M4 rfl rfl λk2657 K13=>qk K13 rfl (v (jT m (σ:=bK×Int) (λs=>[(some k2657,.obj 36 (bF s.1)),(some k13,.obj 183 (eD r8)),(some k8,.obj 181 (dA y6)),(some k2,.obj 36 (bF iC))]) (λs=>.c 2 (.ptr k2 0) (.c 4 (.ptr k13 0) (.c 19 (.ptr k2657 0) (.c 20 (nZ s.2) .nil)))) (lx (.k4 .nil)) ?_ ?_)))
 rintro _ ⟨q10,q11⟩ x m
 replace m:xE w r8 q10 q11=some x:=m
 unfold xE at m
 refine v (v ?_)
 apply vi m<;>intro c6 m
 refine v (v (v ?_))
 obtain⟨x26,X29,m⟩:=aC m
 refine bV (dZ (y:=r8) X29 kL rfl rfl) (vn (λu=>eO (y:=r8) 0 X29 iR rfl (a9 1 u rfl) (eP _)) (YQ m λ_ m=> ?_))
 obtain⟨_,X30,m⟩:=aC m
 exact bV (mK X30 yE rfl rfl) (ve λu=>w5 (y:=q10) (v:=wrap .u8 (x26.fdiv (2 ^ (min ((wrap .u64 (wrap .i64 (24 - (wrap .i64 (8*(q11.tmod 4)))))):Int).toNat (IntKind.bits .u32))))) 0 u X30 rfl rfl rfl sz5 λK15=>qk K15 rfl (v (fV m)))
 exact v (u0 m)
 rintro _ ⟨r10,r11⟩ m
 refine v (vl 0 (.agg (bF r10)) fF rfl rfl rfl (ve λu=>aL 3 (bF r10) u rfl rfl rfl rfl M2 rfl rfl λK17=>qk K17 rfl (v ?_)))
 obtain rfl:=eT m
 exact vr λu=>dW.of1 (.inl rfl) (sS (.agg (bF r10)) fF rfl (a9 3 u rfl) rfl) (aU (nil_sublist _) u).1 (bD.refl _ _) ⟨rfl,rfl⟩
theorem aDU:aP prog 87=true:=by kernel_rfl
def xF (m:Nat) (p0:List dR) (q0:Int):Option (Lp (Int) (Int)):=
 if decide (q0 < (p0.length:Int)) then (after ((ix p0 q0).bind λx0=>(C1 m x0.Path).bind λy0=>if (!y0)then Bk true else if decide (0 < q0) then ((ix p0 q0).bind λx1=>(ix p0 (wrap .i64 (q0 - 1))).bind λx2=>Bk (Op.bytesLess x1.Path.toList x2.Path.toList || x1.Path.toList==x2.Path.toList)) else Bk false:Option (Lp (Bool) (Lp (Int) (Int)))) λj0=>if j0 then Rk 1 else Gk (wrap .i64 (q0+1))) else Bk q0
def PG (m:Nat) (p0:List dR):Option (Int):=
 (LE m p0).bind λy4=>if y4 then (some 2) else after (aT (λs=>xF m p0 s) m 0) λr0=>some 0
theorem aJC {u:Nat} {p0:List dR} {o:Int} (h:aF) (m:PG u p0=some o):
 aM prog 142 [.sl none 2 (map eU p0)] h (λr h'=>r=nZ o/\h'=h):=by
 refine fM 37 [.tmp 2] Tryz.func142 rfl rfl rfl rfl ?_
 unfold PG at m
 refine v (v (vk aDQ UT m rfl rfl λ_ m=>v ?_))
 apply vi m<;>intro c6 m
 refine v (v ?_)
 obtain rfl:=eT m
 exact eI rfl
 refine v (v (jT m (σ:=Int) (λs=>[]) (λs=>.c 0 (.sl none 2 (map eU p0)) (.c 3 (nZ s) .nil)) (lx (.k2 .nil)) ?_ ?_))
 rintro _ q0 x m
 replace m:xF u p0 q0=some x:=m
 unfold xF at m
 refine v (dI AK rfl (v ?_))
 apply vi m<;>intro c0 m
 refine v (v (vs (fP m (σ:=Bool) (λs=>[]) (λs=>.c 0 (.sl none 2 (map eU p0)) (.c 3 (nZ q0) (.c 36 (.sc (.bool s)) .nil))) (λx m=> ?_) ?_)))
 refine v (vq (by kernel_rfl) (vx m pP rfl rfl λ_ _ m=>vk NT E6 m rfl rfl λ_ m=> ?_))
 apply vi m<;>intro b0 m
 rw[b0]
 exact hX m
 rw[b0]
 apply vi m<;>intro b1 m
 rw[b1]
 exact vx m pP rfl rfl λ_ _ m=>vx m pP rfl rfl λ_ _ m=>bV (GT rfl rfl rfl trivial) (hX m)
 rw[b1]
 exact hX m
 rintro _ j0 m
 refine v ?_
 apply vi m<;>intro c1 m
 refine v (v (gM m λm=> ?_))
 obtain rfl:=eT m
 exact eI rfl
 exact v (v (w7 m))
 exact v (LY m)
 rintro _ r0 m
 refine v (v ?_)
 obtain rfl:=eT m
 exact eI rfl
theorem aDV:aP prog 142=true:=by kernel_rfl
def xG (m:Nat) (p0:List Int) (q0:Int) (q1:Int):Option (Lp (Int×Int) (Int)):=
 if decide (q1 < (p0.length:Int)) then ((ix p0 q1).bind λx0=>after (if decide (8<=(wrap .i64 (q1+1))) then (if (((wrap .u32 ((wrap .u32 (q0*2))+(wrap .u32 ((wrap .u32 ((wrap .u32 x0)+1))*2654435761)))).fdiv (2 ^ (min (28:Int).toNat (IntKind.bits .u32))))==0)then Bk true else Bk ((wrap .i64 (q1+1))==64)) else Bk ((wrap .i64 (q1+1))==64):Option (Lp (Bool) (Lp (Int×Int) (Int)))) λj0=>if j0 then (Rk (wrap .i64 (q1+1))) else Gk (wrap .u32 ((wrap .u32 (q0*2))+(wrap .u32 ((wrap .u32 ((wrap .u32 x0)+1))*2654435761))),wrap .i64 (q1+1))) else Bk (q0,q1)
def PH (m:Nat) (p0:List Int):Option (Int):=
 after (aT (λs=>xG m p0 s.1 s.2) m (0,0)) λ⟨r0,r1⟩=>some (p0.length:Int)
theorem aJD {u:Nat} {p0:List Int} {o:Int} (h:aF) (m:PH u p0=some o):
 aM prog 184 [.sl none 1 (map gG p0)] h (λr h'=>r=nZ o/\h'=h):=by
 refine fM 38 [.tmp 2] Tryz.func184 rfl rfl rfl rfl ?_
 unfold PH at m
 refine v (v (v (jT m (σ:=Int×Int) (λs=>[]) (λs=>.c 0 (.sl none 1 (map gG p0)) (.c 3 (.sc (.int .u32 s.1)) (.c 4 (nZ s.2) .nil))) (lx (.k3 .nil)) ?_ ?_)))
 rintro _ ⟨q0,q1⟩ x m
 replace m:xG u p0 q0 q1=some x:=m
 unfold xG at m
 refine v (dI n4 rfl (v ?_))
 apply vi m<;>intro c0 m
 refine v (v (v (vx m M8 rfl rfl λx0 _ m=>vs (fP m (σ:=Bool) (λs=>[]) (λs=>.c 0 (.sl none 1 (map gG p0)) (.c 3 (.sc (.int .u32 (wrap .u32 ((wrap .u32 (q0*2))+(wrap .u32 ((wrap .u32 ((wrap .u32 x0)+1))*2654435761)))))) (.c 4 (nZ q1) (.c 33 (.sc (.bool s)) .nil)))) (λx m=> ?_) ?_))))
 refine v ?_
 apply vi m<;>intro b0 m
 rw[b0]
 apply vi m<;>intro b1 m
 rw[b1]
 exact fV m
 rw[b1]
 exact fV m
 rw[b0]
 exact fV m
 rintro _ j0 m
 refine v ?_
 apply vi m<;>intro c1 m
 refine v (v (gM m λm=> ?_))
 cases m
 exact eI rfl
 exact v (v (hX m))
 exact v (G7 m)
 rintro _ ⟨r0,r1⟩ m
 refine v (dI n4 rfl (v ?_))
 cases m
 exact eI rfl
theorem aDW:aP prog 184=true:=by kernel_rfl
def xH (m:Nat) (q0:List (List Int)) (q1:List Int):Option (Lp ((List (List Int))×(List Int)) ((List (List Int)))):=
 if decide (0 < (q1.length:Int)) then ((PH m q1).bind λy0=>(slc q1 0 y0).bind λx0=>(vZ m x0).bind λy1=>(app q0 ([y1]:List (List Int))).bind λz0=>(slc q1 y0 (q1).length).bind λx1=>Gk (z0,x1)) else Bk (q0,q1)
def PI (m:Nat) (p0:List Int):Option ((List (List Int))):=
 after (aT (λs=>xH m s.1 s.2) m ([],p0)) λ⟨r0,r1⟩=>some r0
theorem aJE {w:Nat} {p0:List Int} {o:(List (List Int))} (h:aF) (m:PI w p0=some o):
 aM prog 143 [.sl none 1 (map gG p0)] h (λr h'=>r= .sl none 1 (map iL o)/\h'=h):=by
 refine fM 21 [.tmp 2] Tryz.func143 rfl rfl rfl rfl ?_
 unfold PI at m
 refine v (v (vs (pJ (BI (.tok 41 1 (([]:List (List Int)).length*1)) 3 (ow none 1 (map iL [])) (iB _ _)) (nE m (σ:=(List (List Int))×(List Int)) (τ:=Option bX) (λg s=>[(g,.tok 41 1 ((s.1:List (List Int)).length*1))]) (λg s=>(g=none->s.1= [])) (λg s=>.c 0 (.sl none 1 (map gG s.2)) (.c 3 (ow g 1 (map iL s.1)) .nil)) none (λ_=>rfl) (lx (.k2 .nil)) ?_ ?_))))
 rintro tg0 ⟨q0,q1⟩ x t0 m
 replace m:xH w q0 q1=some x:=m
 unfold xH at m
 refine v (dI n4 rfl (v ?_))
 apply vi m<;>intro c0 m
 refine v (v (v (vk aJD aDW m rfl rfl λ_ m=>v ?_)))
 obtain⟨_,X0,m⟩:=aC m
 refine bV (pG X0 M8 rfl rfl rfl rfl) (vk N4 FD m rfl rfl λy0 m=>bV (eJ (map iL ([y0]:List (List Int))) BK rfl rfl rfl rfl) ?_)
 obtain⟨z0,Z0,m⟩:=aC m
 refine ve λu=>fK (c:=iL) 0 Z0 BK rfl rfl rfl t0 u rfl λtg1 t1 K0=>qk K0 rfl (v ?_)
 obtain⟨_,X1,m⟩:=aC m
 exact bV (pG X1 M8 rfl rfl rfl rfl) (eF m tg1 t1 (lx (.k2 .nil)))
 exact v (lF m tg0 t0 (lx (.k2 .nil)))
 rintro tg2 ⟨r0,r1⟩ t2 m
 refine v (v ?_)
 obtain rfl:=eT m
 exact vr λu=>dW.of1 (.inl rfl) (gK _ _ (ow _ _ _) rfl) (aU (nil_sublist _) u).1 ((eB _ 0 t2 u rfl)) ⟨rfl,rfl⟩
theorem aDX:aP prog 143=true:=by kernel_rfl
def DK (m:Nat) (y0:(List (List Int))) (q0:List bK) (q1:List (List Int)) (q2:List bK) (q3:Int):Option (Lp ((List bK)×(List (List Int))×(List bK)×Int) (Lp ((List dF)×(List (List Int))×(List bK)×Int) (bG×(List (List Int))×Int))):=
 if decide (q3 < (y0.length:Int)) then ((ix y0 q3).bind λx0=>(ZC m x0).bind λy1=>(app q0 ([y1]:List bK)).bind λz0=>(E7 m q2 y1).bind λy2=>after (if y2.2.2 then ((slc q1 0 y2.2.1).bind λx1=>(ix y0 q3).bind λx2=>(app ([]:List (List Int)) x1).bind λz1=>(app z1 ([x2]:List (List Int))).bind λz2=>(slc q1 y2.2.1 (q1.length:Int)).bind λx3=>(app z2 x3).bind λz3=>Bk z3) else Bk q1:Option (Lp ((List (List Int))) (Lp ((List bK)×(List (List Int))×(List bK)×Int) (Lp ((List dF)×(List (List Int))×(List bK)×Int) (bG×(List (List Int))×Int))))) λj0=>Gk (z0,j0,y2.1,wrap .i64 (q3+1))) else Bk (q0,q1,q2,q3)
def DL (m:Nat) (p1:List dR) (q0:List dF) (q1:List (List Int)) (q2:List bK) (q3:Int):Option (Lp ((List dF)×(List (List Int))×(List bK)×Int) (bG×(List (List Int))×Int)):=
 if decide (q3 < (p1.length:Int)) then ((ix p1 q3).bind λx0=>(ix p1 q3).bind λx1=>(ix p1 q3).bind λx2=>(PI m x2.Data).bind λy0=>after (aT (λs=>DK m y0 s.1 s.2.1 s.2.2.1 s.2.2.2) m ([],q1,q2,0)) λ⟨r0,r1,r2,r3⟩=>(app q0 ([({ Path:=x0.Path,Size:=(x1.Data.length:Int),Ids:=r0}:dF)]:List dF)).bind λz0=>Gk (z0,r1,r2,wrap .i64 (q3+1))) else Bk (q0,q1,q2,q3)
def M86 (m:Nat) (p0:ByteArray) (p1:List dR):Option (bG×(List (List Int))×Int):=
 (C1 m p0).bind λy7=>if (!y7)then (some (({ Name:=empty,Parts:=[]}:bG),[],1)) else (PG m p1).bind λy0=>if (y0 !=0)then (some (({ Name:=empty,Parts:=[]}:bG),[],y0)) else after (aT (λs=>DL m p1 s.1 s.2.1 s.2.2.1 s.2.2.2) m ([],[],[],0)) λ⟨r0,r1,r2,r3⟩=>some (({ Name:=p0,Parts:=r0}:bG),r1,0)
theorem W86 {w:Nat} {p0:ByteArray} {p1:List dR} {o:bG×(List (List Int))×Int} (h:aF) (m:M86 w p0 p1=some o):
 aM prog 86 [.sc (.string p0),.sl none 2 (map eU p1)] h (λr h'=>r= .tup [.agg (bP o.1),.sl none 1 (map iL o.2.1),nZ o.2.2]/\h'=h):=by
 refine fM 106 [.cell 4 58,.tmp 5,.tmp 6] Tryz.func86 rfl rfl rfl rfl ?_
 unfold M86 at m
 refine v (ve λu=>bE ([.sc (.string empty),sZ]) u NB rfl rfl λk2 K3=>qk K3 rfl (v (vk NT E6 m rfl rfl λ_ m=>v ?_)))
 apply vi m<;>intro c9 m
 refine v (bV (eQ ([.sc (.string empty),sZ]) VY rfl) (ve λu=>aL 0 ([.sc (.string empty),sZ]) u rfl rfl rfl rfl AI rfl rfl λK0=>qk K0 rfl (v ?_)))
 cases m
 exact vr λu=>dW.of3 (.inl rfl) (sS (.agg ([.sc (.string empty),sZ])) p5 rfl (a9 0 u rfl) rfl) (gK _ _ (.sc (.slice _ _ _)) rfl) (gK _ _ (.sc (.int _ _)) rfl) (aU (nil_sublist _) u).1 (bD.agg (.cons (bD.refl _ _) (.cons (bC _) .nil))) (bC _) (bD.refl _ _) ⟨rfl,rfl⟩
 refine v (v (vk aJC aDV m rfl rfl λ_ m=>v (v ?_)))
 apply vi m<;>intro c0 m
 refine v (bV (eQ ([.sc (.string empty),sZ]) VY rfl) (ve λu=>aL 0 ([.sc (.string empty),sZ]) u rfl rfl rfl rfl AI rfl rfl λK1=>qk K1 rfl (v ?_)))
 cases m
 exact vr λu=>dW.of3 (.inl rfl) (sS (.agg ([.sc (.string empty),sZ])) p5 rfl (a9 0 u rfl) rfl) (gK _ _ (.sc (.slice _ _ _)) rfl) (gK _ _ (.sc (.int _ _)) rfl) (aU (nil_sublist _) u).1 (bD.agg (.cons (bD.refl _ _) (.cons (bC _) .nil))) (bC _) (bD.refl _ _) ⟨rfl,rfl⟩
 refine v (v (bV (eQ ([.sc (.string p0),sZ]) VY rfl) (ve λu=>bE ([.sc (.string empty),sZ]) u NB rfl rfl λk21 K2=>qk K2 rfl (ve λu=>aL 0 ([.sc (.string p0),sZ]) u rfl rfl rfl rfl AI rfl rfl λK4=>qk K4 rfl (v (v (v (pJ (BI (.tok 41 1 (([]:List (List Int)).length*1)) 10 (ow none 1 (map iL [])) (iB _ _)) (pJ (leo (.tok 70 3 (([]:List dF).length*3)) 2 ([.sc (.string p0),ow none 3 (map cC [])]) rfl (.cons (bD.refl _ _) (.cons (iB (c:=cC) _ 3) .nil))) (nE m (σ:=(List dF)×(List (List Int))×(List bK)×Int) (τ:=Option bX×Option bX) (λg s=>[(g.1,.tok 70 3 ((s.1:List dF).length*3)),(g.2,.tok 41 1 ((s.2.1:List (List Int)).length*1)),(some k21,.obj 58 ([.sc (.string p0),ow g.1 3 (map cC s.1)])),(some k2,.obj 58 ([.sc (.string empty),sZ]))]) (λg s=>(g.1=none->s.1= [])/\(g.2=none->s.2.1= [])) (λg s=>.c 1 (.sl none 2 (map eU p1)) (.c 4 (.ptr k2 0) (.c 8 (.ptr k21 0) (.c 9 (.sl none 32 (map bF s.2.2.1)) (.c 10 (ow g.2 1 (map iL s.2.1)) (.c 11 (nZ s.2.2.2) .nil)))))) (none,none) (⟨(λ_=>rfl),(λ_=>rfl)⟩) (lx (.k3 (.cons (bC _) (.k2 .nil)))) ?_ ?_))))))))))
 rintro⟨tg0,tg1⟩ ⟨q0,q1,q2,q3⟩ x ⟨t0,t1⟩ m
 replace m:DL w p1 q0 q1 q2 q3=some x:=m
 unfold DL at m
 refine v (dI AK rfl (v ?_))
 apply vi m<;>intro c1 m
 refine v (v (v (vz [] mixed (λu=>trivial) λu=>zC 0 rfl (fC (.sl _ _ _) rfl) (zI 1 rfl rfl ?_))))
 obtain⟨x0,X0,m⟩:=aC m
 refine zC 2 rfl (l4 X0 pP rfl rfl) (zC 3 rfl (nG NG rfl rfl) (zC 4 rfl (mJ (.sc (.string x0.Path)) IT rfl rfl) (zC 5 rfl (fC (.sl _ _ _) rfl) (zI 6 rfl rfl ?_))))
 obtain⟨x1,X1,m⟩:=aC m
 refine zC 7 rfl (l4 X1 pP rfl rfl) (zC 8 rfl (nG NH rfl rfl) (zC 9 rfl (mJ (.sl none 1 (map gG x1.Data)) oB rfl rfl) (zC 10 rfl (xY n4 rfl) (zC 11 rfl (eQ ([.sc (.string x0.Path),nZ (x1.Data.length:Int),sZ]) aGA rfl) (zE 12 rfl (bE (ZL) u KJ rfl rfl λk2233 K5=>⟨trivial, ?_⟩))))))
 refine zE 13 rfl (aL 0 ([.sc (.string x0.Path),nZ (x1.Data.length:Int),sZ]) K5 rfl rfl rfl rfl NC rfl rfl λK6=>⟨trivial, ?_⟩)
 refine zX (qk (f:=.c 12 _ (MW 49 _ _ _ _ _ _ _ _ _ _ _ _ _)) K6 rfl (v (vx m pP rfl rfl λ_ _ m=>vk aJE aDX m rfl rfl λy0 m=>v (pJ (leo (.tok 36 32 (([]:List bK).length*32)) 1 ([.sc (.string x0.Path),nZ (x1.Data.length:Int),ow none 32 (map bF [])]) rfl (.k2 (.cons (iB (c:=bF) _ 32) .nil))) (nE m (σ:=(List bK)×(List (List Int))×(List bK)×Int) (τ:=Option bX×Option bX) (λg s=>[(g.1,.tok 36 32 ((s.1:List bK).length*32)),(some k2233,.obj 70 ([.sc (.string x0.Path),nZ (x1.Data.length:Int),ow g.1 32 (map bF s.1)])),(tg0,.tok 70 3 ((q0:List dF).length*3)),(g.2,.tok 41 1 ((s.2.1:List (List Int)).length*1)),(some k21,.obj 58 ([.sc (.string p0),ow tg0 3 (map cC q0)])),(some k2,.obj 58 ([.sc (.string empty),sZ]))]) (λg s=>(g.1=none->s.1= [])/\(g.2=none->s.2.1= [])) (λg s=>.c 1 (.sl none 2 (map eU p1)) (.c 4 (.ptr k2 0) (.c 8 (.ptr k21 0) (.c 9 (.sl none 32 (map bF s.2.2.1)) (.c 10 (ow g.2 1 (map iL s.2.1)) (.c 11 (nZ q3) (.c 12 (.ptr k2233 0) (.c 13 (.sl none 1 (map iL y0)) (.c 14 (nZ s.2.2.2) .nil))))))))) (none,tg1) (⟨(λ_=>rfl),t1⟩) (lx (.k9 .nil)) ?_ ?_)))))
 rintro⟨tg2,tg3⟩ ⟨q4,q5,q6,q7⟩ x ⟨t2,t3⟩ m
 replace m:DK w y0 q4 q5 q6 q7=some x:=m
 unfold DK at m
 refine v (dI T9 rfl (v ?_))
 apply vi m<;>intro c2 m
 refine v (v (v (vx m BJ rfl rfl λ_ _ m=>vk W87 aDU m rfl rfl λy1 m=>ve λu=>bE (bF iC) u M4 rfl rfl λk2604 K7=>qk K7 rfl (ve λu=>aL 0 (bF y1) u rfl rfl rfl rfl M2 rfl rfl λK8=>qk K8 rfl (v (vl 2 (ow tg2 32 (map bF q4)) yL rfl rfl rfl (vl 0 (.agg (bF y1)) fF rfl rfl rfl (bV (eJ (map bF ([y1]:List bK)) CY rfl rfl rfl rfl) ?_))))))))
 obtain⟨z0,Z0,m⟩:=aC m
 refine ve λu=>fK (c:=bF) 1 Z0 CY rfl rfl rfl t2 u rfl λtg4 t4 K9=>qk K9 rfl (ve λu=>aL 2 ([.sc (.string x0.Path),nZ (x1.Data.length:Int),ow tg4 32 (map bF z0)]) u rfl rfl (jN rfl) (pW _ _ _) V7 rfl rfl λK10=>qk K10 rfl (v (vl 0 (.agg (bF y1)) fF rfl rfl rfl (vk aBI UI m rfl rfl λy2 m=>v (oA m (σ:=(List (List Int))) (τ:=Option bX) (λg s=>[(some k2604,.obj 36 (bF y1)),(tg4,.tok 36 32 ((z0:List bK).length*32)),(some k2233,.obj 70 ([.sc (.string x0.Path),nZ (x1.Data.length:Int),ow tg4 32 (map bF z0)])),(tg0,.tok 70 3 ((q0:List dF).length*3)),(g,.tok 41 1 ((s:List (List Int)).length*1)),(some k21,.obj 58 ([.sc (.string p0),ow tg0 3 (map cC q0)])),(some k2,.obj 58 ([.sc (.string empty),sZ]))]) (λg s=>(g=none->s= [])) (λg s=>.c 1 (.sl none 2 (map eU p1)) (.c 4 (.ptr k2 0) (.c 8 (.ptr k21 0) (.c 10 (ow g 1 (map iL s)) (.c 11 (nZ q3) (.c 12 (.ptr k2233 0) (.c 13 (.sl none 1 (map iL y0)) (.c 14 (nZ q7) (.c 16 (.sl none 32 (map bF y2.1)) .nil))))))))) (λx m=> ?_) ?_)))))
 refine v ?_
 apply vi m<;>intro c3 m
 refine v (v (vz [] mixed (λu=>trivial) λu=>zC 0 rfl (fC (.sc (.slice _ _ _)) rfl) (zC 1 rfl (fC (ow _ _ _) rfl) (zI 2 rfl rfl ?_))))
 obtain⟨_,X2,m⟩:=aC m
 refine zC 3 rfl (CN X2 BJ rfl t3 rfl rfl rfl) (zC 5 rfl (fC (.sl _ _ _) rfl) (zI 6 rfl rfl ?_))
 obtain⟨x2,X3,m⟩:=aC m
 refine zC 7 rfl (l4 X3 BJ rfl rfl) (zC 8 rfl (mJ (.sl none 1 (map gG x2)) oB rfl rfl) (zC 9 rfl (eJ (map iL ([x2]:List (List Int))) BK rfl rfl rfl rfl) ?_))
 obtain⟨z1,Z1,m⟩:=aC m
 refine zE 4 rfl (oQ (c:=iL) Z1 BK rfl rfl u nofun (qO (sX X2 t3)) λtg5 t5 K12=>⟨trivial, ?_⟩)
 obtain⟨z2,Z2,m⟩:=aC m
 refine zE 10 rfl (fK (c:=iL) 0 Z2 BK rfl rfl rfl t5 K12 rfl λtg6 t6 K13=>⟨trivial, ?_⟩)
 refine zC 11 rfl (iJ (ow _ _ _) rfl) (zX (qk (f:=.c 19 _ (.c 91 _ (.c 85 _ (fq5 90 _ _ _ _ _ (T5 84 _ _ _ _ _))))) K13 rfl (v ?_)))
 obtain⟨_,X4,m⟩:=aC m
 refine bV (CN X4 BJ rfl t3 rfl rfl rfl) ?_
 obtain⟨z3,Z3,m⟩:=aC m
 exact ve λu=>fK (c:=iL) 0 Z3 BK rfl rfl rfl t6 u (qO (sX X4 t3)) λtg7 t7 K14=>qk K14 rfl (eF m tg7 t7 (mG [1,2,3,4,0,6,7] rfl rfl (.k9 .nil)))
 exact v (eF m tg3 t3 (lx (.k9 .nil)))
 rintro tg8 j0 t8 m
 exact v (v (eF m (tg4,tg8) ⟨t4,t8⟩ (mG [1,2,3,4,5,6] rfl rfl (.k9 .nil))))
 exact v (lF m (tg2,tg3) ⟨t2,t3⟩ (lx (.k9 .nil)))
 rintro⟨tg9,tg10⟩ ⟨r0,r1,r2,r3⟩ ⟨t9,t10⟩ m
 refine v (vl 4 (ow tg0 3 (map cC q0)) oW rfl rfl rfl (vl 1 (.agg ([.sc (.string x0.Path),nZ (x1.Data.length:Int),ow tg9 32 (map bF r0)])) EW rfl rfl rfl (ve λu=>IR (t:=100) (.agg (cC ({ Path:=x0.Path,Size:=(x1.Data.length:Int),Ids:=r0}:dF))) (aU (.cons _ (.refl _)) u).1 (bD.agg (.k2 (.cons (sP _ 0 t9 u rfl (.refl _)) .nil))) (a_v (eJ (map cC ([({ Path:=x0.Path,Size:=(x1.Data.length:Int),Ids:=r0}:dF)]:List dF)) KI rfl rfl rfl rfl) (qk ((aU (.cons _ (.refl _)) u).2) rfl ?_)))))
 obtain⟨z4,Z4,m⟩:=aC m
 exact ve λu=>fK (c:=cC) 1 Z4 KI rfl rfl rfl t0 u rfl λtg11 t11 K15=>qk K15 rfl (ve λu=>aL 3 ([.sc (.string p0),ow tg11 3 (map cC z4)]) u rfl rfl (jN rfl) (pW _ _ _) VW rfl rfl λK16=>qk K16 rfl (v (eF m (tg11,tg10) ⟨t11,t10⟩ (mG [1,2,3,4] rfl rfl (.k6 .nil)))))
 exact v (lF m (tg0,tg1) ⟨t0,t1⟩ (lx (.k6 .nil)))
 rintro⟨tg12,tg13⟩ ⟨r4,r5,r6,r7⟩ ⟨t12,t13⟩ m
 refine v (vl 2 (.agg ([.sc (.string p0),ow tg12 3 (map cC r4)])) p5 rfl rfl rfl (ve λu=>aL 3 ([.sc (.string p0),ow tg12 3 (map cC r4)]) u rfl rfl rfl (by repeat (first | exact rfl | refine cI (jO _ _ _) ?_ | refine cI (bZ _ _ _) ?_ | refine cI (gY _ _ _ _) ?_ | refine cI rfl ?_)) AI rfl rfl λK17=>qk K17 rfl ?_))
 refine v ?_
 cases m
 exact vr λu=>dW.of3 (.inl rfl) (sS (.agg ([.sc (.string p0),ow tg12 3 (map cC r4)])) p5 rfl (a9 3 u rfl) rfl) (gK _ _ (ow _ _ _) rfl) (gK _ _ (.sc (.int _ _)) rfl) (aU (nil_sublist _) u).1 (bD.agg (.cons (bD.refl _ _) (.cons ((eB _ 0 t12 u rfl)) .nil))) ((eB _ 1 t13 u rfl)) (bD.refl _ _) ⟨rfl,rfl⟩
theorem aJF:aP prog 86=true:=by kernel_rfl
def DM (m:Nat) (p0:aA) (y0:bG×(List (List Int))×Int) (q0:List aB) (q1:Int):Option (Lp ((List aB)×Int) (aW×Bool)):=
 if decide (q1 < (y0.2.1.length:Int)) then ((ix y0.2.1 q1).bind λx0=>(ZC m x0).bind λy1=>(LZ m p0 y1).bind λy2=>after (if decide (y2 < 0) then ((ix y0.2.1 q1).bind λx1=>(app q0 ([({ Id:=y1,Staged:=true,Data:=x1,Locs:=[]}:aB)]:List aB)).bind λz0=>Bk z0) else Bk q0:Option (Lp ((List aB)) (Lp ((List aB)×Int) (aW×Bool)))) λj0=>Gk (j0,wrap .i64 (q1+1))) else Bk (q0,q1)
def DN (m:Nat) (p0:aA) (p1:nJ) (q0:List aE) (q1:Int) (q2:Int):Option (Lp ((List aE)×Int×Int) (aW×Bool)):=
 after (if (decide (q2 < (wrap .i64 ((wrap .i64 ((p0.Chunks.length:Int)+(p0.Snaps.length:Int)))+(p0.Exps.length:Int)))))then (Bk (decide ((q0.length:Int) < 64))) else Bk false:Option (Lp (Bool) (Lp ((List aE)×Int×Int) (aW×Bool)))) λj0=>if j0 then (after (after (if decide (q2 < (p1.Pick.length:Int)) then ((ix p1.Pick q2).bind λx0=>Bk (!x0)) else Bk false:Option (Lp (Bool) (Lp ((List aE)×Int) (Lp ((List aE)×Int×Int) (aW×Bool))))) λj1=>if j1 then (Bk (q0,q1)) else after (if decide (q2 < (p0.Chunks.length:Int)) then ((ix p0.Chunks q2).bind λx1=>Bk { { ({ Kind:=0,Id:=iC,Seq:=0,Of:=0,Off:=q1,Len:=20}:aE) with Kind:=1} with Id:=x1.Id}) else after (if (decide (q2 < (wrap .i64 ((p0.Chunks.length:Int)+(p0.Snaps.length:Int)))))then ((ix p0.Snaps (wrap .i64 (q2 - (p0.Chunks.length:Int)))).bind λx2=>Bk { { ({ Kind:=0,Id:=iC,Seq:=0,Of:=0,Off:=q1,Len:=20}:aE) with Kind:=2} with Seq:=x2.Seq}) else (ix p0.Exps (wrap .i64 ((wrap .i64 (q2 - (p0.Chunks.length:Int))) - (p0.Snaps.length:Int)))).bind λx3=>Bk { { { ({ Kind:=0,Id:=iC,Seq:=0,Of:=0,Off:=q1,Len:=20}:aE) with Kind:=3} with Seq:=x3.Seq} with Of:=x3.Of}:Option (Lp (aE) (Lp (aE) (Lp ((List aE)×Int) (Lp ((List aE)×Int×Int) (aW×Bool)))))) λj2=>Bk j2:Option (Lp (aE) (Lp ((List aE)×Int) (Lp ((List aE)×Int×Int) (aW×Bool))))) λj3=>(app q0 ([j3]:List aE)).bind λz0=>Bk (z0,wrap .i64 (q1+20)):Option (Lp ((List aE)×Int) (Lp ((List aE)×Int×Int) (aW×Bool)))) λ⟨j4,j5⟩=>Gk (j4,j5,wrap .i64 (q2+1))) else Bk (q0,q1,q2)
def M35 (m:Nat) (p0:aA) (p1:nJ):Option (aW×Bool):=
 (MU ([wrap .u8 (wrap .u64 (97+((wrap .u64 p1.N).tmod 5)))]:List Int)).bind λst0=>grd (decide ((ByteArray.mk #[110]).size+st0.size<=9223372036854775807)) <| after (if decide (0 < (p0.Vols.length:Int)) then (grd ((wrap .u64 (p0.Vols.length:Int)) !=0) <| Bk (wrap .i64 ((wrap .u64 p1.Vol).tmod (wrap .u64 (p0.Vols.length:Int))))) else Bk 0:Option (Lp (Int) (aW×Bool))) λj0=>after (if (((wrap .u64 p1.Do).tmod 8)==0)then (Bk (((wrap .u64 p1.Do).tmod 8)==0)) else Bk (((wrap .u64 p1.Do).tmod 8)==1):Option (Lp (Bool) (aW×Bool))) λj1=>if j1 then ((M85 m p1.Tree).bind λy0=>if (y0.2 !=0)then (some (({ Kind:=0,Snap:=({ Seq:=0,Man:=({ Name:=empty,Parts:=[]}:bG),Locs:=[]}:aI),Chunks:=[],Seq:=0,Vol:=0,Items:=[]}:aW),false)) else (M86 m ((ByteArray.mk #[110])++st0) y0.1).bind λy1=>after (aT (λs=>DM m p0 y1 s.1 s.2) m ([],0)) λ⟨r0,r1⟩=>some (({ Kind:=1,Snap:=({ Seq:=p0.Seq,Man:=y1.1,Locs:=[]}:aI),Chunks:=r0,Seq:=0,Vol:=0,Items:=[]}:aW),true)) else after (if (((wrap .u64 p1.Do).tmod 8)==2)then (Bk (((wrap .u64 p1.Do).tmod 8)==2)) else Bk (((wrap .u64 p1.Do).tmod 8)==5):Option (Lp (Bool) (aW×Bool))) λj2=>if j2 then (if ((p0.Snaps.length:Int)==0)then (some (({ Kind:=0,Snap:=({ Seq:=0,Man:=({ Name:=empty,Parts:=[]}:bG),Locs:=[]}:aI),Chunks:=[],Seq:=0,Vol:=0,Items:=[]}:aW),false)) else grd ((wrap .u64 (p0.Snaps.length:Int)) !=0) <| (ix p0.Snaps (wrap .i64 ((wrap .u64 p1.N).tmod (wrap .u64 (p0.Snaps.length:Int))))).bind λx0=>if (((wrap .u64 p1.Do).tmod 8)==2)then (some (({ Kind:=2,Snap:=({ Seq:=0,Man:=({ Name:=empty,Parts:=[]}:bG),Locs:=[]}:aI),Chunks:=[],Seq:=x0.Seq,Vol:=0,Items:=[]}:aW),true)) else some (({ Kind:=3,Snap:=({ Seq:=0,Man:=({ Name:=empty,Parts:=[]}:bG),Locs:=[]}:aI),Chunks:=[],Seq:=0,Vol:=j0,Items:=([({ Kind:=3,Id:=iC,Seq:=p0.Seq,Of:=x0.Seq,Off:=13,Len:=17}:aE)]:List aE)}:aW),true)) else after (if (((wrap .u64 p1.Do).tmod 8)==3)then (Bk (((wrap .u64 p1.Do).tmod 8)==3)) else Bk (((wrap .u64 p1.Do).tmod 8)==4):Option (Lp (Bool) (aW×Bool))) λj3=>if j3 then (after (aT (λs=>DN m p0 p1 s.1 s.2.1 s.2.2) m ([],13,0)) λ⟨r2,r3,r4⟩=>some (({ Kind:=3,Snap:=({ Seq:=0,Man:=({ Name:=empty,Parts:=[]}:bG),Locs:=[]}:aI),Chunks:=[],Seq:=0,Vol:=j0,Items:=r2}:aW),decide (0 < (r2.length:Int)))) else if (((wrap .u64 p1.Do).tmod 8)==6)then (some (({ Kind:=4,Snap:=({ Seq:=0,Man:=({ Name:=empty,Parts:=[]}:bG),Locs:=[]}:aI),Chunks:=[],Seq:=0,Vol:=j0,Items:=[]}:aW),true)) else some (({ Kind:=5,Snap:=({ Seq:=0,Man:=({ Name:=empty,Parts:=[]}:bG),Locs:=[]}:aI),Chunks:=[],Seq:=0,Vol:=j0,Items:=[]}:aW),true)
theorem W35 {w:Nat} {p0:aA} {p1:nJ} {o:aW×Bool} (h:aF) (m:M35 w p0 p1=some o):
 aM prog 35 [.agg (aD p0),.agg (fR p1)] h (λr h'=>r= .tup [.agg (aH o.1),.sc (.bool o.2)]/\h'=h):=by
 refine fM 248 [.cell 4 62,.tmp 5] Tryz.func35 rfl rfl rfl rfl ?_
 unfold M35 at m
 refine v (gX rfl rfl λk2 K3=>gX rfl rfl λk5 K6=>ve λu=>bE (z6) u RU rfl rfl λk8 K9=>qk K9 rfl (v (vl 1 _ cG rfl rfl rfl (bV (eJ (map gG ([wrap .u8 (wrap .u64 (97+((wrap .u64 p1.N).tmod 5)))]:List Int)) yH rfl rfl rfl rfl) ?_))))
 obtain⟨st0,hs0,m⟩:=aC m
 refine bV (VI (c:=gG) hs0 (λ_=>rfl) u41 u5 u9 rfl) ?_
 obtain⟨Z0,m⟩:=l6 m
 refine bV (GT rfl rfl rfl (of_decide_eq_true Z0)) (v (v (vl 2 _ gH rfl rfl rfl (dI pM rfl (fP m (σ:=Int) (λs=>[(some k8,.obj 62 (z6)),(some k5,.obj 67 (fR p1)),(some k2,.obj 30 (aD p0))]) (λs=>.c 2 (.ptr k2 0) (.c 3 (.ptr k5 0) (.c 4 (.ptr k8 0) (.c 6 (.sc (.string ((ByteArray.mk #[110])++st0))) (.c 7 (nZ s) .nil))))) (λx m=> ?_) ?_)))))
 refine v ?_
 apply vi m<;>intro c0 m
 exact v (vl 1 _ cG rfl rfl rfl (vl 2 _ gH rfl rfl rfl (dI pM rfl (YQ m λ_ m=>lE m))))
 exact v (lE m)
 rintro _ j0 m
 refine v (vl 1 _ cG rfl rfl rfl (v (v (fP m (σ:=Bool) (λs=>[(some k8,.obj 62 (z6)),(some k5,.obj 67 (fR p1)),(some k2,.obj 30 (aD p0))]) (λs=>.c 2 (.ptr k2 0) (.c 3 (.ptr k5 0) (.c 4 (.ptr k8 0) (.c 6 (.sc (.string ((ByteArray.mk #[110])++st0))) (.c 7 (nZ j0) (.c 47 (.sc (.int .u64 ((wrap .u64 p1.Do).tmod 8))) (.c 48 (.sc (.bool s)) .nil))))))) (λx m=> ?_) ?_))))
 refine v ?_
 apply vi m<;>intro c1 m
 exact v (CR m)
 exact v (CR m)
 rintro _ j1 m
 refine v ?_
 apply vi m<;>intro c2 m
 refine v (vl 1 _ aF7 rfl rfl rfl (vk W85 aI9 m rfl rfl λ_ m=>v (v ?_)))
 apply vi m<;>intro c3 m
 refine v (bV (eQ (z6) AJ rfl) (ve λu=>aL 0 (z6) u rfl rfl rfl rfl yK rfl rfl λK0=>qk K0 rfl (v ?_)))
 cases m
 exact vr λu=>dW.of2 (.inl rfl) (sS (.agg (z6)) tC rfl (a9 0 u rfl) rfl) (gK _ _ (.sc (.bool _)) rfl) (aU (nil_sublist _) u).1 (bD.agg (.k3 (.cons (bC _) (.cons (bC _) (.cons (bC _) (.k2 (.cons (bC _) .nil))))))) (bD.refl _ _) ⟨rfl,rfl⟩
 refine v (v (vk W86 aJF m rfl rfl λy0 m=>ve λu=>bE ([.sc (.string empty),sZ]) u NB rfl rfl λk44 K1=>qk K1 rfl (ve λu=>aL 0 (bP y0.1) u rfl rfl rfl rfl AI rfl rfl λK2=>qk K2 rfl (v (vl 3 _ cG rfl rfl rfl (vl 0 (.agg (bP y0.1)) p5 rfl rfl rfl (bV (eQ (([nZ p0.Seq]:List AV)++bP y0.1++([sZ]:List AV)) aF6 rfl) (bV (eQ (([nZ 1,nZ p0.Seq]:List AV)++bP y0.1++(zq6:List AV)) AJ rfl) (ve λu=>bE (z6) u RU rfl rfl λk49 K4=>qk K4 rfl (ve λu=>aL 0 (([nZ 1,nZ p0.Seq]:List AV)++bP y0.1++(zq6:List AV)) u rfl rfl rfl rfl yK rfl rfl λK5=>qk K5 rfl (v (pJ (leo (.tok 44 35 (([]:List aB).length*35)) 1 (([nZ 1,nZ p0.Seq]:List AV)++bP y0.1++([sZ,ow none 35 (map aK []),nZ 0,nZ 0,sZ]:List AV)) rfl (.k2 (cW.app 2 rfl (.cons (bD.refl _ _) (.cons (iB (c:=aK) _ 35) (.k3 .nil)))))) (nE m (σ:=(List aB)×Int) (τ:=Option bX) (λg s=>[(g,.tok 44 35 ((s.1:List aB).length*35)),(some k49,.obj 62 (([nZ 1,nZ p0.Seq]:List AV)++bP y0.1++([sZ,ow g 35 (map aK s.1),nZ 0,nZ 0,sZ]:List AV))),(some k44,.obj 58 (bP y0.1)),(some k8,.obj 62 (z6)),(some k5,.obj 67 (fR p1)),(some k2,.obj 30 (aD p0))]) (λg s=>(g=none->s.1= [])) (λg s=>.c 2 (.ptr k2 0) (.c 4 (.ptr k8 0) (.c 11 (.sl none 1 (map iL y0.2.1)) (.c 13 (.ptr k49 0) (.c 14 (nZ s.2) .nil))))) none (λ_=>rfl) (lx (.k5 .nil)) ?_ ?_)))))))))))))
 rintro tg0 ⟨q0,q1⟩ x t0 m
 replace m:DM w p0 y0 q0 q1=some x:=m
 unfold DM at m
 refine v (dI T9 rfl (v ?_))
 apply vi m<;>intro c4 m
 refine v (v (v (vx m BJ rfl rfl λ_ _ m=>vk W87 aDU m rfl rfl λy1 m=>ve λu=>bE (bF iC) u M4 rfl rfl λk255 K7=>qk K7 rfl (ve λu=>aL 0 (bF y1) u rfl rfl rfl rfl M2 rfl rfl λK8=>qk K8 rfl (v (vl 6 (.agg (aD p0)) dG rfl rfl rfl (vl 0 (.agg (bF y1)) fF rfl rfl rfl (vk W88 R0 m rfl rfl λ_ m=>oA m (σ:=(List aB)) (τ:=Option bX) (λg s=>[(some k255,.obj 36 (bF y1)),(g,.tok 44 35 ((s:List aB).length*35)),(some k49,.obj 62 (([nZ 1,nZ p0.Seq]:List AV)++bP y0.1++([sZ,ow g 35 (map aK s),nZ 0,nZ 0,sZ]:List AV))),(some k44,.obj 58 (bP y0.1)),(some k8,.obj 62 (z6)),(some k5,.obj 67 (fR p1)),(some k2,.obj 30 (aD p0))]) (λg s=>(g=none->s= [])) (λg s=>.c 2 (.ptr k2 0) (.c 4 (.ptr k8 0) (.c 11 (.sl none 1 (map iL y0.2.1)) (.c 13 (.ptr k49 0) (.c 14 (nZ q1) .nil))))) (λx m=> ?_) ?_))))))))
 refine v ?_
 apply vi m<;>intro c5 m
 refine v (vz [(11,some k49,.obj 62 (([nZ 1,nZ p0.Seq]:List AV)++bP y0.1++([sZ,ow tg0 35 (map aK q0),nZ 0,nZ 0,sZ]:List AV))),(1000000,some k255,.obj 36 (bF y1))] mixed (λu=>⟨λ_=>aN 2 u rfl,λ_=>aN 0 u rfl,trivial⟩) λu=>zF 0 rfl oX rfl (zL 1 0 (ow tg0 35 (map aK q0)) rfl fA rfl rfl rfl (zL 2 1 (.agg (bF y1)) rfl fF rfl rfl rfl (zC 3 rfl (fC (.sl _ _ _) rfl) (zI 4 rfl rfl ?_)))))
 obtain⟨x0,X0,m⟩:=aC m
 refine zC 5 rfl (l4 X0 BJ rfl rfl) (zC 6 rfl (mJ (.sl none 1 (map gG x0)) oB rfl rfl) (zC 7 rfl (gR (y:=.agg (aK ({ Id:=y1,Staged:=true,Data:=x0,Locs:=[]}:aB))) (eQ (bF y1++([.sc (.bool true),.sl none 1 (map gG x0),sZ]:List AV)) aF2 rfl) (bD.agg (cW.app 32 rfl (.k2 (.cons (bC _) .nil))))) (zC 8 rfl (eJ (map aK ([({ Id:=y1,Staged:=true,Data:=x0,Locs:=[]}:aB)]:List aB)) pK rfl rfl rfl rfl) ?_)))
 obtain⟨z0,Z1,m⟩:=aC m
 refine zE 9 rfl (fK (c:=aK) 1 Z1 pK rfl rfl rfl t0 u rfl λtg1 t1 K10=>⟨⟨λ_=>aN 2 K10 rfl,λ_=>aN 0 K10 rfl,trivial⟩, ?_⟩)
 refine zF 10 rfl oX rfl (zE 11 rfl (aL 2 (([nZ 1,nZ p0.Seq]:List AV)++bP y0.1++([sZ,ow tg1 35 (map aK z0),nZ 0,nZ 0,sZ]:List AV)) K10 rfl rfl (jN rfl) (pW _ _ _) CU rfl rfl λK11=>⟨⟨λe=>absurd e (by decide),λ_=>aN 0 K11 rfl,trivial⟩, ?_⟩))
 exact zX (qk (f:=VP 97 _ _ _ _ _ _ _ _ _ _ _ _) K11 rfl (eF m tg1 t1 (lx (.k5 .nil))))
 exact v (eF m tg0 t0 (lx (.k5 .nil)))
 rintro tg2 j2 t2 m
 exact v (eF m tg2 t2 (mG [1,2,3,4,5,6] rfl rfl (.k5 .nil)))
 exact v (lF m tg0 t0 (lx (.k5 .nil)))
 rintro tg3 ⟨r0,r1⟩ t3 m
 refine v (vl 1 (.agg (([nZ 1,nZ p0.Seq]:List AV)++bP y0.1++([sZ,ow tg3 35 (map aK r0),nZ 0,nZ 0,sZ]:List AV))) tC rfl rfl rfl (ve λu=>aL 3 (([nZ 1,nZ p0.Seq]:List AV)++bP y0.1++([sZ,ow tg3 35 (map aK r0),nZ 0,nZ 0,sZ]:List AV)) u rfl rfl rfl (by repeat (first | exact rfl | refine cI (jO _ _ _) ?_ | refine cI (bZ _ _ _) ?_ | refine cI (gY _ _ _ _) ?_ | refine cI rfl ?_)) yK rfl rfl λK12=>qk K12 rfl ?_))
 refine v ?_
 cases m
 exact vr λu=>dW.of2 (.inl rfl) (sS (.agg (([nZ 1,nZ p0.Seq]:List AV)++bP y0.1++([sZ,ow tg3 35 (map aK r0),nZ 0,nZ 0,sZ]:List AV))) tC rfl (a9 3 u rfl) rfl) (gK _ _ (.sc (.bool _)) rfl) (aU (nil_sublist _) u).1 (bD.agg (.k2 (cW.app 2 rfl (.cons (bC _) (.cons ((eB _ 0 t3 u rfl)) (.k2 (.cons (bC _) .nil))))))) (bD.refl _ _) ⟨rfl,rfl⟩
 refine v (fP m (σ:=Bool) (λs=>[(some k8,.obj 62 (z6)),(some k5,.obj 67 (fR p1)),(some k2,.obj 30 (aD p0))]) (λs=>.c 2 (.ptr k2 0) (.c 3 (.ptr k5 0) (.c 4 (.ptr k8 0) (.c 7 (nZ j0) (.c 47 (.sc (.int .u64 ((wrap .u64 p1.Do).tmod 8))) (.c 99 (.sc (.bool s)) .nil)))))) (λx m=> ?_) ?_)
 refine v ?_
 apply vi m<;>intro c6 m
 exact v (nF m)
 exact v (nF m)
 rintro _ j3 m
 refine v ?_
 apply vi m<;>intro c7 m
 refine v (vl 2 _ fE rfl rfl rfl (dI kN rfl (v ?_)))
 apply vi m<;>intro c8 m
 refine v (bV (eQ (z6) AJ rfl) (ve λu=>aL 0 (z6) u rfl rfl rfl rfl yK rfl rfl λK13=>qk K13 rfl (v ?_)))
 cases m
 exact vr λu=>dW.of2 (.inl rfl) (sS (.agg (z6)) tC rfl (a9 0 u rfl) rfl) (gK _ _ (.sc (.bool _)) rfl) (aU (nil_sublist _) u).1 (bD.agg (.k3 (.cons (bC _) (.cons (bC _) (.cons (bC _) (.k2 (.cons (bC _) .nil))))))) (bD.refl _ _) ⟨rfl,rfl⟩
 refine v (v (vz [(1000000,some k2,.obj 30 (aD p0)),(1000000,some k5,.obj 67 (fR p1))] mixed (λu=>⟨λ_=>aN 2 u rfl,λ_=>aN 1 u rfl,trivial⟩) λu=>zF 0 rfl eG rfl (zL 1 0 (.sl none 4 (map bQ p0.Snaps)) rfl fE rfl rfl rfl (zF 2 rfl V2 rfl (zL 3 1 (nZ p1.N) rfl cG rfl rfl rfl (zC 4 rfl (RE ti3 V0 rfl) (zF 5 rfl eG rfl (zL 6 0 (.sl none 4 (map bQ p0.Snaps)) rfl fE rfl rfl rfl (zC 7 rfl (xY kN rfl) (zC 8 rfl (RE ti3 V0 rfl) ?_))))))))))
 obtain⟨Z2,m⟩:=l6 m
 refine zC 9 rfl (mW rfl rfl rfl (ZX Z2)) (zC 10 rfl (RE V0 ti3 rfl) ?_)
 obtain⟨x1,X1,m⟩:=aC m
 refine zC 11 rfl (l4 X1 jG rfl rfl) (zC 12 rfl (mJ (.agg (bQ x1)) tB rfl rfl) (zE 13 rfl (bE (YM) u yJ rfl rfl λk329 K14=>⟨⟨λ_=>aN 3 K14 rfl,λ_=>aN 2 K14 rfl,trivial⟩, ?_⟩)))
 refine zE 14 rfl (aL 0 (bQ x1) K14 rfl rfl rfl rfl HC rfl rfl λK15=>⟨⟨λ_=>aN 3 K15 rfl,λ_=>aN 2 K15 rfl,trivial⟩, ?_⟩)
 refine zX (qk (f:=.c 16 _ (aAI 119 _ _ _ _ _ _ _ _ _ _ _ _ _ _)) K15 rfl (v (vl 2 _ cG rfl rfl rfl (v ?_))))
 apply vi m<;>intro c9 m
 refine v (vl 0 _ cG rfl rfl rfl (bV (eQ ([nZ 2,nZ 0,.sc (.string empty),sZ,sZ,sZ,nZ x1.Seq,nZ 0,sZ]) AJ rfl) (ve λu=>aL 1 ([nZ 2,nZ 0,.sc (.string empty),sZ,sZ,sZ,nZ x1.Seq,nZ 0,sZ]) u rfl rfl rfl rfl yK rfl rfl λK16=>qk K16 rfl (v ?_))))
 cases m
 exact vr λu=>dW.of2 (.inl rfl) (sS (.agg ([nZ 2,nZ 0,.sc (.string empty),sZ,sZ,sZ,nZ x1.Seq,nZ 0,sZ])) tC rfl (a9 1 u rfl) rfl) (gK _ _ (.sc (.bool _)) rfl) (aU (nil_sublist _) u).1 (bD.agg (.k3 (.cons (bC _) (.cons (bC _) (.cons (bC _) (.k2 (.cons (bC _) .nil))))))) (bD.refl _ _) ⟨rfl,rfl⟩
 refine v (v (vl 3 _ cG rfl rfl rfl (vl 0 _ cG rfl rfl rfl (bV (eQ (aJ ({ Kind:=3,Id:=iC,Seq:=p0.Seq,Of:=x1.Seq,Off:=13,Len:=17}:aE)) s9 rfl) (bV (eJ (map aJ ([({ Kind:=3,Id:=iC,Seq:=p0.Seq,Of:=x1.Seq,Off:=13,Len:=17}:aE)]:List aE)) lM rfl rfl rfl rfl) (bV (eQ ([nZ 3,nZ 0,.sc (.string empty),sZ,sZ,sZ,nZ 0,nZ j0,.sl none 37 (map aJ ([({ Kind:=3,Id:=iC,Seq:=p0.Seq,Of:=x1.Seq,Off:=13,Len:=17}:aE)]:List aE))]) AJ rfl) (ve λu=>aL 1 ([nZ 3,nZ 0,.sc (.string empty),sZ,sZ,sZ,nZ 0,nZ j0,.sl none 37 (map aJ ([({ Kind:=3,Id:=iC,Seq:=p0.Seq,Of:=x1.Seq,Off:=13,Len:=17}:aE)]:List aE))]) u rfl rfl rfl rfl yK rfl rfl λK17=>qk K17 rfl (v ?_))))))))
 cases m
 exact vr λu=>dW.of2 (.inl rfl) (sS (.agg ([nZ 3,nZ 0,.sc (.string empty),sZ,sZ,sZ,nZ 0,nZ j0,.sl none 37 (map aJ ([({ Kind:=3,Id:=iC,Seq:=p0.Seq,Of:=x1.Seq,Off:=13,Len:=17}:aE)]:List aE))])) tC rfl (a9 1 u rfl) rfl) (gK _ _ (.sc (.bool _)) rfl) (aU (nil_sublist _) u).1 (bD.agg (.k3 (.cons (bC _) (.cons (bC _) (.cons (bC _) (.k3 .nil)))))) (bD.refl _ _) ⟨rfl,rfl⟩
 refine v (fP m (σ:=Bool) (λs=>[(some k8,.obj 62 (z6)),(some k5,.obj 67 (fR p1)),(some k2,.obj 30 (aD p0))]) (λs=>.c 2 (.ptr k2 0) (.c 3 (.ptr k5 0) (.c 4 (.ptr k8 0) (.c 7 (nZ j0) (.c 47 (.sc (.int .u64 ((wrap .u64 p1.Do).tmod 8))) (.c 136 (.sc (.bool s)) .nil)))))) (λx m=> ?_) ?_)
 refine v ?_
 apply vi m<;>intro c10 m
 exact v (nF m)
 exact v (nF m)
 rintro _ j4 m
 refine v ?_
 apply vi m<;>intro c11 m
 refine v (v (v (pJ (BI (.tok 38 37 (([]:List aE).length*37)) 17 (ow none 37 (map aJ [])) (iB _ _)) (nE m (σ:=(List aE)×Int×Int) (τ:=Option bX) (λg s=>[(g,.tok 38 37 ((s.1:List aE).length*37)),(some k8,.obj 62 (z6)),(some k5,.obj 67 (fR p1)),(some k2,.obj 30 (aD p0))]) (λg s=>(g=none->s.1= [])) (λg s=>.c 2 (.ptr k2 0) (.c 3 (.ptr k5 0) (.c 4 (.ptr k8 0) (.c 7 (nZ j0) (.c 17 (ow g 37 (map aJ s.1)) (.c 18 (nZ s.2.1) (.c 19 (nZ s.2.2) .nil))))))) none (λ_=>rfl) (lx (.k7 .nil)) ?_ ?_))))
 rintro tg4 ⟨q2,q3,q4⟩ x t4 m
 replace m:DN w p0 p1 q2 q3 q4=some x:=m
 unfold DN at m
 refine vs (vs (fP m (σ:=Bool) (λs=>[(tg4,.tok 38 37 ((q2:List aE).length*37)),(some k8,.obj 62 (z6)),(some k5,.obj 67 (fR p1)),(some k2,.obj 30 (aD p0))]) (λs=>.c 2 (.ptr k2 0) (.c 3 (.ptr k5 0) (.c 4 (.ptr k8 0) (.c 7 (nZ j0) (.c 17 (ow tg4 37 (map aJ q2)) (.c 18 (nZ q3) (.c 19 (nZ q4) (.c 156 (.sc (.bool s)) .nil)))))))) (λx m=> ?_) ?_))
 refine v (vl 3 _ fA rfl rfl rfl (dI kY rfl (vl 3 _ fE rfl rfl rfl (dI kN rfl (vl 3 _ gN rfl rfl rfl (dI nK rfl ?_))))))
 apply vi m<;>intro b0 m
 rw[b0]
 exact bV (vK mA t4 rfl) (MY m)
 rw[b0]
 exact MY m
 rintro _ j5 m
 refine v ?_
 apply vi m<;>intro c12 m
 refine v (vs (oA m (σ:=(List aE)×Int) (τ:=Option bX) (λg s=>[(g,.tok 38 37 ((s.1:List aE).length*37)),(some k8,.obj 62 (z6)),(some k5,.obj 67 (fR p1)),(some k2,.obj 30 (aD p0))]) (λg s=>(g=none->s.1= [])) (λg s=>.c 2 (.ptr k2 0) (.c 3 (.ptr k5 0) (.c 4 (.ptr k8 0) (.c 7 (nZ j0) (.c 17 (ow g 37 (map aJ s.1)) (.c 18 (nZ s.2) (.c 19 (nZ q4) .nil))))))) (λx m=> ?_) ?_))
 refine v (vs (vs (fP m (σ:=Bool) (λs=>[(tg4,.tok 38 37 ((q2:List aE).length*37)),(some k8,.obj 62 (z6)),(some k5,.obj 67 (fR p1)),(some k2,.obj 30 (aD p0))]) (λs=>.c 2 (.ptr k2 0) (.c 3 (.ptr k5 0) (.c 4 (.ptr k8 0) (.c 7 (nZ j0) (.c 17 (ow tg4 37 (map aJ q2)) (.c 18 (nZ q3) (.c 19 (nZ q4) (.c 171 (.sc (.bool s)) .nil)))))))) (λx m=> ?_) ?_)))
 refine v (vl 2 _ aAT rfl rfl rfl (dI aAS rfl ?_))
 apply vi m<;>intro b1 m
 rw[b1]
 exact vl 2 _ aAT rfl rfl rfl (vx m aF8 rfl rfl λ_ _ m=>MY m)
 rw[b1]
 exact MY m
 rintro _ j6 m
 refine v ?_
 apply vi m<;>intro c13 m
 exact v (eF m tg4 t4 (lx (.k7 .nil)))
 refine v (v (bV (eQ (aJ ({ Kind:=0,Id:=iC,Seq:=0,Of:=0,Off:=q3,Len:=20}:aE)) s9 rfl) (ve λu=>bE (([nZ 0]:List AV)++bF iC++(J1:List AV)) u HB rfl rfl λk1523 K18=>qk K18 rfl (ve λu=>aL 0 (aJ ({ Kind:=0,Id:=iC,Seq:=0,Of:=0,Off:=q3,Len:=20}:aE)) u rfl rfl rfl rfl HA rfl rfl λK19=>qk K19 rfl (v (v (vl 4 _ fA rfl rfl rfl (dI kY rfl (fP m (σ:=aE) (λs=>[(some k1523,.obj 38 (aJ s)),(tg4,.tok 38 37 ((q2:List aE).length*37)),(some k8,.obj 62 (z6)),(some k5,.obj 67 (fR p1)),(some k2,.obj 30 (aD p0))]) (λs=>.c 2 (.ptr k2 0) (.c 3 (.ptr k5 0) (.c 4 (.ptr k8 0) (.c 7 (nZ j0) (.c 17 (ow tg4 37 (map aJ q2)) (.c 18 (nZ q3) (.c 19 (nZ q4) (.c 20 (.ptr k1523 0) .nil)))))))) (λx m=> ?_) ?_)))))))))
 refine v ?_
 apply vi m<;>intro c14 m
 refine v (vz [(1000000,some k2,.obj 30 (aD p0)),(7,some k1523,.obj 38 (aJ ({ Kind:=0,Id:=iC,Seq:=0,Of:=0,Off:=q3,Len:=20}:aE)))] mixed (λu=>⟨λ_=>aN 4 u rfl,λ_=>aN 0 u rfl,trivial⟩) λu=>zF 0 rfl eM rfl (zL 1 0 (.sl none 35 (map aK p0.Chunks)) rfl fA rfl rfl rfl (zI 2 rfl rfl ?_)))
 obtain⟨x2,X2,m⟩:=aC m
 refine zC 3 rfl (l4 X2 fZ rfl rfl) (zC 4 rfl (nG rP rfl rfl) (zC 5 rfl (mJ (.agg (bF x2.Id)) fF rfl rfl) (zF 6 rfl m0 rfl (zE 7 rfl (aL 0 (aJ { ({ Kind:=0,Id:=iC,Seq:=0,Of:=0,Off:=q3,Len:=20}:aE) with Kind:=1}) u rfl rfl rfl rfl AA rfl rfl λK20=>⟨⟨λ_=>aN 4 K20 rfl,λe=>absurd e (by decide),trivial⟩, ?_⟩)))))
 refine zF 8 rfl yF rfl (zE 9 rfl (aL 0 (aJ { { ({ Kind:=0,Id:=iC,Seq:=0,Of:=0,Off:=q3,Len:=20}:aE) with Kind:=1} with Id:=x2.Id}) K20 rfl rfl rfl rfl M2 rfl rfl λK21=>⟨⟨λ_=>aN 4 K21 rfl,λe=>absurd e (by decide),trivial⟩, ?_⟩))
 exact zX (qk (f:=T6 207 _ _ _ _ _ _ _ _ _) K21 rfl (MY m))
 refine v (vl 4 _ fA rfl rfl rfl (dI kY rfl (vl 4 _ fE rfl rfl rfl (dI kN rfl (fP m (σ:=aE) (λs=>[(some k1523,.obj 38 (aJ s)),(tg4,.tok 38 37 ((q2:List aE).length*37)),(some k8,.obj 62 (z6)),(some k5,.obj 67 (fR p1)),(some k2,.obj 30 (aD p0))]) (λs=>.c 2 (.ptr k2 0) (.c 3 (.ptr k5 0) (.c 4 (.ptr k8 0) (.c 7 (nZ j0) (.c 17 (ow tg4 37 (map aJ q2)) (.c 18 (nZ q3) (.c 19 (nZ q4) (.c 20 (.ptr k1523 0) .nil)))))))) (λx m=> ?_) ?_)))))
 refine v ?_
 apply vi m<;>intro c15 m
 refine v (vz [(1000000,some k2,.obj 30 (aD p0)),(11,some k1523,.obj 38 (aJ ({ Kind:=0,Id:=iC,Seq:=0,Of:=0,Off:=q3,Len:=20}:aE)))] mixed (λu=>⟨λ_=>aN 4 u rfl,λ_=>aN 0 u rfl,trivial⟩) λu=>zF 0 rfl eG rfl (zL 1 0 (.sl none 4 (map bQ p0.Snaps)) rfl fE rfl rfl rfl (zI 2 rfl rfl (zF 3 rfl eM rfl (zL 4 0 (.sl none 35 (map aK p0.Chunks)) rfl fA rfl rfl rfl (zC 5 rfl (xY kY rfl) (zC 6 rfl (mW rfl rfl rfl trivial) ?_)))))))
 obtain⟨x3,X3,m⟩:=aC m
 refine zC 7 rfl (l4 X3 jG rfl rfl) (zC 8 rfl (nG CW rfl rfl) (zC 9 rfl (mJ (nZ x3.Seq) cG rfl rfl) (zF 10 rfl m0 rfl (zE 11 rfl (aL 0 (aJ { ({ Kind:=0,Id:=iC,Seq:=0,Of:=0,Off:=q3,Len:=20}:aE) with Kind:=2}) u rfl rfl rfl rfl AA rfl rfl λK22=>⟨⟨λ_=>aN 4 K22 rfl,λe=>absurd e (by decide),trivial⟩, ?_⟩)))))
 refine zF 12 rfl mB rfl (zE 13 rfl (aL 0 (aJ { { ({ Kind:=0,Id:=iC,Seq:=0,Of:=0,Off:=q3,Len:=20}:aE) with Kind:=2} with Seq:=x3.Seq}) K22 rfl rfl rfl rfl AA rfl rfl λK23=>⟨⟨λ_=>aN 4 K23 rfl,λe=>absurd e (by decide),trivial⟩, ?_⟩))
 exact zX (qk (f:=MW 229 _ _ _ _ _ _ _ _ _ _ _ _ _) K23 rfl (MY m))
 refine v (vl 4 _ gN rfl rfl rfl (vl 4 _ fA rfl rfl rfl (dI kY rfl (vl 4 _ fE rfl rfl rfl (dI kN rfl (vx m gU rfl rfl λx4 _ m=>va (.agg (cE x4)) tD rfl rfl (ve λu=>bE ([nZ 0,nZ 0,sZ]) u qW rfl rfl λk1631 K24=>qk K24 rfl (ve λu=>aL 0 (cE x4) u rfl rfl rfl rfl EY rfl rfl λK25=>qk K25 rfl (v (vz [(1000000,some k1631,.obj 99 (cE x4)),(5,some k1523,.obj 38 (aJ ({ Kind:=0,Id:=iC,Seq:=0,Of:=0,Off:=q3,Len:=20}:aE)))] mixed (λu=>⟨λ_=>aN 0 u rfl,λ_=>aN 1 u rfl,trivial⟩) λu=>zF 0 rfl yM rfl (zL 1 0 (nZ x4.Seq) rfl cG rfl rfl rfl (zF 2 rfl HD rfl (zL 3 0 (nZ x4.Of) rfl cG rfl rfl rfl (zF 4 rfl m0 rfl (zE 5 rfl (aL 1 (aJ { ({ Kind:=0,Id:=iC,Seq:=0,Of:=0,Off:=q3,Len:=20}:aE) with Kind:=3}) u rfl rfl rfl rfl AA rfl rfl λK26=>⟨⟨λ_=>aN 0 K26 rfl,λe=>absurd e (by decide),trivial⟩, ?_⟩))))))))))))))))
 refine zF 6 rfl mB rfl (zE 7 rfl (aL 1 (aJ { { ({ Kind:=0,Id:=iC,Seq:=0,Of:=0,Off:=q3,Len:=20}:aE) with Kind:=3} with Seq:=x4.Seq}) K26 rfl rfl rfl rfl AA rfl rfl λK27=>⟨⟨λ_=>aN 0 K27 rfl,λe=>absurd e (by decide),trivial⟩, ?_⟩))
 refine zF 8 rfl yG rfl (zE 9 rfl (aL 1 (aJ { { { ({ Kind:=0,Id:=iC,Seq:=0,Of:=0,Off:=q3,Len:=20}:aE) with Kind:=3} with Seq:=x4.Seq} with Of:=x4.Of}) K27 rfl rfl rfl rfl AA rfl rfl λK28=>⟨⟨λ_=>aN 0 K28 rfl,λe=>absurd e (by decide),trivial⟩, ?_⟩))
 exact zX (qk (f:=fq7 193 _ _ _ _ _ _ _ _) K28 rfl (z8 m (mG [1,2,3,4,5] rfl rfl (.k8 .nil))))
 rintro _ j7 m
 exact MY m
 rintro _ j8 m
 refine v (vl 0 (.agg (aJ j8)) CV rfl rfl rfl (bV (eJ (map aJ ([j8]:List aE)) lM rfl rfl rfl rfl) ?_))
 obtain⟨z1,Z3,m⟩:=aC m
 exact ve λu=>fK (c:=aJ) 1 Z3 lM rfl rfl rfl t4 u rfl λtg5 t5 K29=>qk K29 rfl (eF m tg5 t5 (mG [1,2,3,4] rfl rfl (.k7 .nil)))
 rintro tg6 ⟨j9,j10⟩ t6 m
 exact v (eF m tg6 t6 (lx (.k7 .nil)))
 exact v (lF m tg4 t4 (lx (.k7 .nil)))
 rintro tg7 ⟨r2,r3,r4⟩ t7 m
 refine v (bV (eQ ([nZ 3,nZ 0,.sc (.string empty),sZ,sZ,sZ,nZ 0,nZ j0,ow tg7 37 (map aJ r2)]) AJ (by cases tg7<;>rfl)) (bV (vK mA t7 rfl) (ve λu=>aL 1 ([nZ 3,nZ 0,.sc (.string empty),sZ,sZ,sZ,nZ 0,nZ j0,ow tg7 37 (map aJ r2)]) u rfl rfl rfl (by repeat (first | exact rfl | refine cI (jO _ _ _) ?_ | refine cI (bZ _ _ _) ?_ | refine cI (gY _ _ _ _) ?_ | refine cI rfl ?_)) yK rfl rfl λK30=>qk K30 rfl ?_)))
 refine v ?_
 cases m
 exact vr λu=>dW.of2 (.inl rfl) (sS (.agg ([nZ 3,nZ 0,.sc (.string empty),sZ,sZ,sZ,nZ 0,nZ j0,ow tg7 37 (map aJ r2)])) tC rfl (a9 1 u rfl) rfl) (gK _ _ (.sc (.bool _)) rfl) (aU (nil_sublist _) u).1 (bD.agg (.k3 (.cons (bC _) (.cons (bC _) (.cons (bC _) (.k2 (.cons ((eB _ 0 t7 u rfl)) .nil))))))) (bD.refl _ _) ⟨rfl,rfl⟩
 refine v (v ?_)
 apply vi m<;>intro c16 m
 refine v (bV (eQ ([nZ 4,nZ 0,.sc (.string empty),sZ,sZ,sZ,nZ 0,nZ j0,sZ]) AJ rfl) (ve λu=>aL 0 ([nZ 4,nZ 0,.sc (.string empty),sZ,sZ,sZ,nZ 0,nZ j0,sZ]) u rfl rfl rfl rfl yK rfl rfl λK31=>qk K31 rfl (v ?_)))
 cases m
 exact vr λu=>dW.of2 (.inl rfl) (sS (.agg ([nZ 4,nZ 0,.sc (.string empty),sZ,sZ,sZ,nZ 0,nZ j0,sZ])) tC rfl (a9 0 u rfl) rfl) (gK _ _ (.sc (.bool _)) rfl) (aU (nil_sublist _) u).1 (bD.agg (.k3 (.cons (bC _) (.cons (bC _) (.cons (bC _) (.k2 (.cons (bC _) .nil))))))) (bD.refl _ _) ⟨rfl,rfl⟩
 refine v (v (bV (eQ ([nZ 5,nZ 0,.sc (.string empty),sZ,sZ,sZ,nZ 0,nZ j0,sZ]) AJ rfl) (ve λu=>aL 0 ([nZ 5,nZ 0,.sc (.string empty),sZ,sZ,sZ,nZ 0,nZ j0,sZ]) u rfl rfl rfl rfl yK rfl rfl λK32=>qk K32 rfl (v ?_))))
 cases m
 exact vr λu=>dW.of2 (.inl rfl) (sS (.agg ([nZ 5,nZ 0,.sc (.string empty),sZ,sZ,sZ,nZ 0,nZ j0,sZ])) tC rfl (a9 0 u rfl) rfl) (gK _ _ (.sc (.bool _)) rfl) (aU (nil_sublist _) u).1 (bD.agg (.k3 (.cons (bC _) (.cons (bC _) (.cons (bC _) (.k2 (.cons (bC _) .nil))))))) (bD.refl _ _) ⟨rfl,rfl⟩
theorem aJG:aP prog 35=true:=by kernel_rfl
def DO (m:Nat) (p0:List nJ) (q0:Int) (q1:Int):Option (Lp (Int) (Lp (Int) (Bool))):=
 (ix p0 q0).bind λx0=>if decide (q1 < (x0.Tree.length:Int)) then (after ((ix p0 q0).bind λx1=>(ix x1.Tree q1).bind λx2=>if decide (300 < (x2.Data.length:Int)) then Bk true else (ix p0 q0).bind λx3=>(ix x3.Tree q1).bind λx4=>Bk (decide (50 < (x4.Path.size:Int))):Option (Lp (Bool) (Lp (Int) (Lp (Int) (Bool))))) λj0=>if j0 then (Rk (.ret true)) else Gk (wrap .i64 (q1+1))) else Bk q1
def DP (m:Nat) (p0:List nJ) (q0:Int):Option (Lp (Int) (Bool)):=
 after (if decide (q0 < (p0.length:Int)) then (Bk (decide (q0 < 30))) else Bk false:Option (Lp (Bool) (Lp (Int) (Bool)))) λj0=>if j0 then (after ((ix p0 q0).bind λx0=>if decide (300 < (x0.Pick.length:Int)) then Bk true else (ix p0 q0).bind λx1=>Bk (decide (10 < (x1.Tree.length:Int))):Option (Lp (Bool) (Lp (Int) (Bool)))) λj1=>if j1 then Rk true else after (aT (λs=>DO m p0 q0 s) m 0) λr0=>Gk (wrap .i64 (q0+1))) else Bk q0
def ZD (m:Nat) (p0:List nJ):Option (Bool):=
 if decide (120 < (p0.length:Int)) then (some true) else after (aT (λs=>DP m p0 s) m 0) λr0=>some false
theorem W14 {u:Nat} {p0:List nJ} {o:Bool} (h:aF) (m:ZD u p0=some o):
 aM prog 14 [.sl none 5 (map fR p0)] h (λr h'=>r= .sc (.bool o)/\h'=h):=by
 refine fM 68 [.tmp 2] Tryz.func14 rfl rfl rfl rfl ?_
 unfold ZD at m
 refine v (v (dI VU rfl (v ?_)))
 apply vi m<;>intro c4 m
 refine v (v ?_)
 obtain rfl:=eT m
 exact eI rfl
 refine v (v (jT m (σ:=Int) (λs=>[]) (λs=>.c 0 (.sl none 5 (map fR p0)) (.c 3 (nZ s) .nil)) (lx (.k2 .nil)) ?_ ?_))
 rintro _ q0 x m
 replace m:DP u p0 q0=some x:=m
 unfold DP at m
 refine vs (vs (fP m (σ:=Bool) (λs=>[]) (λs=>.c 0 (.sl none 5 (map fR p0)) (.c 3 (nZ q0) (.c 15 (.sc (.bool s)) .nil))) (λx m=> ?_) ?_))
 refine v (dI VU rfl ?_)
 apply vi m<;>intro b0 m
 rw[b0]
 exact hX m
 rw[b0]
 exact hX m
 rintro _ j0 m
 refine v ?_
 apply vi m<;>intro c0 m
 refine v (v (vs (vs (fP m (σ:=Bool) (λs=>[]) (λs=>.c 0 (.sl none 5 (map fR p0)) (.c 3 (nZ q0) (.c 33 (.sc (.bool s)) .nil))) (λx m=> ?_) ?_))))
 refine v (vx m KG rfl rfl λ_ _ m=>dI aAS rfl ?_)
 apply vi m<;>intro b1 m
 rw[b1]
 exact hX m
 rw[b1]
 exact vx m KG rfl rfl λ_ _ m=>dI AK rfl (hX m)
 rintro _ j1 m
 refine v ?_
 apply vi m<;>intro c1 m
 refine v (v (gM m λm=> ?_))
 obtain rfl:=eT m
 exact eI rfl
 refine v (v (jT m (σ:=Int) (λs=>[]) (λs=>.c 0 (.sl none 5 (map fR p0)) (.c 3 (nZ q0) (.c 4 (nZ s) .nil))) (lx (.k3 .nil)) ?_ ?_))
 rintro _ q1 x m
 replace m:DO u p0 q0 q1=some x:=m
 unfold DO at m
 refine v (vx m KG rfl rfl λ_ _ m=>dI AK rfl (v ?_))
 apply vi m<;>intro c2 m
 refine v (v (vs (fP m (σ:=Bool) (λs=>[]) (λs=>.c 0 (.sl none 5 (map fR p0)) (.c 3 (nZ q0) (.c 4 (nZ q1) (.c 67 (.sc (.bool s)) .nil)))) (λx m=> ?_) ?_)))
 refine v (vx m KG rfl rfl λ_ _ m=>vx m pP rfl rfl λ_ _ m=>dI n4 rfl ?_)
 apply vi m<;>intro b2 m
 rw[b2]
 exact fV m
 rw[b2]
 exact vx m KG rfl rfl λ_ _ m=>vx m pP rfl rfl λ_ _ m=>bV (rL VS rfl) (fV m)
 rintro _ j2 m
 refine v ?_
 apply vi m<;>intro c3 m
 refine v (v (gM m λm=>gM m λm=> ?_))
 obtain rfl:=eT m
 exact eI rfl
 exact v (v (hX m))
 exact v (G7 m)
 rintro _ r0 m
 exact v (w7 m)
 exact v (LY m)
 rintro _ r1 m
 refine v (v ?_)
 obtain rfl:=eT m
 exact eI rfl
theorem aD0:aP prog 14=true:=by kernel_rfl
def DQ (m:Nat) (p0:List Int) (q0:List Int) (q1:Int):Option (Lp ((List Int)×Int) ((List Int))):=
 after (if decide (q1 < (p0.length:Int)) then (Bk (decide (q1 < 8))) else Bk false:Option (Lp (Bool) (Lp ((List Int)×Int) ((List Int))))) λj0=>if j0 then ((ix p0 q1).bind λx0=>(app q0 ([cF .and .i64 x0 1]:List Int)).bind λz0=>Gk (z0,wrap .i64 (q1+1))) else Bk (q0,q1)
def ZE (m:Nat) (p0:List Int):Option ((List Int)):=
 after (aT (λs=>DQ m p0 s.1 s.2) m ([],0)) λ⟨r0,r1⟩=>after (if ((r0.length:Int)==0)then (Bk ([0]:List Int)) else Bk r0:Option (Lp ((List Int)) ((List Int)))) λj0=>some j0
theorem W16 {w:Nat} {p0:List Int} {o:(List Int)} (h:aF) (m:ZE w p0=some o):
 aM prog 16 [.sl none 1 (map fQ p0)] h (λr h'=>r= .sl none 1 (map fQ o)/\h'=h):=by
 refine fM 28 [.tmp 2] Tryz.func16 rfl rfl rfl rfl ?_
 unfold ZE at m
 refine v (v (v (pJ (BI (.tok 3 1 (([]:List Int).length*1)) 3 (ow none 1 (map fQ [])) (iB _ _)) (nE m (σ:=(List Int)×Int) (τ:=Option bX) (λg s=>[(g,.tok 3 1 ((s.1:List Int).length*1))]) (λg s=>(g=none->s.1= [])) (λg s=>.c 0 (.sl none 1 (map fQ p0)) (.c 3 (ow g 1 (map fQ s.1)) (.c 4 (nZ s.2) .nil))) none (λ_=>rfl) (lx (.k3 .nil)) ?_ ?_))))
 rintro tg0 ⟨q0,q1⟩ x t0 m
 replace m:DQ w p0 q0 q1=some x:=m
 unfold DQ at m
 refine vs (vs (fP m (σ:=Bool) (λs=>[(tg0,.tok 3 1 ((q0:List Int).length*1))]) (λs=>.c 0 (.sl none 1 (map fQ p0)) (.c 3 (ow tg0 1 (map fQ q0)) (.c 4 (nZ q1) (.c 12 (.sc (.bool s)) .nil)))) (λx m=> ?_) ?_))
 refine v (dI MZ rfl ?_)
 apply vi m<;>intro b0 m
 rw[b0]
 exact fV m
 rw[b0]
 exact fV m
 rintro _ j0 m
 refine v ?_
 apply vi m<;>intro c0 m
 refine v (v (v (vx m aAM rfl rfl λx0 _ m=>bV (eJ (map fQ ([cF .and .i64 x0 1]:List Int)) VT rfl rfl rfl rfl) ?_)))
 obtain⟨z0,Z0,m⟩:=aC m
 exact ve λu=>fK (c:=fQ) 0 Z0 VT rfl rfl rfl t0 u rfl λtg1 t1 K0=>qk K0 rfl (v (eF m tg1 t1 (lx (.k3 .nil))))
 exact v (lF m tg0 t0 (lx (.k3 .nil)))
 rintro tg2 ⟨r0,r1⟩ t2 m
 refine v (bV (vK MZ t2 rfl) (oA m (σ:=(List Int)) (τ:=Option bX) (λg s=>[(g,.tok 3 1 ((s:List Int).length*1))]) (λg s=>(g=none->s= [])) (λg s=>.c 3 (ow g 1 (map fQ s)) .nil) (λx m=> ?_) ?_))
 refine v ?_
 apply vi m<;>intro c1 m
 exact v (ve λu=>VB (c:=fQ) ([0]:List Int) u VT rfl rfl rfl rfl λtg3 t3 K1=>qk K1 rfl (eF m tg3 t3 (mG [0] rfl rfl (.cons (bD.refl _ _) .nil))))
 exact v (eF m tg2 t2 (lx (.cons (bD.refl _ _) .nil)))
 rintro tg4 j1 t4 m
 refine v (v ?_)
 obtain rfl:=eT m
 exact vr λu=>dW.of1 (.inl rfl) (gK _ _ (ow _ _ _) rfl) (aU (nil_sublist _) u).1 ((eB _ 0 t4 u rfl)) ⟨rfl,rfl⟩
theorem aD1:aP prog 16=true:=by kernel_rfl
def DR (m:Nat) (p1:List nJ) (q0:aA) (q1:Int):Option (Lp (aA×Int) (aA)):=
 after (if decide (q1 < (p1.length:Int)) then (Bk (decide (q1 < 30))) else Bk false:Option (Lp (Bool) (Lp (aA×Int) (aA)))) λj0=>if j0 then ((ix p1 q1).bind λx0=>(M35 m q0 x0).bind λy0=>after (if y0.2 then ((FW m q0 y0.1).bind λy1=>after (if (y1.2==0)then Bk y1.1 else Bk q0:Option (Lp (aA) (Lp (aA) (Lp (aA×Int) (aA))))) λj1=>Bk j1) else Bk q0:Option (Lp (aA) (Lp (aA×Int) (aA)))) λj2=>Gk (j2,wrap .i64 (q1+1))) else Bk (q0,q1)
def ZF (m:Nat) (p0:List Int) (p1:List nJ):Option (aA):=
 (M33 m p0).bind λy6=>after (aT (λs=>DR m p1 s.1 s.2) m (y6,0)) λ⟨r0,r1⟩=>some r0
theorem W15 {w:Nat} {p0:List Int} {p1:List nJ} {o:aA} (h:aF) (m:ZF w p0 p1=some o):
 aM prog 15 [.sl none 1 (map fQ p0),.sl none 5 (map fR p1)] h (λr h'=>r= .agg (aD o)/\h'=h):=by
 refine fM 43 [.cell 4 30] Tryz.func15 rfl rfl rfl rfl ?_
 unfold ZF at m
 refine v (ve λu=>bE (jB) u rO rfl rfl λk2 K3=>qk K3 rfl (v (vk W33 aH3 m rfl rfl λy6 m=>ve λu=>bE (jB) u rO rfl rfl λk8 K9=>qk K9 rfl (ve λu=>aL 0 (aD y6) u rfl rfl rfl rfl mZ rfl rfl λK0=>qk K0 rfl (v (jT m (σ:=aA×Int) (λs=>[(some k8,.obj 30 (aD s.1)),(some k2,.obj 30 (jB))]) (λs=>.c 1 (.sl none 5 (map fR p1)) (.c 4 (.ptr k2 0) (.c 5 (.ptr k8 0) (.c 6 (nZ s.2) .nil)))) (lx (.k4 .nil)) ?_ ?_))))))
 rintro _ ⟨q0,q1⟩ x m
 replace m:DR w p1 q0 q1=some x:=m
 unfold DR at m
 refine vs (vs (fP m (σ:=Bool) (λs=>[(some k8,.obj 30 (aD q0)),(some k2,.obj 30 (jB))]) (λs=>.c 1 (.sl none 5 (map fR p1)) (.c 4 (.ptr k2 0) (.c 5 (.ptr k8 0) (.c 6 (nZ q1) (.c 20 (.sc (.bool s)) .nil))))) (λx m=> ?_) ?_))
 refine v (dI VU rfl ?_)
 apply vi m<;>intro b0 m
 rw[b0]
 exact lE m
 rw[b0]
 exact lE m
 rintro _ j0 m
 refine v ?_
 apply vi m<;>intro c0 m
 refine v (v (v (vz [(1000000,some k8,.obj 30 (aD q0))] mixed (λu=>⟨λ_=>aN 0 u rfl,trivial⟩) λu=>zL 0 0 (.agg (aD q0)) rfl dG rfl rfl rfl (zC 1 rfl (fC (.sl _ _ _) rfl) (zI 2 rfl rfl ?_)))))
 obtain⟨x0,X0,m⟩:=aC m
 refine zC 3 rfl (l4 X0 KG rfl rfl) (zC 4 rfl (mJ (.agg (fR x0)) aF9 rfl rfl) ?_)
 obtain⟨y0,Y0,m⟩:=aC m
 refine zC 5 rfl (bW (W35 _ Y0) rfl aJG rfl) (zC 6 rfl (fC (.tup _) rfl) (zC 7 rfl (RF (.agg _) rfl rfl) (zC 8 rfl (RF (.sc (.bool _)) rfl rfl) (zE 9 rfl (bE (z6) u RU rfl rfl λk155 K1=>⟨⟨λ_=>aN 1 K1 rfl,trivial⟩, ?_⟩)))))
 refine zE 10 rfl (aL 0 (aH y0.1) K1 rfl rfl rfl rfl yK rfl rfl λK2=>⟨⟨λ_=>aN 1 K2 rfl,trivial⟩, ?_⟩)
 refine zC 11 rfl (iJ (.sc (.bool _)) rfl) (zX (qk (f:=.c 8 _ (.c 7 _ (.c 31 _ (.c 30 _ (.c 23 _ (fq6 29 _ _ _ _ _ _ _)))))) K2 rfl (v (fP m (σ:=aA) (λs=>[(some k155,.obj 62 (aH y0.1)),(some k8,.obj 30 (aD s)),(some k2,.obj 30 (jB))]) (λs=>.c 1 (.sl none 5 (map fR p1)) (.c 4 (.ptr k2 0) (.c 5 (.ptr k8 0) (.c 6 (nZ q1) .nil)))) (λx m=> ?_) ?_))))
 refine v ?_
 apply vi m<;>intro c1 m
 refine v (vl 1 (.agg (aD q0)) dG rfl rfl rfl (vl 0 (.agg (aH y0.1)) tC rfl rfl rfl (vk W36 aI8 m rfl rfl λy1 m=>ve λu=>bE (jB) u rO rfl rfl λk180 K4=>qk K4 rfl (ve λu=>aL 0 (aD y1.1) u rfl rfl rfl rfl mZ rfl rfl λK5=>qk K5 rfl (v (fP m (σ:=aA) (λs=>[(some k180,.obj 30 (aD y1.1)),(some k155,.obj 62 (aH y0.1)),(some k8,.obj 30 (aD s)),(some k2,.obj 30 (jB))]) (λs=>.c 1 (.sl none 5 (map fR p1)) (.c 4 (.ptr k2 0) (.c 5 (.ptr k8 0) (.c 6 (nZ q1) .nil)))) (λx m=> ?_) ?_))))))
 refine v ?_
 apply vi m<;>intro c2 m
 exact v (vl 0 (.agg (aD y1.1)) dG rfl rfl rfl (ve λu=>aL 2 (aD y1.1) u rfl rfl rfl rfl mZ rfl rfl λK6=>qk K6 rfl (fV m)))
 exact v (fV m)
 rintro _ j1 m
 exact z8 m (mG [1,2,3] rfl rfl (.k4 .nil))
 exact v (fV m)
 rintro _ j2 m
 exact v (z8 m (mG [1,2] rfl rfl (.k4 .nil)))
 exact v (u0 m)
 rintro _ ⟨r0,r1⟩ m
 refine v (vl 0 (.agg (aD r0)) dG rfl rfl rfl (ve λu=>aL 1 (aD r0) u rfl rfl rfl rfl mZ rfl rfl λK7=>qk K7 rfl (v ?_)))
 obtain rfl:=eT m
 exact vr λu=>dW.of1 (.inl rfl) (sS (.agg (aD r0)) dG rfl (a9 1 u rfl) rfl) (aU (nil_sublist _) u).1 (bD.refl _ _) ⟨rfl,rfl⟩
theorem aD2:aP prog 15=true:=by kernel_rfl
end Go.Proofs.YtbbifdfldpfphaaGreat
namespace Go.Vm
def T {α:Type} (m:Option α) (Q:α->Prop):Prop:=∃a,m=some a/\Q a
def L3 {σ ρ:Type} (G B:σ->Prop) (R:ρ->Prop):Lp σ ρ->Prop
 | .go s=>G s
 | .brk s=>B s
 | .ret r=>R r
section
variable {α β σ ρ:Type} {Q:β->Prop}
theorem T.some {a:β} (h:Q a):T (some a) Q:=⟨a,rfl,h⟩
theorem T.mono {P:β->Prop} {m:Option β} (h:T m P) (k:∀a,P a->Q a):T m Q:=by obtain⟨a,e,p⟩:=h; exact⟨a,e,k a p⟩
theorem T.of {m:Option β} {a:β} (h:m= .some a) (hq:Q a):T m Q:=⟨a,h,hq⟩
theorem T.bind {m:Option α} {k:α->Option β} (P:α->Prop) (h:T m P) (hk:∀a,P a->T (k a) Q):T (m.bind k) Q:=by
 obtain⟨a,e,p⟩:=h
 rw[e]; exact hk a p
theorem T.bindEq {m:Option α} {k:α->Option β} {a:α} (h:m= .some a) (hk:T (k a) Q):T (m.bind k) Q:=by rw[h]; exact hk
theorem T.ite {c:Prop} [Decidable c] {a b:Option β} (h1:c->T a Q) (h2:¬c->T b Q):T (if c then a else b) Q:=by
 by_cases h:c
 ·rw[if_pos h]; exact h1 h
 ·rw[if_neg h]; exact h2 h
theorem T.grd {b:Bool} {k:Option β} (hb:b=true) (h:T k Q):T (grd b k) Q:=by unfold Go.Vm.grd; rw[if_pos hb]; exact h
theorem T.ix {l:List α} {i:Int} {k:α->Option β} (h0:0<=i) (h1:i < l.length) (hk:∀x,l[i.toNat]? =Option.some x->x∈l->T (k x) Q):T ((ix l i).bind k) Q:=by
 have hx:l[i.toNat]? =Option.some l[i.toNat]:=getElem?_eq_getElem (by omega)
 rw[m5 l h0,hx]
 exact hk _ hx (List.getElem_mem _)
theorem T.app {xs ys:List α} {k:List α->Option β} (h:xs.length+ys.length<=1000000000) (hk:T (k (xs++ys)) Q):T ((app xs ys).bind k) Q:=by rw[bS h]; exact hk
theorem T.slc {l:List α} {a b:Int} {k:List α->Option β} (h:0<=a/\a<=b/\b<=l.length) (hk:T (k ((l.take b.toNat).drop a.toNat)) Q):T ((slc l a b).bind k) Q:=by unfold Go.Vm.slc; rw[if_pos h]; exact hk
variable {R:ρ->Prop} {G B:σ->Prop}
theorem T.go {s:σ} (h:G s):T (.some (Lp.go s)) (L3 G B R):=⟨_,rfl,h⟩
theorem T.brk {s:σ} (h:B s):T (.some (Lp.brk s)) (L3 G B R):=⟨_,rfl,h⟩
theorem T.ret {r:ρ} (h:R r):T (.some (Lp.ret r)) (L3 G B R):=⟨_,rfl,h⟩
theorem T.after {m:Option (Lp σ ρ)} {k:σ->Option ρ} (h:T m (L3 (λ_=>False) (λs=>T (k s) R) R)):T (after m k) R:=by
 obtain⟨a,e,p⟩:=h
 rw[e]
 cases a with
 | go s=>exact p.elim
 | brk s=>exact p
 | ret r=>exact⟨_,rfl,p⟩
theorem T.loopAt {step:σ->Option (Lp σ ρ)} (I:σ->Prop) (μ:σ->Nat) (hs:∀s,I s->T (step s) (L3 (λs'=>I s'/\μ s' < μ s) B R)):∀(F:Nat) (s:σ),I s->μ s < F->T (aT step F s) (L3 (λ_=>False) B R)
 | 0,_,_,h=>by omega
 | F+1,s,hi,hm=>by
  obtain⟨a,e,p⟩:=hs s hi
  unfold aT
  rw[e]
  cases a with
  | go s'=>exact T.loopAt I μ hs F s' p.1 (by have:=p.2; omega)
  | brk s'=>exact⟨_,rfl,p⟩
  | ret r=>exact⟨_,rfl,p⟩
theorem T.loop {step:σ->Option (Lp σ ρ)} {F:Nat} {s0:σ} {k:σ->Option ρ} (I:σ->Prop) (μ:σ->Nat) (B:σ->Prop) (hm:μ s0 < F) (h0:I s0) (hs:∀s,I s->T (step s) (L3 (λs'=>I s'/\μ s' < μ s) B R)) (hk:∀s,B s->T (k s) R):
    T (Go.Vm.after (aT step F s0) k) R:=T.after ((T.loopAt I μ hs F s0 h0 hm).mono λa=>by
      cases a with
      | go s=>exact λh=>h.elim
      | brk s=>exact hk s
      | ret r=>exact id)
end
theorem LG {n:Nat} (x:Ar n):x.1.length=n:=x.2
theorem aD3 (n:Int):0<=wrap .u8 n/\wrap .u8 n < 256:=by rw[EF]; omega
theorem wrI (n:Int): -9223372036854775808<=wrap .i64 n/\wrap .i64 n < 9223372036854775808:=by
 have e:wrap .i64 n=(if decide (n % 18446744073709551616>=9223372036854775808)then n % 18446744073709551616 - 18446744073709551616 else n % 18446744073709551616):=rfl
 rw[e]
 simp only[decide_eq_true_eq]
 split<;>omega
end Go.Vm
namespace Go.Proofs.YtbbifdfldpfphaaGreat
open Go.Vm
theorem PJ {F:Nat} {a b:Int} (hb:0<=b):T (uV F a b) λ_=>True:=by
 unfold uV
 refine .grd (by simpa using hb) (.grd (by simpa using SV _) (.some trivial))
theorem aJH {F:Nat} {l:List Int} (hF:1000<=F) (hl:l.length<=300):T (PF F l) λr=>r.length % 64=0/\r.length<=l.length+80:=by
 unfold PF
 refine .app (by simp; omega) (.app (by simp; omega) ?_)
 refine .loop (λq=>l.length+1<=q.length/\q.length<=(l.length+72) / 64*64 - 8+0/\l.length+9<=(l.length+72) / 64*64) (λq=>(l.length+72) / 64*64 - 8 - q.length) (λq=>(q.length+8) % 64=0/\q.length<=l.length+64) (by simp; omega) (by simp; omega) (λq hq=> ?_) (λq hq=> ?_)
 ·unfold xC
  rw[wr (by omega) (by omega),Int.tmod_eq_emod_of_nonneg (by omega)]
  refine .ite (λhc=> ?_) λhc=> ?_
  ·have:((q.length:Int)+8) % 64≠0:=by simpa using hc
   refine .app (by simp; omega) (.go ?_)
   simp only[length_append,List.length_singleton]
   omega
  ·have:((q.length:Int)+8) % 64=0:=by simpa using hc
   exact .brk (by omega)
 ·refine .loop (λs=> -1<=s.2/\s.2<=7/\(s.1.length:Int)+s.2=q.length+7) (λs=>(s.2+1).toNat) (λs=>s.1.length=q.length+8) (by simp; omega) (by simp) (λs hs=> ?_) (λs hs=>.some (by omega))
  obtain⟨a,i⟩:=s
  unfold xD
  simp only at hs ⊢
  refine .ite (λhc=> ?_) λhc=> ?_
  ·have hc:=of_decide_eq_true hc
   rw[wr (n:=i - 1) (by omega) (by omega)]
   refine .grd (by simpa using SV _) (.app (by simp; omega) (.go ?_))
   simp only[length_append,List.length_singleton]
   omega
  ·exact .brk (by simp only[decide_eq_true_eq] at hc; show a.length=_; omega)
theorem aD4 {F:Nat} {d:List Int} (hF:1000<=F) (hl:d.length<=300):T (ZC F d) mQ:=by
 unfold ZC
 refine .bind (λ_=>True) ⟨_,rfl,trivial⟩ λy6 _=> ?_
 refine .bind _ (aJH hF hl) λy hy=> ?_
 refine .loop (λs=>0<=s.2/\s.2 % 64=0/\s.2<=y.length) (λs=>(y.length - s.2).toNat) (λ_=>True) (by simp; omega) (by simp) (λs hs=> ?_) (λs _=> ?_)
 ·obtain⟨h,i⟩:=s
  unfold DJ
  simp only at hs ⊢
  refine .ite (λhc=> ?_) λhc=>.brk trivial
  have hc:=of_decide_eq_true hc
  refine .loop (λs=>0<=s.2/\s.2<=64) (λs=>(64 - s.2).toNat) (λ_=>True) (by simp; omega) (by simp) (λs hs2=> ?_) (λs _=> ?_)
  ·obtain⟨w,j⟩:=s
   unfold DG
   simp only at hs2 ⊢
   refine .ite (λhc2=> ?_) λhc2=>.brk trivial
   have hc2:=of_decide_eq_true hc2
   have fin:wrap .i64 (j+1)=j+1:=wr (by omega) (by omega)
   refine .after (.ite (λhc3=> ?_) λhc3=> ?_)
   ·have hc3:=of_decide_eq_true hc3
    refine .loop (λs=>0<=s.2/\s.2<=4) (λs=>(4 - s.2).toNat) (λ_=>True) (by simp; omega) (by simp) (λs hs4=> ?_) (λs _=>.brk (.go (by rw[fin]; simp only; omega)))
    obtain⟨w,k⟩:=s
    unfold DF
    simp only at hs4 ⊢
    refine .ite (λhc4=> ?_) λhc4=>.brk trivial
    have hc4:=of_decide_eq_true hc4
    rw[wr (n:=4*j) (by omega) (by omega),wr (n:=i+4*j) (by omega) (by omega),wr (n:=i+4*j+k) (by omega) (by omega),wr (n:=k+1) (by omega) (by omega)]
    refine .ix (by omega) (by rw[LG]; omega) λ_ _ _=>.ix (by omega) (by omega) λ_ _ _=>.ix (by omega) (by rw[LG]; omega) λ_ _ _=>.go ?_
    simp only
    omega
   ·have hc3:¬j < 16:=by simpa using hc3
    rw[wr (n:=j - 15) (by omega) (by omega),wr (n:=j - 2) (by omega) (by omega),wr (n:=j - 16) (by omega) (by omega),wr (n:=j - 7) (by omega) (by omega)]
    refine .ix (by omega) (by rw[LG]; omega) λ_ _ _=>.ix (by omega) (by rw[LG]; omega) λ_ _ _=>.ix (by omega) (by rw[LG]; omega) λ_ _ _=>.ix (by omega) (by rw[LG]; omega) λ_ _ _=> ?_
    refine .bind _ (PJ (by omega)) λ_ _=>.bind _ (PJ (by omega)) λ_ _=>.bind _ (PJ (by omega)) λ_ _=>.bind _ (PJ (by omega)) λ_ _=> ?_
    refine .ix (by omega) (by rw[LG]; omega) λ_ _ _=>.brk (.go ?_)
    rw[fin]; simp only; omega
  ·refine .loop (λs=>0<=s.2/\s.2<=64) (λs=>(64 - s.2).toNat) (λ_=>True) (by simp; omega) (by simp) (λs hs2=> ?_) (λs _=> ?_)
   ·obtain⟨w,j⟩:=s
    unfold DH
    simp only at hs2 ⊢
    refine .ite (λhc2=> ?_) λhc2=>.brk trivial
    have hc2:=of_decide_eq_true hc2
    have fin:wrap .i64 (j+1)=j+1:=wr (by omega) (by omega)
    rw[fin]
    repeat' (first | exact trivial | refine T.bind _ (PJ (by omega)) λ_ _=> ?_ | refine T.ix (by omega) (by rw[LG]; omega) λ_ _ _=> ?_)
    refine .go ?_
    simp only; omega
   ·refine .loop (λs=>0<=s.2/\s.2<=8) (λs=>(8 - s.2).toNat) (λ_=>True) (by simp; omega) (by simp) (λs hs2=> ?_) (λs _=> ?_)
    ·obtain⟨w,j⟩:=s
     unfold DI
     simp only at hs2 ⊢
     refine .ite (λhc2=> ?_) λhc2=>.brk trivial
     have hc2:=of_decide_eq_true hc2
     rw[wr (n:=j+1) (by omega) (by omega)]
     refine .ix (by omega) (by rw[LG]; omega) λ_ _ _=>.ix (by omega) (by rw[LG]; omega) λ_ _ _=>.ix (by omega) (by rw[LG]; omega) λ_ _ _=>.go ?_
     simp only; omega
    ·rw[wr (n:=i+64) (by omega) (by omega)]
     refine .go ?_
     simp only; omega
 ·refine .loop (λs=>0<=s.2/\s.2<=32/\mQ s.1) (λs=>(32 - s.2).toNat) (λs=>mQ s.1) (by simp; omega) ⟨by simp,by simp, ?_⟩ (λs hs2=> ?_) (λs hs=>.some hs)
  ·intro x hx
   have:x=0:=List.eq_of_mem_replicate hx
   subst this
   exact⟨by omega,by omega⟩
  ·obtain⟨w,j⟩:=s
   unfold xE
   simp only at hs2 ⊢
   refine .ite (λhc2=> ?_) λhc2=>.brk hs2.2.2
   have hc2:=of_decide_eq_true hc2
   rw[wr (n:=j+1) (by omega) (by omega),Int.tdiv_eq_ediv_of_nonneg (by omega),wr (n:=j / 4) (by omega) (by omega)]
   refine .ix (by omega) (by rw[LG]; omega) λ_ _ _=>.grd (by simpa using SV _) (.ix (by omega) (by rw[LG]; omega) λ_ _ _=>.go ⟨⟨?_, ?_, ?_⟩, ?_⟩)
   ·simp only; omega
   ·simp only; omega
   ·intro x hx
    rcases List.mem_or_eq_of_mem_set hx with h | rfl
    ·exact hs2.2.2 x h
    ·exact aD3 _
   ·simp only; omega
end Go.Proofs.YtbbifdfldpfphaaGreat
namespace Go.Vm
section
variable {α β ρ:Type} {Q:β->Prop}
theorem T.ins {l:List α} {r:Int} {y:α} {k:List α->Option β} (h:0<=r/\r<=l.length) (hl:l.length<=1000000) (hk:∀z:List α,z.length=l.length+1->(∀x∈z,x∈l\/x=y)->T (k z) Q):
    T ((Go.Vm.slc l 0 r).bind λx=>(Go.Vm.app ([]:List α) x).bind λz=>(Go.Vm.app z ([y]:List α)).bind λz2=>(Go.Vm.slc l r l.length).bind λx2=>(Go.Vm.app z2 x2).bind k) Q:=by
  refine .slc (by omega) (.app (by simp; omega) (.app (by simp; omega) (.slc (by omega) (.app (by simp; omega) (hk _ (by simp; omega) λx hx=> ?_)))))
  simp only[mem_append,mem_singleton] at hx
  rcases hx with ((h | h) | h) | h
  . simp at h
  . exact .inl (mem_of_mem_take (mem_of_mem_drop h))
  . exact .inr h
  . exact .inl (mem_of_mem_take (mem_of_mem_drop h))
theorem T.scan {Q:ρ->Prop} {l:List α} {F:Nat} {body:Int->Option (Lp Int ρ)} {g:α->Option (Lp Bool (Lp Int ρ))} {k:Int->Option ρ} (hF:l.length < F) (hl:l.length < 1000000)
    (hb:∀i,body i=Go.Vm.after (if decide (i < (l.length:Int))then (Go.Vm.ix l i).bind g else Option.some (.brk false)) λj=>if j then Option.some (.go (wrap .i64 (i+1))) else Option.some (.brk i))
    (hg:∀x∈l,T (g x) (L3 (λ_=>False) (λ_=>True) (λ_=>False))) (hk:∀r:Int,0<=r/\r<=l.length->T (k r) Q):T (Go.Vm.after (aT body F 0) k) Q:=by
  refine .loop (λi=>0<=i/\i<=l.length) (λi=>(l.length - i).toNat) (λi=>0<=i/\i<=l.length) (by omega) (by omega) (λi hi=> ?_) (λi hi=>hk i hi)
  rw[hb]
  refine .after (.ite (λhc=> ?_) λhc=>.brk ?_)
  . have hc:=of_decide_eq_true hc
    refine .ix (by omega) (by omega) λx _ hx=>(hg x hx).mono λa ha=> ?_
    cases a with
    | go s=>exact ha
    | ret s=>exact ha.elim
    | brk s=>
      refine T.ite (λ_=>.go ?_) λ_=>.brk hi
      rw[wr (by omega) (by omega)]
      omega
  . exact T.ite (λh=>by cases h) λ_=>.brk hi
end
end Go.Vm
namespace Go.Proofs.YtbbifdfldpfphaaGreat
open Go.Vm
def fOk (f:dR):Prop:=f.Path.size<=100/\gL gB f.Data
def XK (f:dR):Prop:=fOk f/\f.Data.length<=200
theorem aD5 {F:Nat} {l:List dR} (hF:1000<=F):T (LE F l) λb=>b=false->l.length<=6/\∀x∈l,x.Data.length<=200:=by
 unfold LE
 refine .ite (λhc=>.some λh=>by cases h) λhc=> ?_
 have hc:l.length<=6:=by simp at hc; omega
 rw[tW (l:=l) (λx=>decide (200 < (x.Data.length:Int))) true (by omega) (λi x hx _ hi=>by
  unfold uU
  rw[f0 (by omega)]
  simp only[a8,hx,bind_some,ofNat_lt,hi,decide_true,if_true]
  split<;>rfl) (by unfold uU; simp)]
 cases h:l.any λx=>decide (200 < (x.Data.length:Int))
 ·refine .some λ_=>⟨hc,λx hx=> ?_⟩
  have:=any_eq_false.1 h x hx
  simp at this
  omega
 ·exact .some λh=>by cases h
theorem aJI {F:Nat} {l:List dR} (hF:1000<=F) (ho:∀f∈l,fOk f):T (M85 F l) λr=>r.2=0->r.1.length<=6/\∀f∈r.1,XK f:=by
  unfold M85
  refine .bind _ (aD5 hF) λb hb=>.ite (λ_=>.some λh=>by simp at h) λhc=> ?_
  obtain⟨hn,hd⟩:=hb (by simpa using hc)
  refine .loop (λi=>0<=i/\i<=l.length) (λi=>(l.length - i).toNat) (λ_=>True) (by omega) (by omega) (λi hi=> ?_) (λi _=> ?_)
  . unfold DC
    refine .ite (λhc=> ?_) λhc=>.brk trivial
    have hc:=of_decide_eq_true hc
    refine .ix (by omega) (by omega) λx _ hx=>.bindEq (N0 hF (ho x hx).1) (.ite (λ_=>.ret λh=>by simp at h) λ_=>.go ?_)
    rw[wr (by omega) (by omega)]
    omega
  . refine .loop (λs=>0<=s.2/\s.2<=l.length/\(s.1.length:Int)=s.2/\∀f∈s.1,XK f) (λs=>(l.length - s.2).toNat) (λs=>s.1.length<=6/\∀f∈s.1,XK f) (by simp; omega) (by simp) (λs hs=> ?_) (λs hs=>.some λ_=>hs)
    obtain⟨q,i⟩:=s
    simp only at hs
    unfold DE
    refine .ite (λhc=> ?_) λhc=>.brk ⟨by simp only; omega,hs.2.2.2⟩
    have hc:=of_decide_eq_true hc
    simp only at hc
    refine .loop (λj=>0<=j/\j<=q.length) (λj=>(q.length - j).toNat) (λj=>0<=j/\j<=q.length) (by omega) (by omega) (λj hj=> ?_) (λj hj=> ?_)
    . unfold DD
      have fin:j < q.length->0<=wrap .i64 (j+1)/\wrap .i64 (j+1)<=q.length/\(q.length - wrap .i64 (j+1)).toNat < (q.length - j).toNat:=λh=>by
        rw[wr (by omega) (by omega)]; omega
      refine .after (.ite (λhc2=> ?_) λhc2=>.brk (T.ite (λh=>by cases h) λ_=>.brk hj))
      have hc2:=of_decide_eq_true hc2
      have:=fin hc2
      refine .ix (by omega) (by omega) λx _ hx=>.ix (by omega) (by omega) λy _ hy=>.brk (T.ite (λ_=>.go (by omega)) λ_=>.brk hj)
    . have rest:T (if (false:Bool)then some (.ret ([],9)) else (slc q 0 j).bind λx494=>(ix l i).bind λx496=>(ix l i).bind λx498=>(app ([]:List dR) x494).bind λz500=>(vZ F x498.Data).bind λy506=>(app z500 ([({ Path:=x496.Path,Data:=y506}:dR)]:List dR)).bind λz508=>(slc q j (q.length:Int)).bind λx513=>(app z508 x513).bind λz515=>some (.go (z515,wrap .i64 (i+1))))
          (L3 (λs':List dR×Int=>(0<=s'.2/\s'.2<=l.length/\(s'.1.length:Int)=s'.2/\∀f∈s'.1,XK f)/\(l.length - s'.2).toNat < (l.length - i).toNat) (λs=>s.1.length<=6/\∀f∈s.1,XK f) (λr:List dR×Int=>r.2=0->r.1.length<=6/\∀f∈r.1,XK f)):=by
        refine T.ite (λh=>by cases h) λ_=> ?_
        rw[wr (n:=i+1) (by omega) (by omega)]
        refine .slc (by omega) (.ix (by omega) (by omega) λx _ hx=>.ix (by omega) (by omega) λy _ hy=>.app (by simp; omega) (.bindEq (WV (by have:=hd y hy; omega)) (.app (by simp; omega) (.slc (by omega) (.app (by simp; omega) (.go ?_))))))
        refine⟨⟨by simp only; omega,by simp only; omega,by simp; omega,λf hf=> ?_⟩,by simp only; omega⟩
        simp only[mem_append,mem_singleton] at hf
        rcases hf with ((h | h) | h) | h
        . simp at h
        . exact hs.2.2.2 f (mem_of_mem_take (mem_of_mem_drop h))
        . subst h
          exact⟨⟨(ho x hx).1,(ho y hy).2⟩,hd y hy⟩
        . exact hs.2.2.2 f (mem_of_mem_take (mem_of_mem_drop h))
      refine .after (.ite (λhc2=> ?_) λhc2=>.brk rest)
      have hc2:=of_decide_eq_true hc2
      refine .ix (by omega) (by omega) λx _ hx=>.ix (by omega) (by omega) λy _ hy=>.brk ?_
      cases x.Path.toList==y.Path.toList
      . exact rest
      . exact .ret λh=>by simp at h
theorem aJJ {F:Nat} {l:List Int} (hF:1000<=F) (h0:0 < l.length) (hl:l.length<=300):T (PH F l) λk=>0 < k/\k<=l.length/\(8<=k\/k=l.length):=by
 unfold PH
 refine .loop (λs=>0<=s.2/\s.2<=l.length) (λs=>(l.length - s.2).toNat) (λ_=>True) (by simp; omega) (by simp) (λs hs=> ?_) (λs _=>.some (by omega))
 obtain⟨h,i⟩:=s
 simp only at hs
 unfold xG
 refine .ite (λhc=> ?_) λhc=>.brk trivial
 have hc:=of_decide_eq_true hc
 simp only at hc
 rw[wr (n:=i+1) (by omega) (by omega)]
 have k2:(8<=i+1)\/¬(8<=i+1):=by omega
 have e64:(i+1==64)=decide (i+1=64):=rfl
 refine .ix (by omega) (by omega) λx _ hx=>.after (.ite (λhc2=> ?_) λhc2=> ?_)
 ·have hc2:=of_decide_eq_true hc2
  refine .ite (λ_=>.brk (T.ite (λ_=>.ret (by omega)) λh=>absurd rfl h)) λ_=>.brk (T.ite (λ_=>.ret (by omega)) λ_=>.go (by simp only; omega))
 ·refine .brk (T.ite (λh=>.ret ?_) λ_=>.go (by simp only; omega))
  have:i+1=64:=by simpa using h
  omega
theorem aJK {F:Nat} {l:List Int} (hF:1000<=F) (hl:l.length<=200) (gl:gL gB l):T (PI F l) λr=>r.length<=25/\∀x∈r,x.length<=300/\gL gB x:=by
 unfold PI
 refine .loop (λs=>s.2.length<=l.length/\gL gB s.2/\(8*s.1.length+s.2.length<=l.length\/(s.2.length=0/\8*s.1.length<=l.length+7))/\∀x∈s.1,x.length<=300/\gL gB x) (λs=>s.2.length) (λs=>s.1.length<=25/\∀x∈s.1,x.length<=300/\gL gB x) (by simp; omega) (by simp[gl]) (λs hs=> ?_) (λs hs=>.some hs)
 obtain⟨q,d⟩:=s
 simp only at hs
 obtain⟨s1,s2,s3,s4⟩:=hs
 unfold xH
 refine .ite (λhc=> ?_) λhc=>.brk ⟨by simp only; omega,s4⟩
 have hc:=of_decide_eq_true hc
 simp only at hc
 refine .bind _ (aJJ hF (by simp only; omega) (by simp only; omega)) λk hk=>.slc (by omega) (.bindEq (WV (by simp; omega)) (.app (by simp; omega) (.slc (by simp only at hk ⊢; omega) (.go ?_))))
 simp only at hk ⊢
 refine⟨⟨by simp; omega,λx hx=>s2 x (mem_of_mem_take (mem_of_mem_drop hx)),by simp; omega,λx hx=> ?_⟩,by simp; omega⟩
 rcases mem_append.1 hx with h | h
 ·exact s4 x h
 ·rw[mem_singleton] at h
  subst h
  exact⟨by simp; omega,λy hy=>s2 y (mem_of_mem_take (mem_of_mem_drop hy))⟩
theorem aJL {F:Nat} {l:List dR} (hF:1000<=F) (ho:∀f∈l,fOk f):T (PG F l) λ_=>True:=by
 unfold PG
 refine .bind _ (aD5 hF) λb hb=>.ite (λ_=>.some trivial) λhc=> ?_
 obtain⟨hn,hd⟩:=hb (by simpa using hc)
 refine .loop (λi=>0<=i/\i<=l.length) (λi=>(l.length - i).toNat) (λ_=>True) (by omega) (by omega) (λi hi=> ?_) (λi _=>.some trivial)
 unfold xF
 refine .ite (λhc=> ?_) λhc=>.brk trivial
 have hc:=of_decide_eq_true hc
 rw[wr (n:=i+1) (by omega) (by omega)]
 have fin:∀b:Bool,T (if b then (some (.ret 1):Option (Lp Int Int)) else some (.go (i+1))) (L3 (λs'=>(0<=s'/\s'<=l.length)/\(l.length - s').toNat < (l.length - i).toNat) (λ_=>True) (λ_=>True)):=λb=>T.ite (λ_=>.ret trivial) λ_=>.go (by omega)
 refine .after (.ix (by omega) (by omega) λx _ hx=>.bindEq (N0 hF (ho x hx).1) (.ite (λ_=>.brk (fin _)) λ_=>.ite (λh=> ?_) λ_=>.brk (fin _)))
 have h:=of_decide_eq_true h
 rw[wr (by omega) (by omega)]
 exact .ix (by omega) (by omega) λ_ _ _=>.ix (by omega) (by omega) λ_ _ _=>.brk (fin _)
theorem aJM {F:Nat} {l:List bK} {d:bK} (hF:1000<=F) (hl:l.length < 900) (gl:∀x∈l,mQ x) (hd:mQ d):
    T (E7 F l d) λr=>0<=r.2.1/\r.2.1<=l.length/\r.1.length=l.length+(if r.2.2 then 1 else 0)/\∀x∈r.1,mQ x:=by
  unfold E7
  refine T.scan (by omega) (by omega) (λ_=>rfl) (λx hx=>.bindEq (aBX hF (gl x hx) hd) (.brk trivial)) λr hr=> ?_
  have rest:T ((slc l 0 r).bind λx84=>(app ([]:List bK) x84).bind λz86=>(app z86 ([d]:List bK)).bind λz92=>(slc l r (l).length).bind λx98=>(app z92 x98).bind λz100=>some (z100,r,true))
      λr=>0<=r.2.1/\r.2.1<=l.length/\r.1.length=l.length+(if r.2.2 then 1 else 0)/\∀x∈r.1,mQ x:=by
    refine .ins hr (by omega) λz h1 h2=>.some ⟨hr.1,hr.2,h1,λx hx=> ?_⟩
    rcases h2 x hx with h | rfl
    . exact gl x h
    . exact hd
  refine .after (.ite (λhc=> ?_) λ_=>.brk (T.ite (λh=>by cases h) λ_=>rest))
  have hc:=of_decide_eq_true hc
  refine .ix (by omega) (by omega) λx _ hx=>.brk ?_
  refine T.ite (λ_=>.some ?_) λ_=>rest
  exact⟨hr.1,hr.2,rfl,gl⟩
def JE (m:bG):Prop:=m.Name.size<=100/\m.Parts.length<=10/\(∀p∈m.Parts,p.Path.size<=100/\p.Ids.length<=40)/\yU m
def PK (l:List (List Int)) (n:Nat):Prop:=l.length<=n/\∀x∈l,x.length<=300/\gL gB x
structure JF (c:aW):Prop where
 seq:gI c.Snap.Seq
 man:JE c.Snap.Man
 locs:c.Snap.Locs= []
 cn:c.Chunks.length<=160
 ch:∀x∈c.Chunks,mQ x.Id/\x.Data.length<=300/\gL gB x.Data/\x.Locs= []
 sq:gI c.Seq
 vol:gI c.Vol
 it:c.Items.length<=64
 iti:∀x∈c.Items,gI x.Seq/\gI x.Of/\gI x.Off/\gI x.Len
theorem XL:JE { Name:=empty,Parts:=[]}:=⟨by decide,by simp,by simp,trivial,λ_ h=>by simp at h⟩
theorem aJN {F:Nat} {nm:ByteArray} {fs:List dR} (hF:1000<=F) (hn:nm.size<=100) (h6:fs.length<=6) (ho:∀f∈fs,XK f):T (M86 F nm fs) λr=>JE r.1/\PK r.2.1 150:=by
 unfold M86
 refine .bindEq (N0 hF hn) (.ite (λ_=>.some ⟨XL,by simp,by simp⟩) λ_=>.bind _ (aJL hF λf hf=>(ho f hf).1) λy _=>.ite (λ_=>.some ⟨XL,by simp,by simp⟩) λ_=> ?_)
 refine .loop (λs=>0<=s.2.2.2/\s.2.2.2<=fs.length/\(s.1.length:Int)=s.2.2.2/\(∀p∈s.1,(p.Path.size<=100/\p.Ids.length<=40)/\HG p)/\(s.2.1.length:Int)<=25*s.2.2.2/\(∀x∈s.2.1,x.length<=300/\gL gB x)/\s.2.2.1.length=s.2.1.length/\∀x∈s.2.2.1,mQ x)
  (λs=>(fs.length - s.2.2.2).toNat) (λs=>(s.1.length<=6/\∀p∈s.1,(p.Path.size<=100/\p.Ids.length<=40)/\HG p)/\PK s.2.1 150) (by simp; omega) (by simp) (λs hs=> ?_) (λs hs=> ?_)
 ·obtain⟨ps,ds,ids,i⟩:=s
  simp only at hs
  obtain⟨s1,s2,s3,s4,s5,s6,s7,s8⟩:=hs
  unfold DL
  refine .ite (λhc=> ?_) λhc=>.brk ⟨⟨by simp only; omega,s4⟩,by simp only; omega,s6⟩
  have hc:=of_decide_eq_true hc
  simp only at hc
  rw[wr (n:=i+1) (by omega) (by omega)]
  refine .ix (by omega) (by omega) λx e hx=>.ix (by omega) (by omega) λx2 e2 hx2=>.ix (by omega) (by omega) λx3 e3 hx3=>.bind _ (aJK hF (ho x3 hx3).2 (ho x3 hx3).1.2) λy hy=> ?_
  obtain⟨y1,y2⟩:=hy
  refine .loop (λs=>0<=s.2.2.2/\s.2.2.2<=y.length/\(s.1.length:Int)=s.2.2.2/\(∀d∈s.1,mQ d)/\(s.2.1.length:Int)<=25*i+s.2.2.2/\(∀x∈s.2.1,x.length<=300/\gL gB x)/\s.2.2.1.length=s.2.1.length/\∀x∈s.2.2.1,mQ x)
   (λs=>(y.length - s.2.2.2).toNat) (λs=>(s.1.length<=25/\(∀d∈s.1,mQ d))/\(s.2.1.length:Int)<=25*i+25/\(∀x∈s.2.1,x.length<=300/\gL gB x)/\s.2.2.1.length=s.2.1.length/\∀x∈s.2.2.1,mQ x) (by simp; omega) ⟨by simp,by simp,by simp,by simp,by simp only; omega,s6,s7,s8⟩ (λs hs=> ?_) (λs hs=> ?_)
  ·obtain⟨q,ds,ids,j⟩:=s
   simp only at hs
   obtain⟨r1,r2,r3,r4,r5,r6,r7,r8⟩:=hs
   unfold DK
   refine .ite (λhc2=> ?_) λhc2=>.brk ⟨⟨by simp only; omega,r4⟩,by simp only; omega,r6,r7,r8⟩
   have hc2:=of_decide_eq_true hc2
   simp only at hc2
   rw[wr (n:=j+1) (by omega) (by omega)]
   refine .ix (by omega) (by omega) λz _ hz=>.bind _ (aD4 hF (y2 z hz).1) λd hd=>.app (by simp; omega) (.bind _ (aJM hF (by simp only; omega) r8 hd) λr hr=> ?_)
   obtain⟨q1,q2,q3,q4⟩:=hr
   simp only at q2 q3
   have hq:∀a∈q++ [d],mQ a:=λa ha=>by
    rcases mem_append.1 ha with h | h
    ·exact r4 a h
    ·rw[mem_singleton] at h; exact h ▸ hd
   refine .after (.ite (λhi=> ?_) λhi=>.brk (.go ?_))
   ·rw[if_pos hi] at q3
    refine .slc (by simp only; omega) (.ix (by omega) (by omega) λz2 _ hz2=>.app (by simp; omega) (.app (by simp; omega) (.slc (by simp only; omega) (.app (by simp; omega) (.brk (.go ?_))))))
    refine⟨⟨by simp only; omega,by simp only; omega,by simp; omega,hq,by simp; omega,λa ha=> ?_,by simp; omega,q4⟩,by simp only; omega⟩
    simp only[mem_append,mem_singleton] at ha
    rcases ha with ((h | h) | h) | h
    ·simp at h
    ·exact r6 a (mem_of_mem_take (mem_of_mem_drop h))
    ·exact h ▸ y2 z2 hz2
    ·exact r6 a (mem_of_mem_take (mem_of_mem_drop h))
   ·rw[if_neg hi] at q3
    exact⟨⟨by simp only; omega,by simp only; omega,by simp; omega,hq,by simp only; omega,r6,by simp only; omega,q4⟩,by simp only; omega⟩
  ·obtain⟨q,ds2,ids2,j⟩:=s
   simp only at hs
   obtain⟨⟨a1,a2⟩,a3,a4,a5,a6⟩:=hs
   refine .app (by simp; omega) (.go ?_)
   refine⟨⟨by simp only; omega,by simp only; omega,by simp; omega,λp hp=> ?_,by simp only; omega,a4,a5,a6⟩,by simp only; omega⟩
   rcases mem_append.1 hp with h | h
   ·exact s4 p h
   ·rw[mem_singleton] at h
    subst h
    have:=(ho x2 hx2).2
    exact⟨⟨(ho x hx).1.1,by simp only; omega⟩,trivial,by simp only[gI]; omega,a2⟩
 ·obtain⟨ps,ds,ids,i⟩:=s
  exact .some ⟨⟨hn,by have:=hs.1.1; simp only at this ⊢; omega,λp hp=>(hs.1.2 p hp).1,trivial,λp hp=>(hs.1.2 p hp).2⟩,hs.2⟩
theorem aD6 (n:Int):∃b,MU [wrap .u8 n]=some b/\b.size=1:=by
 have h:=aD3 n
 refine⟨_,by unfold MU; rw[if_pos (by simp; omega)], ?_⟩
 rfl
structure Ok (c:aA):Prop where
 sm:Sm c
 rg:Rng c
theorem UU (n:Int):gI (wrap .i64 n):=wrI n
theorem H3 {k s:Int} {v:Int} (hs:gI s) (hv:gI v) {l:List aE} (h6:l.length<=64) (hl:∀x∈l,gI x.Seq/\gI x.Of/\gI x.Off/\gI x.Len):
    JF { Kind:=k,Snap:={ Seq:=0,Man:={ Name:=empty,Parts:=[]},Locs:=[]},Chunks:=[],Seq:=s,Vol:=v,Items:=l}:=
  ⟨by simp[gI],XL,rfl,by simp,by simp,hs,hv,h6,hl⟩
structure UV (c:aA) (n:Int) (x:aE):Prop where
 id:mQ x.Id
 q:0<=x.Seq/\x.Seq<=1073741824
 of:gI x.Of
 off:gI x.Off
 len:gI x.Len
 w:(x.Kind=1/\x.Seq=0/\∃j:Nat,(j:Int) < n/\∃y,c.Chunks[j]? =some y/\y.Id=x.Id)\/(x.Kind=2/\x.Id=iC/\∃j:Nat,(c.Chunks.length:Int)+j < n/\∃y,c.Snaps[j]? =some y/\y.Seq=x.Seq)\/
  (x.Kind=3/\x.Id=iC/\∃j:Nat,(c.Chunks.length:Int)+c.Snaps.length+j < n/\∃y,c.Exps[j]? =some y/\y.Seq=x.Seq/\y.Of=x.Of)
def Nd (q:List aE):Prop:=q.Pairwise λa b=>a.Kind=b.Kind->a.Id=b.Id->a.Seq≠b.Seq
structure LH (c:aA) (n:Int) (q:List aE):Prop where
 a:∀x∈q,UV c n x
 d:Nd q
theorem UV.mono {c:aA} {n m:Int} {x:aE} (h:UV c n x) (hm:n<=m):UV c m x:=⟨h.id,h.q,h.of,h.off,h.len,by
 rcases h.w with⟨a,b,j,k,e⟩ | ⟨a,b,j,k,e⟩ | ⟨a,b,j,k,e⟩
 ·exact .inl ⟨a,b,j,by omega,e⟩
 ·exact .inr (.inl ⟨a,b,j,by omega,e⟩)
 ·exact .inr (.inr ⟨a,b,j,by omega,e⟩)⟩
theorem LI {α:Type} {R:α->α->Prop} {l:List α} (h:l.Pairwise R) {i j:Nat} {x y:α} (hx:l[i]? =some x) (hy:l[j]? =some y) (hij:i < j):R x y:=by
 obtain⟨h1,rfl⟩:=List.getElem?_eq_some_iff.1 hx
 obtain⟨h2,rfl⟩:=List.getElem?_eq_some_iff.1 hy
 exact List.pairwise_iff_getElem.1 h i j h1 h2 hij
theorem FX:mQ iC:=by
 intro x hx
 have:x=0:=List.eq_of_mem_replicate (n:=32) hx
 subst this
 exact⟨by omega,by omega⟩
theorem LH.put {c:aA} {n:Int} {q:List aE} {y:aE} (hG:Gd c) (h:LH c n q) (hy:UV c (n+1) y) (hn:¬UV c n y):LH c (n+1) (q++ [y]):=by
 refine⟨λx hx=> ?_,List.pairwise_append.2 ⟨h.d,List.pairwise_singleton _ _,λx hx z hz e1 e2 e3=> ?_⟩⟩
 ·rcases mem_append.1 hx with h1 | h1
  ·exact(h.a x h1).mono (by omega)
  ·rw[mem_singleton.1 h1]; exact hy
 ·rw[mem_singleton.1 hz] at e1 e2 e3
  refine hn ⟨hy.id,hy.q,hy.of,hy.off,hy.len, ?_⟩
  rcases(h.a x hx).w with⟨a,b,j,k,u,u1,u2⟩ | ⟨a,b,j,k,u,u1,u2⟩ | ⟨a,b,j,k,u,u1,u2,u3⟩
  ·exact .inl ⟨by omega,by omega,j,k,u,u1,by rw[u2,e2]⟩
  ·exact .inr (.inl ⟨by omega,by rw[<- e2,b],j,k,u,u1,by omega⟩)
  ·rcases hy.w with⟨a',_⟩ | ⟨a',_⟩ | ⟨a',b',j',k',v,v1,v2,v3⟩
   ·omega
   ·omega
   ·rcases Nat.lt_trichotomy j j' with w | w | w
    ·have:=LI hG.eo u1 v1 w; omega
    ·subst w
     exact .inr (.inr ⟨a',b',j,k,v,v1,v2,v3⟩)
    ·have:=LI hG.eo v1 u1 w; omega
structure Mk (c:aA) (d:aW):Prop where
 k:0<=d.Kind/\d.Kind<=5
 v:0<=d.Vol/\d.Vol < c.Vols.length
 e:d.Kind≠3->d.Items= []
 it:LH c 1000 d.Items\/∃s∈c.Snaps,d.Items= [{ Kind:=3,Id:=iC,Seq:=c.Seq,Of:=s.Seq,Off:=13,Len:=17}]
theorem H4 (c:aA) (n:Int):LH c n []:=⟨by simp,.nil⟩
theorem XM {c:aA} {k s v:Int} {p:aI} {l:List aE} {m:List aB} (hk:0<=k/\k<=5) (hv:0<=v/\v < c.Vols.length) (he:k≠3->l= []) (h:LH c 1000 l):Mk c { Kind:=k,Snap:=p,Chunks:=m,Seq:=s,Vol:=v,Items:=l}:=⟨hk,hv,he,.inl h⟩
theorem t66 {F:Nat} {c:aA} {a:nJ} (hF:1000<=F) (hc:Ok c) (hG:Gd c) (ho:∀f∈a.Tree,fOk f):T (M35 F c a) λr=>JF r.1/\Mk c r.1:=by
  have g0:gI 0:=by simp[gI]
  have c1:=hc.rg.ch
  have c2:=hc.rg.sn
  have c3:=hc.rg.ex
  have c4:=hc.rg.vo
  have gq:=hc.sm.g.1
  unfold M35
  obtain⟨b,hb,hb1⟩:=aD6 (wrap .u64 (97+((wrap .u64 a.N).tmod 5)))
  rw[hb]
  have e1:(ByteArray.mk #[110]).size=1:=rfl
  have e2:((ByteArray.mk #[110])++b).size=2:=by rw[ByteArray.size_append,e1,hb1]
  have hvn:=hG.vn
  simp only[fI,and_eq_true,decide_eq_true_eq] at hvn
  have v0:(0:Int)<=0/\(0:Int) < c.Vols.length:=by omega
  have hq:=hG.q
  simp only[fI,and_eq_true,decide_eq_true_eq] at hq
  refine .bindEq rfl (.grd (by rw[e1,hb1]; rfl) ?_)
  refine .after (T.mono (P:=L3 (λ_=>False) (λv=>gI v/\0<=v/\v < c.Vols.length) (λ_=>False)) (.ite (λh=> ?_) λ_=>.brk ⟨g0,v0⟩) λj hj=> ?_)
  . have h:=of_decide_eq_true h
    obtain⟨w,hw1,hw⟩:=XI a.Vol (n:=c.Vols.length) (by omega) (by omega)
    rw[<- wru (n:=c.Vols.length) (by omega)] at hw
    refine .grd ?_ (.brk ⟨UU _,by rw[hw]; omega⟩)
    rw[wru (by omega)]
    simp
    intro h2
    rw[h2] at h
    simp at h
  cases j with
  | go s=>exact hj
  | ret s=>exact hj.elim
  | brk v=>
  replace hj:gI v/\0<=v/\v < c.Vols.length:=hj
  refine T.after (T.mono (P:=L3 (λ_=>False) (λ_=>True) (λ_=>False)) (.ite (λ_=>.brk trivial) λ_=>.brk trivial) λj hj2=> ?_)
  cases j with
  | go s=>exact hj2
  | ret s=>exact hj2.elim
  | brk v2=>
  refine T.ite (λ_=> ?_) λ_=> ?_
  . refine .bind _ (aJI hF ho) λy hy=>.ite (λ_=>.some ⟨H3 g0 g0 (by simp) (by simp),XM (by decide) v0 (λ_=>rfl) (H4 _ _)⟩) λh0=> ?_
    obtain⟨y1,y2⟩:=hy (by simpa using h0)
    refine .bind _ (aJN hF (by omega) y1 y2) λm hm=> ?_
    obtain⟨m1,m2,m3⟩:=hm
    refine .loop (λs=>0<=s.2/\s.2<=m.2.1.length/\(s.1.length:Int)<=s.2/\∀x∈s.1,mQ x.Id/\x.Data.length<=300/\gL gB x.Data/\x.Locs= []) (λs=>(m.2.1.length - s.2).toNat) (λs=>s.1.length<=160/\∀x∈s.1,mQ x.Id/\x.Data.length<=300/\gL gB x.Data/\x.Locs= []) (by simp; omega) (by simp) (λs hs=> ?_) (λs hs=> ?_)
    . obtain⟨q,i⟩:=s
      simp only at hs
      unfold DM
      refine .ite (λh=> ?_) λ_=>.brk ⟨by simp only; omega,hs.2.2.2⟩
      have h:=of_decide_eq_true h
      simp only at h
      rw[wr (n:=i+1) (by omega) (by omega)]
      obtain⟨n,hn,_⟩:=m64 (F:=F) (c:=c) (d:=iC) hF (by omega)
      refine .ix (by omega) (by omega) λx _ hx=>.bind _ (aD4 hF (m3 x hx).1) λd hd=> ?_
      obtain⟨n,hn,_⟩:=m64 (F:=F) (c:=c) (d:=d) hF (by omega)
      refine .bindEq hn (.after (.ite (λ_=>.ix (by omega) (by omega) λx2 _ hx2=>.app (by simp; omega) (.brk (.go ?_))) λ_=>.brk (.go ⟨⟨by simp only; omega,by simp only; omega,by simp only; omega,hs.2.2.2⟩,by simp only; omega⟩)))
      refine⟨⟨by simp only; omega,by simp only; omega,by simp; omega,λy hy=> ?_⟩,by simp only; omega⟩
      rcases mem_append.1 hy with h | h
      . exact hs.2.2.2 y h
      . rw[mem_singleton] at h
        subst h
        exact⟨hd,(m3 x2 hx2).1,(m3 x2 hx2).2,rfl⟩
    . obtain⟨q,i⟩:=s
      exact .some ⟨⟨gq,m1,rfl,hs.1,hs.2,g0,g0,by simp,by simp⟩,XM (by decide) v0 (λ_=>rfl) (H4 _ _)⟩
  . refine T.after (T.mono (P:=L3 (λ_=>False) (λ_=>True) (λ_=>False)) (.ite (λ_=>.brk trivial) λ_=>.brk trivial) λj hj2=> ?_)
    cases j with
    | go s=>exact hj2
    | ret s=>exact hj2.elim
    | brk v3=>
    refine T.ite (λ_=> ?_) λ_=> ?_
    . refine .ite (λ_=>.some ⟨H3 g0 g0 (by simp) (by simp),XM (by decide) v0 (λ_=>rfl) (H4 _ _)⟩) λh0=> ?_
      have h0:0 < c.Snaps.length:=by
        have:¬((c.Snaps.length:Int)=0):=by simpa using h0
        omega
      obtain⟨k,hk,ek⟩:=XI a.N h0 (by omega)
      rw[wru (by omega),ek]
      refine .grd (by simp; intro h; rw[h] at h0; simp at h0) (.ix (by omega) (by omega) λx _ hx=> ?_)
      have gx:=hc.sm.g.2.1 x hx
      refine .ite (λ_=>.some ⟨H3 gx.1 g0 (by simp) (by simp),XM (by decide) v0 (λ_=>rfl) (H4 _ _)⟩) λ_=>.some ⟨H3 g0 hj.1 (by simp) λy hy=> ?_,(show (0:Int)<=3/\(3:Int)<=5 by decide),hj.2,λh=>absurd rfl h,.inr ⟨x,hx,rfl⟩⟩
      rw[mem_singleton] at hy
      subst hy
      exact⟨gq,gx.1,by simp[gI],by simp[gI]⟩
    . refine T.after (T.mono (P:=L3 (λ_=>False) (λ_=>True) (λ_=>False)) (.ite (λ_=>.brk trivial) λ_=>.brk trivial) λj hj2=> ?_)
      cases j with
      | go s=>exact hj2
      | ret s=>exact hj2.elim
      | brk v4=>
      refine T.ite (λ_=> ?_) λ_=>.ite (λ_=>.some ⟨H3 g0 hj.1 (by simp) (by simp),XM (by decide) hj.2 (λ_=>rfl) (H4 _ _)⟩) λ_=>.some ⟨H3 g0 hj.1 (by simp) (by simp),XM (by decide) hj.2 (λ_=>rfl) (H4 _ _)⟩
      have w1:wrap .i64 ((c.Chunks.length:Int)+(c.Snaps.length:Int))=(c.Chunks.length:Int)+(c.Snaps.length:Int):=wr (by omega) (by omega)
      have w2:wrap .i64 ((c.Chunks.length:Int)+(c.Snaps.length:Int)+(c.Exps.length:Int))=(c.Chunks.length:Int)+(c.Snaps.length:Int)+(c.Exps.length:Int):=wr (by omega) (by omega)
      refine .loop (λs=>0<=s.2.2/\s.2.2<=420/\s.1.length<=64/\LH c s.2.2 s.1/\gI s.2.1) (λs=>(420 - s.2.2).toNat) (λs=>s.1.length<=64/\LH c 1000 s.1) (by simp; omega) ⟨by simp,by simp,by simp,H4 _ _,by simp[gI]⟩ (λs hs=> ?_) (λs hs=> ?_)
      . obtain⟨q,o,i⟩:=s
        simp only at hs
        obtain⟨s1,s2,s3,s4,s5⟩:=hs
        unfold DN
        simp only[w1,w2]
        have fin:LH c 1000 q:=⟨λx hx=>(s4.a x hx).mono (by omega),s4.d⟩
        have s4':LH c (i+1) q:=⟨λx hx=>(s4.a x hx).mono (by omega),s4.d⟩
        refine .after (.ite (λh=>.brk (T.ite (λh2=> ?_) λ_=>.brk ⟨s3,fin⟩)) λ_=>.brk (T.ite (λh=>by cases h) λ_=>.brk ⟨s3,fin⟩))
        have h:=of_decide_eq_true h
        have h2:=of_decide_eq_true h2
        rw[wr (n:=i+1) (by omega) (by omega)]
        have put:∀y:aE,UV c (i+1) y->¬UV c i y->T ((app q ([y]:List aE)).bind λz1648=>some (.brk (z1648,wrap .i64 (o+20))):Option (Lp (List aE×Int) (Lp (List aE×Int×Int) (aW×Bool))))
            (L3 (λ_=>False) (λs=>s.1.length<=64/\LH c (i+1) s.1/\gI s.2) (λ_=>False)):=λy hy hy2=>.app (by simp; omega) (.brk ⟨by simp; omega,s4.put hG hy hy2,UU _⟩)
        have g20:gI 20:=by simp[gI]
        refine .after (T.mono (P:=L3 (λ_=>False) (λs=>s.1.length<=64/\LH c (i+1) s.1/\gI s.2) (λ_=>False)) (.after ?_) λj hj3=> ?_)
        . have mid:T (after (if (decide (i < (c.Chunks.length:Int)))then ((ix c.Chunks i).bind λx1596=>some (.brk { { ({ Kind:=0,Id:=iC,Seq:=0,Of:=0,Off:=o,Len:=20}:aE) with Kind:=1} with Id:=x1596.Id})) else after (if (decide (i < (c.Chunks.length:Int)+(c.Snaps.length:Int)))then ((ix c.Snaps (wrap .i64 (i - (c.Chunks.length:Int)))).bind λx1629=>some (.brk { { ({ Kind:=0,Id:=iC,Seq:=0,Of:=0,Off:=o,Len:=20}:aE) with Kind:=2} with Seq:=x1629.Seq})) else (ix c.Exps (wrap .i64 ((wrap .i64 (i - (c.Chunks.length:Int))) - (c.Snaps.length:Int)))).bind λx1634=>some (.brk { { { ({ Kind:=0,Id:=iC,Seq:=0,Of:=0,Off:=o,Len:=20}:aE) with Kind:=3} with Seq:=x1634.Seq} with Of:=x1634.Of}):Option (Lp (aE) (Lp (aE) (Lp ((List aE)×Int) (Lp ((List aE)×Int×Int) (aW×Bool)))))) λj1623=>some (.brk j1623):Option (Lp (aE) (Lp ((List aE)×Int) (Lp ((List aE)×Int×Int) (aW×Bool))))) λj1590=>(app q ([j1590]:List aE)).bind λz1648=>some (.brk (z1648,wrap .i64 (o+20))):Option (Lp ((List aE)×Int) (Lp ((List aE)×Int×Int) (aW×Bool))))
              (L3 (λ_=>False) (λs=>s.1.length<=64/\LH c (i+1) s.1/\gI s.2) (λ_=>False)):=by
            refine .after (.ite (λh3=> ?_) λh3=>.after (.ite (λh4=> ?_) λh4=> ?_))
            . have h3:=of_decide_eq_true h3
              refine .ix (by omega) (by omega) λx ex hx=>.brk (put _ ⟨(hc.sm.g.2.2.1 x hx).1,by simp,g0,s5,g20,.inl ⟨rfl,rfl,i.toNat,by omega,x,ex,rfl⟩⟩ λh=> ?_)
              rcases h.w with⟨_,_,j,k,u,u1,u2⟩ | ⟨a,_⟩ | ⟨a,_⟩
              . have:=LI hG.co u1 ex (by omega)
                rw[u2] at this
                simp only at this; omega
              . exact absurd (show (1:Int)=2 from a) (by decide)
              . exact absurd (show (1:Int)=3 from a) (by decide)
            . have h4:=of_decide_eq_true h4
              have h3:¬(i < (c.Chunks.length:Int)):=by simpa using h3
              rw[wr (n:=i - (c.Chunks.length:Int)) (by omega) (by omega)]
              refine .ix (by omega) (by omega) λx ex hx=>.brk (.brk (put _ ⟨FX,by have:=hc.rg.s x hx; simp only; omega,g0,s5,g20,.inr (.inl ⟨rfl,rfl,(i - (c.Chunks.length:Int)).toNat,by omega,x,ex,rfl⟩)⟩ λh=> ?_))
              rcases h.w with⟨a,_⟩ | ⟨_,_,j,k,u,u1,u2⟩ | ⟨a,_⟩
              . exact absurd (show (2:Int)=1 from a) (by decide)
              . have:=LI hG.so u1 ex (by omega)
                simp only at u2; omega
              . exact absurd (show (2:Int)=3 from a) (by decide)
            . have h4:¬(i < (c.Chunks.length:Int)+(c.Snaps.length:Int)):=by simpa using h4
              rw[wr (n:=i - (c.Chunks.length:Int)) (by omega) (by omega),wr (n:=i - (c.Chunks.length:Int) - (c.Snaps.length:Int)) (by omega) (by omega)]
              refine .ix (by omega) (by omega) λx ex hx=>.brk (.brk (put _ ⟨FX,by have:=hc.rg.e x hx; simp only; omega,(hc.sm.g.2.2.2.1 x hx).2.1,s5,g20,.inr (.inr ⟨rfl,rfl,(i - (c.Chunks.length:Int) - (c.Snaps.length:Int)).toNat,by omega,x,ex,rfl,rfl⟩)⟩ λh=> ?_))
              rcases h.w with⟨a,_⟩ | ⟨a,_⟩ | ⟨_,_,j,k,u,u1,u2,u3⟩
              . exact absurd (show (3:Int)=1 from a) (by decide)
              . exact absurd (show (3:Int)=2 from a) (by decide)
              . have:=LI hG.eo u1 ex (by omega)
                simp only at u2; omega
          refine .ite (λh3=> ?_) λ_=>.brk (T.ite (λh=>by cases h) λ_=>mid)
          have h3:=of_decide_eq_true h3
          exact .ix (by omega) (by omega) λx _ _=>.brk (T.ite (λ_=>.brk ⟨s3,s4',s5⟩) λ_=>mid)
        . cases j with
          | go s=>exact hj3
          | ret s=>exact hj3.elim
          | brk s=>
            obtain⟨q2,o2⟩:=s
            exact .go ⟨⟨by simp only; omega,by simp only; omega,hj3.1,hj3.2.1,hj3.2.2⟩,by simp only; omega⟩
      . obtain⟨q,o,i⟩:=s
        exact .some ⟨H3 g0 hj.1 hs.1 λx hx=>⟨by have:=(hs.2.a x hx).q; exact⟨by omega,by omega⟩,(hs.2.a x hx).of,(hs.2.a x hx).off,(hs.2.a x hx).len⟩,XM (by decide) hj.2 (λh=>absurd rfl h) hs.2⟩
def PM (l:List aB) (d:bK):List aB:=l.filter λx=>decide (ky x.Id < ky d)
def H5 (l:List aB) (d:bK):List aB:=l.filter λx=>decide (ky d < ky x.Id)
def wZ (l:List aB) (n:aB):List aB:=PM l n.Id++ { (match l.find? λx=>decide (x.Id=n.Id) with | some x=>x | none=> { Id:=n.Id,Staged:=false,Data:=[],Locs:=[]}) with Staged:=true,Data:=n.Data}::H5 l n.Id
theorem PN {l:List aB} {d:bK} {p:Nat} (ha:At l d p):l.take p=PM l d:=by
 unfold PM
 have e:l.filter (λx=>decide (ky x.Id < ky d))=(l.take p++l.drop p).filter λx=>decide (ky x.Id < ky d):=by rw[List.take_append_drop]
 rw[e,filter_append,filter_eq_self.2 λy hy=>decide_eq_true (ha.lo y hy),List.filter_eq_nil_iff.2 λy hy=>by
  have:=ha.hi y hy
  simp; omega]
 simp
theorem XN {l:List aB} {d:bK} {p:Nat} (ha:At l d p) (hr:u6 l) (hd:mQ d) (hn:kO l d=false):l.drop p=H5 l d:=by
 unfold H5
 have e:l.filter (λx=>decide (ky d < ky x.Id))=(l.take p++l.drop p).filter λx=>decide (ky d < ky x.Id):=by rw[List.take_append_drop]
 rw[e,filter_append,List.filter_eq_nil_iff.2 λy hy=>by
  have:=ha.lo y hy
  simp; omega,filter_eq_self.2 λy hy=>by
   have hm:=mem_of_mem_drop hy
   have h1:=ha.hi y hy
   have h2:ky d≠ky y.Id:=λe=>by
    have:=any_eq_false.1 hn y hm
    simp[NX hd (hr.1 y hm) e] at this
   exact decide_eq_true (by omega)]
 simp
theorem SW {l:List aB} {d:bK} {p:Nat} {x:aB} (ha:At l d p) (hr:u6 l) (hx:l[p]? =some x) (hd:x.Id=d):l.drop (p+1)=H5 l d:=by
 obtain⟨hp,e0⟩:=List.getElem?_eq_some_iff.1 hx
 unfold H5
 have e:l.filter (λx=>decide (ky d < ky x.Id))=(l.take p++l[p]::l.drop (p+1)).filter λx=>decide (ky d < ky x.Id):=by
  rw[<- List.drop_eq_getElem_cons hp,List.take_append_drop]
 rw[e,filter_append,List.filter_eq_nil_iff.2 λy hy=>by
  have:=ha.lo y hy
  simp; omega,List.filter_cons_of_neg (by rw[e0,hd]; simp),filter_eq_self.2 λy hy=>by
   obtain⟨j,hj,rfl⟩:=List.getElem_of_mem hy
   simp only[List.length_drop] at hj
   rw[List.getElem_drop]
   have:=hr.2 p (p+1+j) _ _ hx (getElem?_eq_getElem (by omega)) (by omega)
   rw[hd] at this
   exact decide_eq_true this]
 simp
theorem SX {l:List aB} {p:Nat} {x:aB} (hr:u6 l) (hx:l[p]? =some x):(l.find? λy=>decide (y.Id=x.Id))=some x:=by
 cases e:l.find? λy=>decide (y.Id=x.Id) with
 | none=>
  have:=List.find?_eq_none.1 e x (List.mem_of_getElem? hx)
  simp at this
 | some y=>
  have h1:=List.find?_some e
  have h1:y.Id=x.Id:=by simpa using h1
  obtain⟨j,hj,rfl⟩:=List.getElem_of_mem (List.mem_of_find?_eq_some e)
  rcases Nat.lt_trichotomy j p with h | h | h
  ·have:=hr.2 j p _ _ (getElem?_eq_getElem hj) hx h
   rw[h1] at this; omega
  ·subst h
   rw[getElem?_eq_getElem hj] at hx
   exact hx
  ·have:=hr.2 p j _ _ hx (getElem?_eq_getElem hj) h
   rw[h1] at this; omega
theorem PO {l:List aB} {n:aB}:(wZ l n).length<=l.length+1:=by
 have:∀m:List aB,(m.filter λx=>decide (ky x.Id < ky n.Id)).length+(m.filter λx=>decide (ky n.Id < ky x.Id)).length<=m.length:=by
  intro m
  induction m with
  | nil=>simp
  | cons a m ih=>
   by_cases h1:ky a.Id < ky n.Id
   ·have h2:¬ky n.Id < ky a.Id:=by omega
    simp[List.filter_cons,h1,h2]; omega
   ·by_cases h2:ky n.Id < ky a.Id<;>simp[List.filter_cons,h1,h2]<;>omega
 unfold wZ PM H5
 have:=this l
 simp only[length_append,List.length_cons]
 omega
def LJ (l:List aB) (d:bK):aB:=match l.find? λx=>decide (x.Id=d) with | some x=>x | none=> { Id:=d,Staged:=false,Data:=[],Locs:=[]}
theorem SY (l:List aB) (d:bK):(LJ l d).Id=d:=by
 unfold LJ
 cases e:l.find? λx=>decide (x.Id=d) with
 | none=>rfl
 | some x=>simpa using List.find?_some e
theorem JG (l:List aB) (n:aB):wZ l n=PM l n.Id++ { LJ l n.Id with Staged:=true,Data:=n.Data}::H5 l n.Id:=rfl
theorem PP {l:List aB} {n:aB} (hr:u6 l) (hn:mQ n.Id):u6 (wZ l n):=by
 rw[qH] at*
 obtain⟨h1,h2⟩:=hr
 rw[JG]
 have hid:({ LJ l n.Id with Staged:=true,Data:=n.Data}:aB).Id=n.Id:=SY l n.Id
 generalize ({ LJ l n.Id with Staged:=true,Data:=n.Data}:aB)=z at hid
 refine⟨λy hy=> ?_,List.pairwise_append.2 ⟨h2.sublist List.filter_sublist,List.pairwise_cons.2 ⟨λy hy=> ?_,h2.sublist List.filter_sublist⟩,λa ha b hb=> ?_⟩⟩
 ·rcases mem_append.1 hy with h | h
  ·exact h1 y (mem_filter.1 h).1
  ·rcases mem_cons.1 h with rfl | h
   ·rw[hid]; exact hn
   ·exact h1 y (mem_filter.1 h).1
 ·rw[hid]
  exact of_decide_eq_true (mem_filter.1 hy).2
 ·have ha':=of_decide_eq_true (mem_filter.1 ha).2
  rcases mem_cons.1 hb with rfl | hb
  ·rw[hid]; exact ha'
  ·have:=of_decide_eq_true (mem_filter.1 hb).2
   omega
def n5 (l ns:List aB):List aB:=ns.foldl wZ l
theorem zO:∀ {ns l:List aB},u6 l->(∀n∈ns,mQ n.Id)->u6 (n5 l ns)
 | [],_,h,_=>h
 | n::ns,_,h,hn=>zO (ns:=ns) (PP h (hn n mem_cons_self)) λm hm=>hn m (List.mem_cons_of_mem _ hm)
theorem sB:∀ {ns l:List aB},(n5 l ns).length<=l.length+ns.length
 | [],_=>by simp[n5]
 | n::ns,l=>by
  have h1:=sB (ns:=ns) (l:=wZ l n)
  have h2:=PO (l:=l) (n:=n)
  have:n5 l (n::ns)=n5 (wZ l n) ns:=rfl
  rw[this,List.length_cons]
  omega
def pB (l:List aB):Bool:= !l.any λx=> !x.Staged || decide (0 < (x.Locs.length:Int))
def ad (c:aA) (d:aW):aA:={ c with Seq:=c.Seq+1,Snaps:=c.Snaps++ [{ Seq:=d.Snap.Seq,Man:=d.Snap.Man,Locs:=[]}],Chunks:=n5 c.Chunks d.Chunks}
theorem nA {P:aB->Prop}:∀ {ns l:List aB},(∀x∈l,P x)->(∀n∈ns,P { Id:=n.Id,Staged:=true,Data:=n.Data,Locs:=[]})->(∀x,P x->∀n∈ns,P { x with Staged:=true,Data:=n.Data})->∀y∈n5 l ns,P y
  | [],_,h,_,_=>h
  | n :: ns, l, h, hn, hs => nA (ns := ns) (l := wZ l n) (fun y hy => by
      rw[JG,mem_append,mem_cons] at hy
      rcases hy with h1 | h1 | h1
      . exact h y (mem_filter.1 h1).1
      . rw[h1]
        unfold LJ
        cases e:l.find? λx=>decide (x.Id=n.Id) with
        | none=>exact hn n mem_cons_self
        | some x=>exact hs x (h x (List.mem_of_find?_eq_some e)) n mem_cons_self
      . exact h y (mem_filter.1 h1).1) (λm hm=>hn m (List.mem_cons_of_mem _ hm)) λx hx m hm=>hs x hx m (List.mem_cons_of_mem _ hm)
theorem UW {c:aA} {d:aW} (h:Sm c) (hg:Gd c) (hd:JF d):Sm (ad c d):=by
 have hq:=hg.q
 have hsn:=hg.sn
 have hcn:=hg.cn
 have hdn:=hd.cn
 unfold fI at hq
 simp only[and_eq_true,decide_eq_true_eq] at hq
 obtain⟨m1,m2,m3,m4⟩:=hd.man
 have L:=sB (ns:=d.Chunks) (l:=c.Chunks)
 refine⟨⟨⟨by show _<=c.Seq+1; omega,by show c.Seq+1 < _; omega⟩, ?_, ?_,h.g.2.2.2.1,h.g.2.2.2.2⟩, ?_, ?_,h.ex,h.vo, ?_, ?_,h.el, ?_⟩
 ·intro s hs
  rcases mem_append.1 hs with h1 | h1
  ·exact h.g.2.1 s h1
  ·obtain rfl:=mem_singleton.1 h1
   exact⟨hd.seq,m4,λx hx=>by cases hx⟩
 ·exact nA (P:=IW) h.g.2.2.1 (λn hn=>⟨(hd.ch n hn).1,trivial,(hd.ch n hn).2.2.1,λx hx=>by cases hx⟩) λx hx n hn=>⟨hx.1,trivial,(hd.ch n hn).2.2.1,hx.2.2.2⟩
 ·show (c.Snaps++_).length<=12
  simp; omega
 ·show (n5 c.Chunks d.Chunks).length<=400
  omega
 ·intro s hs
  rcases mem_append.1 hs with h1 | h1
  ·exact h.sl s h1
  ·obtain rfl:=mem_singleton.1 h1
   simp
 ·exact nA (P:=λx=>x.Locs.length<=300/\x.Data.length<=300) h.cl (λn hn=>⟨by simp,(hd.ch n hn).2.1⟩) λx hx n hn=>⟨hx.1,(hd.ch n hn).2.1⟩
 ·intro s hs
  rcases mem_append.1 hs with h1 | h1
  ·exact h.man s h1
  ·obtain rfl:=mem_singleton.1 h1
   exact⟨m1,m2,m3⟩
theorem kD (c:aA) (y:aB):(FU c y).Locs=y.Locs/\(FU c y).Id=y.Id/\((FU c y).Data=y.Data\/(FU c y).Data= []):=by
 unfold FU
 split
 ·exact⟨rfl,rfl,.inl rfl⟩
 ·exact⟨rfl,rfl,.inr rfl⟩
theorem JH {c:aA} (h:Sm c):Sm { c with Chunks:=LD c}:=by
 obtain⟨g0,g1,g2,g3,g4⟩:=h.g
 refine { h with g:=⟨g0,g1, ?_,g3,g4⟩,ch:= ?_,cl:= ?_}
 ·intro y hy
  obtain⟨x,hx,rfl⟩:=mem_map.1 hy
  obtain⟨e1,e2,e3⟩:=kD c x
  have:=g2 x (mem_filter.1 hx).1
  refine⟨by rw[e2]; exact this.1,trivial, ?_,by rw[e1]; exact this.2.2.2⟩
  rcases e3 with e | e<;>rw[e]
  ·exact this.2.2.1
  ·intro z hz; cases hz
 ·show (map _ _).length<=400
  rw[List.length_map]
  exact Nat.le_trans (List.length_filter_le _ _) h.ch
 ·intro y hy
  obtain⟨x,hx,rfl⟩:=mem_map.1 hy
  obtain⟨e1,e2,e3⟩:=kD c x
  have:=h.cl x (mem_filter.1 hx).1
  refine⟨by rw[e1]; exact this.1, ?_⟩
  rcases e3 with e | e<;>rw[e]
  ·exact this.2
  ·simp
theorem H6 {c:aA} {n:Int} (h:Sm c):Sm (C8 c n):=JH (uL h _)
theorem aJO {F:Nat} {l:List aI} {f:aI->Option Bool} (q:aI->Bool) (hF:1000<=F) (hl:l.length<=400) (hf:∀x∈l,f x=some (q x)):FO F l f=some (l.filter λx=> !q x):=by
 have h119:FN F l f=some (qX l q):=by
  unfold FN
  refine kM q (by omega) (λi x hx hm hi=> ?_) (by unfold qE; simp)
  unfold qE
  rw[f0 (by omega)]
  simp only[a8,hx,hf x hm,bind_some,ofNat_lt,hi,decide_true,if_true]
  split<;>rfl
 unfold FO
 rw[h119]
 simp only[bind_some]
 cases ha:l.any q with
 | false=>
  rw[jW ha]
  simp only[beq_self_eq_true,if_true]
  rw[filter_eq_self.2 λx hx=>by simpa using any_eq_false.1 ha x hx]
 | true=>
  obtain⟨i,x,h1,h2,h3,h4⟩:=i7 ha
  rw[h1]
  have hn:((i:Int)== -1)=false:=by simp
  have hil:=(List.getElem?_eq_some_iff.1 h2).1
  rw[hn,f0 (by omega)]
  simp only[Bool.false_eq_true,if_false]
  obtain⟨cur,w,e1,e2,e3,e4⟩:=tY (l:=l) (q:=q) (F:=F) (body:=λs=>oI F f s.1 s.2.1 s.2.2) (by omega) h2 h3 h4 (λcur w r x hc hw hr hx hm=>by
   unfold oI
   simp only
   rw[f0 (i:=r) (by omega),f0 (i:=w) (by omega)]
   have hcw:cur[w]? =some cur[w]:=getElem?_eq_getElem (by omega)
   simp only[a8,hx,hf x hm,bind_some,hc,ofNat_lt,hr,decide_true,if_true,hcw,Int.toNat_natCast]
   cases q x<;>rfl) (λcur w hc=>by unfold oI; simp[hc])
  rw[e1]
  simp only[aG]
  have g1:(decide ((0:Int)<=(w:Int)) && decide ((w:Int) < (cur.length:Int)))=true:=by simp; omega
  have g2:(decide ((0:Int)<=(w:Int)) && decide ((w:Int)<=(cur.length:Int)))=true:=by simp; omega
  simp only[grd,g1,g2,if_true,Int.toNat_natCast,e4]
end Go.Proofs.YtbbifdfldpfphaaGreat
