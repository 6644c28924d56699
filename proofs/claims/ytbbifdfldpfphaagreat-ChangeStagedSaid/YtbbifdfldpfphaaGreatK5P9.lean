import Derived.Test.YtbbifdfldpfphaaGreatK5P4
import Derived.Test.YtbbifdfldpfphaaGreatK5P5
import Derived.Test.YtbbifdfldpfphaaGreatK5P8
import Derived.Test.YtbbifdfldpfphaaGreatK5P7
set_option linter.unusedSimpArgs false
set_option linter.unusedVariables false
set_option maxHeartbeats 4000000
set_option maxRecDepth 100000
namespace Go.Proofs.YtbbifdfldpfphaaGreat
open Go.Vm
def tZ (m:Nat) (p0:List dS) (q0:Int):Option (Lp (Int) (Bool)):=
 if (decide (q0 < (p0.length:Int)))=true then ((ix p0 q0).bind λx0=>if (decide (200 < (x0.Data.length:Int)))=true then (some (.ret true)) else some (.go (IntKind.wrap .i64 (q0+1)))) else some (.brk q0)
def KC (m:Nat) (p0:List dS):Option (Bool):=
 if (decide (6 < (p0.length:Int)))=true then (some true) else after (aU (λs=>tZ m p0 s) m 0) λr0=>some false
theorem aAY {u:Nat} {p0:List dS} {o:Bool} (h:aE) (m:KC u p0=some o):
 aL Tryz.prog 139 [.sl none 2 (List.map eV p0)] h (λr h'=>r= .sc (.bool o)∧h'=h):=by
 refine f8 20 [.tmp 2] Tryz.func139 rfl rfl rfl rfl ?_
 unfold KC at m
 refine v (v (dE z8 rfl (v ?_)))
 apply vi m <;> intro c4 m
 refine v (v ?_)
 obtain rfl:=eT m
 exact eD rfl
 refine v (v (jY m (σ:=Int) (λs=> []) (λs=>.c 0 (.sl none 2 (List.map eV p0)) (.c 3 (nZ s) .nil)) (lx (.k2 .nil)) ?_ ?_))
 rintro _ q0 x m
 replace m:tZ u p0 q0=some x:=m
 unfold tZ at m
 refine v (dE z8 rfl (v ?_))
 apply vi m <;> intro c0 m
 refine v (v (v (vx m pL rfl rfl λ_ _ m=>dE kK rfl (v ?_))))
 apply vi m <;> intro c1 m
 refine v (v (gM m λm=> ?_))
 obtain rfl:=eT m
 exact eD rfl
 exact v (v (rH m))
 exact v (OO m)
 rintro _ r0 m
 refine v (v ?_)
 obtain rfl:=eT m
 exact eD rfl
theorem SG:aO Tryz.prog 139=true:=by kernel_rfl
def C4 (m:Nat) (p0:List dS) (q0:Int):Option (Lp (Int) ((List dS)×Int)):=
 if (decide (q0 < (p0.length:Int)))=true then ((ix p0 q0).bind λx0=>(CR m x0.Path).bind λy0=>if (!y0)=true then (some (.ret ([],1))) else some (.go (IntKind.wrap .i64 (q0+1)))) else some (.brk q0)
def C5 (m:Nat) (p0:List dS) (q0:List dS) (q1:Int) (q2:Int):Option (Lp (Int) (Lp ((List dS)×Int) ((List dS)×Int))):=
 after (if (decide (q2 < (q0.length:Int)))=true then ((ix q0 q2).bind λx0=>(ix p0 q1).bind λx1=>some (.brk (Op.bytesLess x0.Path.toList x1.Path.toList))) else some (.brk false):Option (Lp (Bool) (Lp (Int) (Lp ((List dS)×Int) ((List dS)×Int))))) λj0=>if j0=true then (some (.go (IntKind.wrap .i64 (q2+1)))) else some (.brk q2)
def C6 (m:Nat) (p0:List dS) (q0:List dS) (q1:Int):Option (Lp ((List dS)×Int) ((List dS)×Int)):=
 if (decide (q1 < (p0.length:Int)))=true then (after (aU (λs=>C5 m p0 q0 q1 s) m 0) λr0=>after (if (decide (r0 < (q0.length:Int)))=true then ((ix q0 r0).bind λx0=>(ix p0 q1).bind λx1=>some (.brk (x0.Path.toList==x1.Path.toList))) else some (.brk false):Option (Lp (Bool) (Lp ((List dS)×Int) ((List dS)×Int)))) λj0=>if j0=true then (some (.ret ([],9))) else (slc q0 0 r0).bind λx2=>(ix p0 q1).bind λx3=>(ix p0 q1).bind λx4=>(app ([]:List dS) x2).bind λz0=>(vM m x4.Data).bind λy0=>(app z0 ([({ Path:=x3.Path,Data:=y0}:dS)]:List dS)).bind λz1=>(slc q0 r0 (q0.length:Int)).bind λx5=>(app z1 x5).bind λz2=>some (.go (z2,IntKind.wrap .i64 (q1+1)))) else some (.brk (q0,q1))
def M85 (m:Nat) (p0:List dS):Option ((List dS)×Int):=
 (KC m p0).bind λy4=>if y4=true then (some ([],2)) else after (aU (λs=>C4 m p0 s) m 0) λr0=>after (aU (λs=>C6 m p0 s.1 s.2) m ([],0)) λ⟨r1,r2⟩=>some (r1,0)
theorem W85 {w:Nat} {p0:List dS} {o:(List dS)×Int} (h:aE) (m:M85 w p0=some o):
 aL Tryz.prog 85 [.sl none 2 (List.map eV p0)] h (λr h'=>r= .tup [.sl none 2 (List.map eV o.1),nZ o.2]∧h'=h):=by
 refine f8 91 [.tmp 2,.tmp 3] Tryz.func85 rfl rfl rfl rfl ?_
 unfold M85 at m
 refine v (v (vk aAY SG m rfl rfl λ_ m=>v ?_))
 apply vi m <;> intro c6 m
 refine v (v ?_)
 cases m
 exact vr λu=>dW.of2 (.inl rfl) (fT _ _ (.sc (.slice _ _ _)) rfl) (fT _ _ (.sc (.int _ _)) rfl) (iD.refl _) (aX _) (bF.refl _ _) ⟨rfl,rfl⟩
 refine v (v (jY m (σ:=Int) (λs=> []) (λs=>.c 0 (.sl none 2 (List.map eV p0)) (.c 4 (nZ s) .nil)) (lx (.k2 .nil)) ?_ ?_))
 rintro _ q0 x m
 replace m:C4 w p0 q0=some x:=m
 unfold C4 at m
 refine v (dE z8 rfl (v ?_))
 apply vi m <;> intro c0 m
 refine v (v (v (vx m pL rfl rfl λ_ _ m=>vk MH EN m rfl rfl λ_ m=>v ?_)))
 apply vi m <;> intro c1 m
 refine v (v (gM m λm=> ?_))
 cases m
 exact vr λu=>dW.of2 (.inl rfl) (fT _ _ (.sc (.slice _ _ _)) rfl) (fT _ _ (.sc (.int _ _)) rfl) (iD.refl _) (aX _) (bF.refl _ _) ⟨rfl,rfl⟩
 exact v (v (rH m))
 exact v (OO m)
 rintro _ r0 m
 refine v (v (qK (FL (.tok 95 2 (([]:List dS).length*2)) 5 (ow none 2 (List.map eV [])) (jD _ _)) (nR m (σ:=(List dS)×Int) (τ:=Option cB) (λg s=> [(g,.tok 95 2 ((s.1:List dS).length*2))]) (λg s=>(g=none→s.1= [])) (λg s=>.c 0 (.sl none 2 (List.map eV p0)) (.c 5 (ow g 2 (List.map eV s.1)) (.c 6 (nZ s.2) .nil))) none (λ_=>rfl) (lx (.k3 .nil)) ?_ ?_)))
 rintro tg0 ⟨q1,q2⟩ x t0 m
 replace m:C6 w p0 q1 q2=some x:=m
 unfold C6 at m
 refine v (dE z8 rfl (v ?_))
 apply vi m <;> intro c2 m
 refine v (v (v (vs (jY m (σ:=Int) (λs=> [(tg0,.tok 95 2 ((q1:List dS).length*2))]) (λs=>.c 0 (.sl none 2 (List.map eV p0)) (.c 5 (ow tg0 2 (List.map eV q1)) (.c 6 (nZ q2) (.c 7 (nZ s) .nil)))) (lx (.k4 .nil)) ?_ ?_))))
 rintro _ q3 x m
 replace m:C5 w p0 q1 q2 q3=some x:=m
 unfold C5 at m
 refine vs (vs (fN m (σ:=Bool) (λs=> [(tg0,.tok 95 2 ((q1:List dS).length*2))]) (λs=>.c 0 (.sl none 2 (List.map eV p0)) (.c 5 (ow tg0 2 (List.map eV q1)) (.c 6 (nZ q2) (.c 7 (nZ q3) (.c 46 (.sc (.bool s)) .nil))))) (λx m=> ?_) ?_))
 refine v (vq (by kernel_rfl) (bU (uQ z8 t0 rfl) ?_))
 apply vi m <;> intro b0 m
 rw[b0]
 obtain⟨_,X0,m⟩:=aC m
 exact bU (RI X0 pL t0 rfl rfl) (vx m pL rfl rfl λ_ _ m=>bU (BT rfl rfl rfl trivial) (lX m))
 rw[b0]
 exact lX m
 rintro _ j0 m
 refine v ?_
 apply vi m <;> intro c3 m
 exact v (v (v (iE m)))
 exact v (wW m)
 rintro _ r1 m
 refine vs (vs (fN m (σ:=Bool) (λs=> [(tg0,.tok 95 2 ((q1:List dS).length*2))]) (λs=>.c 0 (.sl none 2 (List.map eV p0)) (.c 5 (ow tg0 2 (List.map eV q1)) (.c 6 (nZ q2) (.c 7 (nZ r1) (.c 65 (.sc (.bool s)) .nil))))) (λx m=> ?_) ?_))
 refine v (vq (by kernel_rfl) (bU (uQ z8 t0 rfl) ?_))
 apply vi m <;> intro b1 m
 rw[b1]
 obtain⟨_,X1,m⟩:=aC m
 exact bU (RI X1 pL t0 rfl rfl) (vx m pL rfl rfl λ_ _ m=>bU (BT rfl rfl rfl trivial) (lX m))
 rw[b1]
 exact lX m
 rintro _ j1 m
 refine v ?_
 apply vi m <;> intro c4 m
 refine v (v (gM m λm=> ?_))
 cases m
 exact vr λu=>dW.of2 (.inl rfl) (fT _ _ (.sc (.slice _ _ _)) rfl) (fT _ _ (.sc (.int _ _)) rfl) (aT (List.nil_sublist _) u).1 (aX _) (bF.refl _ _) ⟨rfl,rfl⟩
 refine v (v (v (vz [] mixed (λu=>trivial) λu=>zC 0 rfl (eY (.sc (.slice _ _ _)) rfl) (zC 1 rfl (eY (ow _ _ _) rfl) (zI 2 rfl rfl ?_)))))
 obtain⟨_,X2,m⟩:=aC m
 refine zC 3 rfl (CA X2 pL rfl t0 rfl rfl rfl) (zC 5 rfl (eY (.sl _ _ _) rfl) (zI 6 rfl rfl ?_))
 obtain⟨x0,X3,m⟩:=aC m
 refine zC 7 rfl (nO X3 pL rfl rfl) (zC 8 rfl (oM L5 rfl rfl) (zC 9 rfl (nX (.sc (.string x0.Path)) zU rfl rfl) (zC 10 rfl (eY (.sl _ _ _) rfl) (zI 11 rfl rfl ?_))))
 obtain⟨x1,X4,m⟩:=aC m
 refine zC 12 rfl (nO X4 pL rfl rfl) (zC 13 rfl (oM L6 rfl rfl) (zC 14 rfl (nX (.sl none 1 (List.map dF x1.Data)) kA rfl rfl) ?_))
 obtain⟨z0,Z0,m⟩:=aC m
 refine zE 4 rfl (oN (c:=eV) Z0 PY rfl rfl u nofun (n3 (sI X2 t0)) λtg1 t1 K0=>⟨trivial, ?_⟩)
 obtain⟨y0,Y0,m⟩:=aC m
 refine zC 15 rfl (bY (MS _ Y0) rfl EU rfl) (zC 16 rfl (eS (eV ({ Path:=x0.Path,Data:=y0}:dS)) aDC rfl) (zC 17 rfl (eK (List.map eV ([({ Path:=x0.Path,Data:=y0}:dS)]:List dS)) PY rfl rfl rfl rfl) ?_))
 obtain⟨z1,Z1,m⟩:=aC m
 refine zE 18 rfl (fF (c:=eV) 0 Z1 PY rfl rfl rfl t1 K0 rfl λtg2 t2 K1=>⟨trivial, ?_⟩)
 refine zC 19 rfl (iC (ow _ _ _) rfl) (zX (qk (f:=.c 8 _ (PN 84 _ _ _ _ (.c 70 _ (PO 80 _ _ _ _ _ _ _ _ _ _ (PN 69 _ _ _ _ _))))) K1 rfl (v ?_)))
 obtain⟨_,X5,m⟩:=aC m
 refine bU (CA X5 pL rfl t0 rfl rfl rfl) ?_
 obtain⟨z2,Z2,m⟩:=aC m
 exact ve λu=>fF (c:=eV) 0 Z2 PY rfl rfl rfl t2 u (n3 (sI X5 t0)) λtg3 t3 K2=>qk K2 rfl (v (eW m tg3 t3 (lW [0] rfl rfl (.k3 .nil))))
 exact v (lM m tg0 t0 (lx (.k3 .nil)))
 rintro tg4 ⟨r2,r3⟩ t4 m
 refine v (v ?_)
 cases m
 exact vr λu=>dW.of2 (.inl rfl) (fT _ _ (ow _ _ _) rfl) (fT _ _ (.sc (.int _ _)) rfl) (aT (List.nil_sublist _) u).1 ((eZ _ 0 t4 u rfl)) (bF.refl _ _) ⟨rfl,rfl⟩
theorem aF6:aO Tryz.prog 85=true:=by kernel_rfl
def U3 (m:Nat):Option ((Ar 64)):=
 some (⟨[1116352408,1899447441,3049323471,3921009573,961987163,1508970993,2453635748,2870763221,3624381080,310598401,607225278,1426881987,1925078388,2162078206,2614888103,3248222580,3835390401,4022224774,264347078,604807628,770255983,1249150122,1555081692,1996064986,2554220882,2821834349,2952996808,3210313671,3336571891,3584528711,113926993,338241895,666307205,773529912,1294757372,1396182291,1695183700,1986661051,2177026350,2456956037,2730485921,2820302411,3259730800,3345764771,3516065817,3600352804,4094571909,275423344,430227734,506948616,659060556,883997877,958139571,1322822218,1537002063,1747873779,1955562222,2024104815,2227730452,2361852424,2428436474,2756734187,3204031479,3329325298],rfl⟩:Ar 64)
theorem aF7 {w:Nat} {o:(Ar 64)} (h:aE) (m:U3 w=some o):
 aL Tryz.prog 144 [] h (λr h'=>r= .agg (dD o)∧h'=h):=by
 refine f8 2 [.cell 0 181] Tryz.func144 rfl rfl rfl rfl ?_
 unfold U3 at m
 refine v (ve λu=>bJ (dD (V0 64)) u L9 rfl rfl λk2 K3=>qk K3 rfl (v (bU (CB [1116352408,1899447441,3049323471,3921009573,961987163,1508970993,2453635748,2870763221,3624381080,310598401,607225278,1426881987,1925078388,2162078206,2614888103,3248222580,3835390401,4022224774,264347078,604807628,770255983,1249150122,1555081692,1996064986,2554220882,2821834349,2952996808,3210313671,3336571891,3584528711,113926993,338241895,666307205,773529912,1294757372,1396182291,1695183700,1986661051,2177026350,2456956037,2730485921,2820302411,3259730800,3345764771,3516065817,3600352804,4094571909,275423344,430227734,506948616,659060556,883997877,958139571,1322822218,1537002063,1747873779,1955562222,2024104815,2227730452,2361852424,2428436474,2756734187,3204031479,3329325298] rfl TT rfl rfl rfl) (ve λu=>aK 0 (dD (⟨[1116352408,1899447441,3049323471,3921009573,961987163,1508970993,2453635748,2870763221,3624381080,310598401,607225278,1426881987,1925078388,2162078206,2614888103,3248222580,3835390401,4022224774,264347078,604807628,770255983,1249150122,1555081692,1996064986,2554220882,2821834349,2952996808,3210313671,3336571891,3584528711,113926993,338241895,666307205,773529912,1294757372,1396182291,1695183700,1986661051,2177026350,2456956037,2730485921,2820302411,3259730800,3345764771,3516065817,3600352804,4094571909,275423344,430227734,506948616,659060556,883997877,958139571,1322822218,1537002063,1747873779,1955562222,2024104815,2227730452,2361852424,2428436474,2756734187,3204031479,3329325298],rfl⟩:Ar 64)) u rfl rfl rfl rfl RO rfl rfl λK6=>qk K6 rfl ?_))))
 refine v ?_
 cases m
 exact vr λu=>dW.of1 (.inl rfl) (qW (.agg (dD (⟨[1116352408,1899447441,3049323471,3921009573,961987163,1508970993,2453635748,2870763221,3624381080,310598401,607225278,1426881987,1925078388,2162078206,2614888103,3248222580,3835390401,4022224774,264347078,604807628,770255983,1249150122,1555081692,1996064986,2554220882,2821834349,2952996808,3210313671,3336571891,3584528711,113926993,338241895,666307205,773529912,1294757372,1396182291,1695183700,1986661051,2177026350,2456956037,2730485921,2820302411,3259730800,3345764771,3516065817,3600352804,4094571909,275423344,430227734,506948616,659060556,883997877,958139571,1322822218,1537002063,1747873779,1955562222,2024104815,2227730452,2361852424,2428436474,2756734187,3204031479,3329325298],rfl⟩:Ar 64))) XB rfl (bB 0 u rfl) rfl) (aT (List.nil_sublist _) u).1 (bF.refl _ _) ⟨rfl,rfl⟩
theorem aA0:aO Tryz.prog 144=true:=by kernel_rfl
def w7 (m:Nat) (q0:List Int):Option (Lp ((List Int)) ((List Int))):=
 if (((IntKind.wrap .i64 ((q0.length:Int)+8)).tmod 64) !=0)=true then ((app q0 ([0]:List Int)).bind λz0=>some (.go z0)) else some (.brk q0)
def w8 (m:Nat) (p0:List Int) (q0:List Int) (q1:Int):Option (Lp ((List Int)×Int) ((List Int))):=
 if (decide (0≤q1))=true then (grd (decide (0≤(IntKind.wrap .u64 (8*(IntKind.wrap .u64 q1))))) <| (app q0 ([IntKind.wrap .u8 ((IntKind.wrap .u64 ((IntKind.wrap .u64 (p0.length:Int))*8)).fdiv (2 ^ (min ((IntKind.wrap .u64 (8*(IntKind.wrap .u64 q1))):Int).toNat (IntKind.bits .u64))))]:List Int)).bind λz0=>some (.go (z0,IntKind.wrap .i64 (q1 - 1)))) else some (.brk (q0,q1))
def NO (m:Nat) (p0:List Int):Option ((List Int)):=
 (app ([]:List Int) p0).bind λz4=>(app z4 ([128]:List Int)).bind λz0=>after (aU (λs=>w7 m s) m z0) λr0=>after (aU (λs=>w8 m p0 s.1 s.2) m (r0,7)) λ⟨r1,r2⟩=>some r1
theorem aF8 {w:Nat} {p0:List Int} {o:(List Int)} (h:aE) (m:NO w p0=some o):
 aL Tryz.prog 145 [.sl none 1 (List.map dF p0)] h (λr h'=>r= .sl none 1 (List.map dF o)∧h'=h):=by
 refine f8 37 [.tmp 2] Tryz.func145 rfl rfl rfl rfl ?_
 unfold NO at m
 refine v (v (v ?_))
 obtain⟨z4,Z5,m⟩:=aC m
 refine ve λu=>oN (c:=dF) Z5 jH rfl rfl u nofun rfl λtg6 t7 K8=>qk K8 rfl (bU (eK (List.map dF ([128]:List Int)) jH rfl rfl rfl rfl) ?_)
 obtain⟨z0,Z0,m⟩:=aC m
 refine ve λu=>fF (c:=dF) 0 Z0 jH rfl rfl rfl t7 u rfl λtg0 t0 K0=>qk K0 rfl (vs (nR m (σ:=(List Int)) (τ:=Option cB) (λg s=> [(g,.tok 5 1 ((s:List Int).length*1))]) (λg s=>(g=none→s= [])) (λg s=>.c 0 (.sl none 1 (List.map dF p0)) (.c 3 (ow g 1 (List.map dF s)) .nil)) tg0 t0 (lx (.k2 .nil)) ?_ ?_))
 rintro tg1 q0 x t1 m
 replace m:w7 w q0=some x:=m
 unfold w7 at m
 refine v (bU (uQ kK t1 rfl) (v ?_))
 apply vi m <;> intro c0 m
 refine v (v (v (bU (eK (List.map dF ([0]:List Int)) jH rfl rfl rfl rfl) ?_)))
 obtain⟨z1,Z1,m⟩:=aC m
 exact ve λu=>fF (c:=dF) 0 Z1 jH rfl rfl rfl t1 u rfl λtg2 t2 K1=>qk K1 rfl (eW m tg2 t2 (lx (.k2 .nil)))
 exact v (lM m tg1 t1 (lx (.k2 .nil)))
 rintro tg3 r0 t3 m
 refine v (dE kK rfl (v (nR m (σ:=(List Int)×Int) (τ:=Option cB) (λg s=> [(g,.tok 5 1 ((s.1:List Int).length*1))]) (λg s=>(g=none→s.1= [])) (λg s=>.c 3 (ow g 1 (List.map dF s.1)) (.c 4 (.sc (.int .u64 (IntKind.wrap .u64 ((IntKind.wrap .u64 (p0.length:Int))*8)))) (.c 5 (nZ s.2) .nil))) tg3 t3 (lx (.k3 .nil)) ?_ ?_)))
 rintro tg4 ⟨q1,q2⟩ x t4 m
 replace m:w8 w p0 q1 q2=some x:=m
 unfold w8 at m
 refine v (v ?_)
 apply vi m <;> intro c1 m
 refine v (v (v (PP m λ_ m=>bU (eK (List.map dF ([IntKind.wrap .u8 ((IntKind.wrap .u64 ((IntKind.wrap .u64 (p0.length:Int))*8)).fdiv (2 ^ (min ((IntKind.wrap .u64 (8*(IntKind.wrap .u64 q2))):Int).toNat (IntKind.bits .u64))))]:List Int)) jH rfl rfl rfl rfl) ?_)))
 obtain⟨z2,Z2,m⟩:=aC m
 exact ve λu=>fF (c:=dF) 0 Z2 jH rfl rfl rfl t4 u rfl λtg5 t5 K2=>qk K2 rfl (v (eW m tg5 t5 (lx (.k3 .nil))))
 exact v (lM m tg4 t4 (lx (.k3 .nil)))
 rintro tg7 ⟨r1,r2⟩ t6 m
 refine v (v ?_)
 obtain rfl:=eT m
 exact vr λu=>dW.of1 (.inl rfl) (fT _ _ (ow _ _ _) rfl) (aT (List.nil_sublist _) u).1 ((eZ _ 0 t6 u rfl)) ⟨rfl,rfl⟩
theorem aA1:aO Tryz.prog 145=true:=by kernel_rfl
def uA (m:Nat) (p0:Int) (p1:Int):Option (Int):=
 grd (decide (0≤p1)) <| grd (decide (0≤(IntKind.wrap .u64 (32 - p1)))) <| some (cH .or .u32 (p0.fdiv (2 ^ (min (p1:Int).toNat (IntKind.bits .u32)))) (IntKind.wrap .u32 (p0*2 ^ (min ((IntKind.wrap .u64 (32 - p1)):Int).toNat (IntKind.bits .u32)))))
theorem AF {u:Nat} {p0:Int} {p1:Int} {o:Int} (h:aE) (m:uA u p0 p1=some o):
 aL Tryz.prog 146 [.sc (.int .u32 p0),.sc (.int .u64 p1)] h (λr h'=>r= .sc (.int .u32 o)∧h'=h):=by
 refine f8 13 [.tmp 4] Tryz.func146 rfl rfl rfl rfl ?_
 unfold uA at m
 refine v (v (PP m λ_ m=>PP m λ_ m=>v ?_))
 cases m
 exact eD rfl
theorem qZ:aO Tryz.prog 146=true:=by kernel_rfl
def C7 (m:Nat) (y0:(List Int)) (q0:Int) (q1:Int) (q2:Ar 64) (q3:Int):Option (Lp ((Ar 64)×Int) (Lp ((Ar 64)) (Lp ((Ar 64)×Int) (Lp ((Ar 8)×Int) (bO))))):=
 if (decide (q3 < 4))=true then ((ix q2.1 q1).bind λx0=>(ix y0 (IntKind.wrap .i64 ((IntKind.wrap .i64 (q0+(IntKind.wrap .i64 (4*q1))))+q3))).bind λx1=>(ix q2.1 q1).bind λ_=>some (.go (RJ q2 q1.toNat (cH .or .u32 (IntKind.wrap .u32 (x0*2 ^ (min (8:Int).toNat (IntKind.bits .u32)))) (IntKind.wrap .u32 x1)),IntKind.wrap .i64 (q3+1)))) else some (.brk (q2,q3))
def C8 (m:Nat) (y0:(List Int)) (q0:Int) (q1:Ar 64) (q2:Int):Option (Lp ((Ar 64)×Int) (Lp ((Ar 8)×Int) (bO))):=
 if (decide (q2 < 64))=true then (after (if (decide (q2 < 16))=true then (after (aU (λs=>C7 m y0 q0 q2 s.1 s.2) m (q1,0)) λ⟨r0,r1⟩=>some (.brk r0)) else (ix q1.1 (IntKind.wrap .i64 (q2 - 15))).bind λx0=>(ix q1.1 (IntKind.wrap .i64 (q2 - 2))).bind λx1=>(ix q1.1 (IntKind.wrap .i64 (q2 - 16))).bind λx2=>(ix q1.1 (IntKind.wrap .i64 (q2 - 7))).bind λx3=>(uA m x0 7).bind λy1=>(uA m x0 18).bind λy2=>(uA m x1 17).bind λy3=>(uA m x1 19).bind λy4=>(ix q1.1 q2).bind λ_=>some (.brk (RJ q1 q2.toNat (IntKind.wrap .u32 ((IntKind.wrap .u32 ((IntKind.wrap .u32 (x2+x3))+(cH .xor .u32 (cH .xor .u32 y1 y2) (x0.fdiv (2 ^ (min (3:Int).toNat (IntKind.bits .u32)))))))+(cH .xor .u32 (cH .xor .u32 y3 y4) (x1.fdiv (2 ^ (min (10:Int).toNat (IntKind.bits .u32))))))))):Option (Lp ((Ar 64)) (Lp ((Ar 64)×Int) (Lp ((Ar 8)×Int) (bO))))) λj0=>some (.go (j0,IntKind.wrap .i64 (q2+1)))) else some (.brk (q1,q2))
def C9 (m:Nat) (y6:(Ar 64)) (r0:Ar 64) (q0:Ar 8) (q1:Int):Option (Lp ((Ar 8)×Int) (Lp ((Ar 8)×Int) (bO))):=
 if (decide (q1 < 64))=true then ((ix q0.1 0).bind λx0=>(ix q0.1 4).bind λx1=>(ix q0.1 7).bind λx2=>(uA m x1 6).bind λy0=>(uA m x1 11).bind λy1=>(uA m x1 25).bind λy2=>(ix q0.1 5).bind λx3=>(ix q0.1 6).bind λx4=>(ix y6.1 q1).bind λx5=>(ix r0.1 q1).bind λx6=>(uA m x0 2).bind λy3=>(uA m x0 13).bind λy4=>(uA m x0 22).bind λy5=>(ix q0.1 1).bind λx7=>(ix q0.1 2).bind λx8=>(ix q0.1 1).bind λx9=>(ix q0.1 2).bind λx10=>(ix q0.1 0).bind λx11=>(ix q0.1 1).bind λx12=>(ix q0.1 2).bind λx13=>(ix q0.1 3).bind λx14=>(ix q0.1 4).bind λx15=>(ix q0.1 5).bind λx16=>(ix q0.1 6).bind λx17=>some (.go ((⟨[IntKind.wrap .u32 ((IntKind.wrap .u32 ((IntKind.wrap .u32 ((IntKind.wrap .u32 ((IntKind.wrap .u32 (x2+(cH .xor .u32 (cH .xor .u32 y0 y1) y2)))+(cH .xor .u32 (cH .and .u32 x1 x3) (cH .and .u32 (cH .xor .u32 (IntKind.max .u32) x1) x4))))+x5))+x6))+(IntKind.wrap .u32 ((cH .xor .u32 (cH .xor .u32 y3 y4) y5)+(cH .xor .u32 (cH .xor .u32 (cH .and .u32 x0 x7) (cH .and .u32 x0 x8)) (cH .and .u32 x9 x10))))),x11,x12,x13,IntKind.wrap .u32 (x14+(IntKind.wrap .u32 ((IntKind.wrap .u32 ((IntKind.wrap .u32 ((IntKind.wrap .u32 (x2+(cH .xor .u32 (cH .xor .u32 y0 y1) y2)))+(cH .xor .u32 (cH .and .u32 x1 x3) (cH .and .u32 (cH .xor .u32 (IntKind.max .u32) x1) x4))))+x5))+x6))),x15,x16,x17],rfl⟩:Ar 8),IntKind.wrap .i64 (q1+1)))) else some (.brk (q0,q1))
def DA (m:Nat) (r0:Ar 8) (q0:Ar 8) (q1:Int):Option (Lp ((Ar 8)×Int) (Lp ((Ar 8)×Int) (bO))):=
 if (decide (q1 < 8))=true then ((ix q0.1 q1).bind λx0=>(ix r0.1 q1).bind λx1=>(ix q0.1 q1).bind λ_=>some (.go (RJ q0 q1.toNat (IntKind.wrap .u32 (x0+x1)),IntKind.wrap .i64 (q1+1)))) else some (.brk (q0,q1))
def DB (m:Nat) (y6:(Ar 64)) (y0:(List Int)) (q0:Ar 8) (q1:Int):Option (Lp ((Ar 8)×Int) (bO)):=
 if (decide (q1 < (y0.length:Int)))=true then (after (aU (λs=>C8 m y0 q1 s.1 s.2) m ((V0 64),0)) λ⟨r0,r1⟩=>after (aU (λs=>C9 m y6 r0 s.1 s.2) m (q0,0)) λ⟨r2,r3⟩=>after (aU (λs=>DA m r2 s.1 s.2) m (q0,0)) λ⟨r4,r5⟩=>some (.go (r4,IntKind.wrap .i64 (q1+64)))) else some (.brk (q0,q1))
def w9 (m:Nat) (r0:Ar 8) (q0:bO) (q1:Int):Option (Lp (bO×Int) (bO)):=
 if (decide (q1 < 32))=true then ((ix r0.1 (IntKind.wrap .i64 (q1.tdiv 4))).bind λx0=>grd (decide (0≤(IntKind.wrap .u64 (IntKind.wrap .i64 (24 - (IntKind.wrap .i64 (8*(q1.tmod 4)))))))) <| (ix q0.1 q1).bind λ_=>some (.go (RJ q0 q1.toNat (IntKind.wrap .u8 (x0.fdiv (2 ^ (min ((IntKind.wrap .u64 (IntKind.wrap .i64 (24 - (IntKind.wrap .i64 (8*(q1.tmod 4)))))):Int).toNat (IntKind.bits .u32))))),IntKind.wrap .i64 (q1+1)))) else some (.brk (q0,q1))
def V9 (m:Nat) (p0:List Int):Option (bO):=
 (U3 m).bind λy6=>(NO m p0).bind λy0=>after (aU (λs=>DB m y6 y0 s.1 s.2) m ((⟨[1779033703,3144134277,1013904242,2773480762,1359893119,2600822924,528734635,1541459225],rfl⟩:Ar 8),0)) λ⟨r0,r1⟩=>after (aU (λs=>w9 m r0 s.1 s.2) m (jW,0)) λ⟨r2,r3⟩=>some r2
theorem W87 {w:Nat} {p0:List Int} {o:bO} (h:aE) (m:V9 w p0=some o):
 aL Tryz.prog 87 [.sl none 1 (List.map dF p0)] h (λr h'=>r= .agg (bL o)∧h'=h):=by
 refine f8 208 [.cell 2 36] Tryz.func87 rfl rfl rfl rfl ?_
 unfold V9 at m
 refine v (ve λu=>bJ (bL jW) u JR rfl rfl λk2 K3=>qk K3 rfl (v (vk aF7 aA0 m rfl rfl λy6 m=>ve λu=>bJ (dD (V0 64)) u L9 rfl rfl λk8 K9=>qk K9 rfl (ve λu=>aK 0 (dD y6) u rfl rfl rfl rfl RO rfl rfl λK0=>qk K0 rfl (v (bU (CB [1779033703,3144134277,1013904242,2773480762,1359893119,2600822924,528734635,1541459225] rfl MB rfl rfl rfl) (ve λu=>bJ (eE (V0 8)) u RP rfl rfl λk13 K1=>qk K1 rfl (ve λu=>aK 0 (eE (⟨[1779033703,3144134277,1013904242,2773480762,1359893119,2600822924,528734635,1541459225],rfl⟩:Ar 8)) u rfl rfl rfl rfl MA rfl rfl λK2=>qk K2 rfl (v (vk aF8 aA1 m rfl rfl λy0 m=>v (jY m (σ:=(Ar 8)×Int) (λs=> [(some k13,.obj 183 (eE s.1)),(some k8,.obj 181 (dD y6)),(some k2,.obj 36 (bL jW))]) (λs=>.c 2 (.ptr k2 0) (.c 3 (.ptr k8 0) (.c 4 (.ptr k13 0) (.c 5 (.sl none 1 (List.map dF y0)) (.c 6 (nZ s.2) .nil))))) (lx (.k5 .nil)) ?_ ?_)))))))))))
 rintro _ ⟨q0,q1⟩ x m
 replace m:DB w y6 y0 q0 q1=some x:=m
 unfold DB at m
 refine v (dE kK rfl (v ?_))
 apply vi m <;> intro c0 m
 refine v (v (v (ve λu=>bJ (dD (V0 64)) u L9 rfl rfl λk1783 K4=>qk K4 rfl (v (jY m (σ:=(Ar 64)×Int) (λs=> [(some k1783,.obj 181 (dD s.1)),(some k13,.obj 183 (eE q0)),(some k8,.obj 181 (dD y6)),(some k2,.obj 36 (bL jW))]) (λs=>.c 2 (.ptr k2 0) (.c 3 (.ptr k8 0) (.c 4 (.ptr k13 0) (.c 5 (.sl none 1 (List.map dF y0)) (.c 6 (nZ q1) (.c 7 (.ptr k1783 0) (.c 8 (nZ s.2) .nil))))))) (lx (.k7 .nil)) ?_ ?_)))))
 rintro _ ⟨q2,q3⟩ x m
 replace m:C8 w y0 q1 q2 q3=some x:=m
 unfold C8 at m
 refine v (v ?_)
 apply vi m <;> intro c1 m
 refine v (vs (fN m (σ:=(Ar 64)) (λs=> [(some k1783,.obj 181 (dD s)),(some k13,.obj 183 (eE q0)),(some k8,.obj 181 (dD y6)),(some k2,.obj 36 (bL jW))]) (λs=>.c 2 (.ptr k2 0) (.c 3 (.ptr k8 0) (.c 4 (.ptr k13 0) (.c 5 (.sl none 1 (List.map dF y0)) (.c 6 (nZ q1) (.c 7 (.ptr k1783 0) (.c 8 (nZ q3) .nil))))))) (λx m=> ?_) ?_))
 refine v (v (v ?_))
 apply vi m <;> intro c2 m
 refine v (jY m (σ:=(Ar 64)×Int) (λs=> [(some k1783,.obj 181 (dD s.1)),(some k13,.obj 183 (eE q0)),(some k8,.obj 181 (dD y6)),(some k2,.obj 36 (bL jW))]) (λs=>.c 2 (.ptr k2 0) (.c 3 (.ptr k8 0) (.c 4 (.ptr k13 0) (.c 5 (.sl none 1 (List.map dF y0)) (.c 6 (nZ q1) (.c 7 (.ptr k1783 0) (.c 8 (nZ q3) (.c 9 (nZ s.2) .nil)))))))) (lx (.k8 .nil)) ?_ ?_)
 rintro _ ⟨q4,q5⟩ x m
 replace m:C7 w y0 q1 q3 q4 q5=some x:=m
 unfold C7 at m
 refine v (v ?_)
 apply vi m <;> intro c3 m
 refine v (v (v (vz [(17,some k1783,.obj 181 (dD q4))] mixed (λu=>⟨λ_=>aJ 0 u rfl,trivial⟩) λu=>zI 0 rfl rfl (zI 1 rfl rfl ?_))))
 obtain⟨x0,X0,m⟩:=aC m
 refine zC 2 rfl (eA (y:=q4) X0 sM rfl rfl) (wL 3 rfl (λ_ _ hi hB=>eP (y:=q4) 0 X0 iF rfl (At.s (fV.get 0 hi rfl (hB 17 (by kernel_rfl)))) (eQ _)) (zC 4 rfl (SS rfl rfl rfl (by decide)) (zC 5 rfl (eY (.sl _ _ _) rfl) (zI 6 rfl rfl (zI 7 rfl rfl (zC 8 rfl (lQ rfl rfl rfl trivial) (zC 9 rfl (lQ rfl rfl rfl trivial) (zI 10 rfl rfl (zC 11 rfl (lQ rfl rfl rfl trivial) ?_)))))))))
 obtain⟨x1,X1,m⟩:=aC m
 refine zC 12 rfl (nO X1 GO rfl rfl) (zC 13 rfl (nX (.sc (.int .u8 x1)) EH rfl rfl) (zC 14 rfl (JK ti5 XA rfl) (zC 15 rfl (lQ rfl rfl rfl trivial) ?_)))
 obtain⟨_,X2,m⟩:=aC m
 refine zC 16 rfl (eA (y:=q4) X2 sM rfl rfl) (zE 17 rfl (wV (y:=q4) (v:=cH .or .u32 (IntKind.wrap .u32 (x0*2 ^ (min (8:Int).toNat (IntKind.bits .u32)))) (IntKind.wrap .u32 x1)) 0 u X2 rfl rfl rfl L8 λK5=>⟨⟨λe=>absurd e (by decide),trivial⟩, ?_⟩))
 exact zX (qk (f:=wM 57 _ _ _ _ _ _ _ _ _ _ _ _ _ _ _ _ _ _) K5 rfl (v (GG m)))
 exact v (bq8 m)
 rintro _ ⟨r0,r1⟩ m
 exact v (CF m)
 refine v (v (vq (by kernel_rfl) ?_))
 obtain⟨x2,X3,m⟩:=aC m
 refine bU (eA (y:=q2) X3 sM rfl rfl) (vn (λu=>eP (y:=q2) 0 X3 iF rfl (bB 0 u rfl) (eQ _)) ?_)
 obtain⟨x3,X4,m⟩:=aC m
 refine bU (eA (y:=q2) X4 sM rfl rfl) (vn (λu=>eP (y:=q2) 0 X4 iF rfl (bB 0 u rfl) (eQ _)) (v (vz [(29,some k1783,.obj 181 (dD q2))] mixed (λu=>⟨λ_=>aJ 0 u rfl,trivial⟩) λu=>zI 0 rfl rfl (zI 1 rfl rfl (zC 2 rfl (lQ rfl rfl rfl trivial) ?_)))))
 obtain⟨x4,X5,m⟩:=aC m
 refine zC 3 rfl (eA (y:=q2) X5 sM rfl rfl) (wL 4 rfl (λ_ _ hi hB=>eP (y:=q2) 0 X5 iF rfl (At.s (fV.get 0 hi rfl (hB 29 (by kernel_rfl)))) (eQ _)) (zI 5 rfl rfl (zC 6 rfl (lQ rfl rfl rfl trivial) ?_)))
 obtain⟨x5,X6,m⟩:=aC m
 refine zC 7 rfl (eA (y:=q2) X6 sM rfl rfl) (wL 8 rfl (λ_ _ hi hB=>eP (y:=q2) 0 X6 iF rfl (At.s (fV.get 0 hi rfl (hB 29 (by kernel_rfl)))) (eQ _)) (zC 9 rfl (lQ rfl rfl rfl trivial) (zI 10 rfl rfl ?_)))
 obtain⟨y1,Y0,m⟩:=aC m
 refine zC 11 rfl (bY (AF _ Y0) rfl qZ rfl) (zI 12 rfl rfl ?_)
 obtain⟨y2,Y1,m⟩:=aC m
 refine zC 13 rfl (bY (AF _ Y1) rfl qZ rfl) (zC 14 rfl (lQ rfl rfl rfl trivial) (zI 15 rfl rfl (zC 16 rfl (SS rfl rfl rfl (by decide)) (zC 17 rfl (lQ rfl rfl rfl trivial) (zC 18 rfl (lQ rfl rfl rfl trivial) (zI 19 rfl rfl ?_))))))
 obtain⟨y3,Y2,m⟩:=aC m
 refine zC 20 rfl (bY (AF _ Y2) rfl qZ rfl) (zI 21 rfl rfl ?_)
 obtain⟨y4,Y3,m⟩:=aC m
 refine zC 22 rfl (bY (AF _ Y3) rfl qZ rfl) (zC 23 rfl (lQ rfl rfl rfl trivial) (zI 24 rfl rfl (zC 25 rfl (SS rfl rfl rfl (by decide)) (zC 26 rfl (lQ rfl rfl rfl trivial) (zC 27 rfl (lQ rfl rfl rfl trivial) ?_)))))
 obtain⟨_,X7,m⟩:=aC m
 refine zC 28 rfl (eA (y:=q2) X7 sM rfl rfl) (zE 29 rfl (wV (y:=q2) (v:=IntKind.wrap .u32 ((IntKind.wrap .u32 ((IntKind.wrap .u32 (x4+x5))+(cH .xor .u32 (cH .xor .u32 y1 y2) (x2.fdiv (2 ^ (min (3:Int).toNat (IntKind.bits .u32)))))))+(cH .xor .u32 (cH .xor .u32 y3 y4) (x3.fdiv (2 ^ (min (10:Int).toNat (IntKind.bits .u32))))))) 0 u X7 rfl rfl rfl L8 λK6=>⟨⟨λe=>absurd e (by decide),trivial⟩, ?_⟩))
 exact zX (qk (f:=aCW 94 _ _ _ _ _ _ _ _ _ _ _ _ _ _ _ _ _ _ _ _ _ _ _ _ _ _ _ _ _ _) K6 rfl (CF m))
 rintro _ j0 m
 exact v (CF m)
 exact v (bq7 m)
 rintro _ ⟨r2,r3⟩ m
 refine v (vl 1 (.agg (eE q0)) XC rfl rfl rfl (ve λu=>bJ (eE (V0 8)) u RP rfl rfl λk2413 K7=>qk K7 rfl (ve λu=>aK 0 (eE q0) u rfl rfl rfl rfl MA rfl rfl λK8=>qk K8 rfl (v (jY m (σ:=(Ar 8)×Int) (λs=> [(some k2413,.obj 183 (eE s.1)),(some k1783,.obj 181 (dD r2)),(some k13,.obj 183 (eE q0)),(some k8,.obj 181 (dD y6)),(some k2,.obj 36 (bL jW))]) (λs=>.c 2 (.ptr k2 0) (.c 3 (.ptr k8 0) (.c 4 (.ptr k13 0) (.c 5 (.sl none 1 (List.map dF y0)) (.c 6 (nZ q1) (.c 7 (.ptr k1783 0) (.c 12 (.ptr k2413 0) (.c 13 (nZ s.2) .nil)))))))) (lx (.k8 .nil)) ?_ ?_)))))
 rintro _ ⟨q6,q7⟩ x m
 replace m:C9 w y6 r2 q6 q7=some x:=m
 unfold C9 at m
 refine v (v ?_)
 apply vi m <;> intro c4 m
 refine v (v (v (vq (by kernel_rfl) ?_)))
 obtain⟨x6,X8,m⟩:=aC m
 refine bU (eA (y:=q6) X8 kJ rfl rfl) (vn (λu=>eP (y:=q6) 0 X8 iF rfl (bB 0 u rfl) (eQ _)) ?_)
 obtain⟨x7,X9,m⟩:=aC m
 refine bU (eA (y:=q6) X9 kJ rfl rfl) (vn (λu=>eP (y:=q6) 0 X9 iF rfl (bB 0 u rfl) (eQ _)) (v (vq (by kernel_rfl) ?_)))
 obtain⟨x8,X10,m⟩:=aC m
 refine bU (eA (y:=q6) X10 kJ rfl rfl) (vn (λu=>eP (y:=q6) 0 X10 iF rfl (bB 0 u rfl) (eQ _)) (vk AF qZ m rfl rfl λy5 m=>vk AF qZ m rfl rfl λy7 m=>vk AF qZ m rfl rfl λy8 m=> ?_))
 obtain⟨x9,X11,m⟩:=aC m
 refine bU (eA (y:=q6) X11 kJ rfl rfl) (vn (λu=>eP (y:=q6) 0 X11 iF rfl (bB 0 u rfl) (eQ _)) (bU (WX rfl rfl) ?_))
 obtain⟨x10,X12,m⟩:=aC m
 refine bU (eA (y:=q6) X12 kJ rfl rfl) (vn (λu=>eP (y:=q6) 0 X12 iF rfl (bB 0 u rfl) (eQ _)) ?_)
 obtain⟨x11,X13,m⟩:=aC m
 refine bU (eA (y:=y6) X13 sM rfl rfl) (vn (λu=>eP (y:=y6) 0 X13 iF rfl (bB 3 u rfl) (eQ _)) ?_)
 obtain⟨x12,X14,m⟩:=aC m
 refine bU (eA (y:=r2) X14 sM rfl rfl) (vn (λu=>eP (y:=r2) 0 X14 iF rfl (bB 1 u rfl) (eQ _)) (v (vq (by kernel_rfl) (vk AF qZ m rfl rfl λy9 m=>vk AF qZ m rfl rfl λy10 m=>vk AF qZ m rfl rfl λy11 m=> ?_))))
 obtain⟨x13,X15,m⟩:=aC m
 refine bU (eA (y:=q6) X15 kJ rfl rfl) (vn (λu=>eP (y:=q6) 0 X15 iF rfl (bB 0 u rfl) (eQ _)) ?_)
 obtain⟨x14,X16,m⟩:=aC m
 refine bU (eA (y:=q6) X16 kJ rfl rfl) (vn (λu=>eP (y:=q6) 0 X16 iF rfl (bB 0 u rfl) (eQ _)) ?_)
 obtain⟨x15,X17,m⟩:=aC m
 refine bU (eA (y:=q6) X17 kJ rfl rfl) (vn (λu=>eP (y:=q6) 0 X17 iF rfl (bB 0 u rfl) (eQ _)) ?_)
 obtain⟨x16,X18,m⟩:=aC m
 refine bU (eA (y:=q6) X18 kJ rfl rfl) (vn (λu=>eP (y:=q6) 0 X18 iF rfl (bB 0 u rfl) (eQ _)) (v ?_))
 obtain⟨x17,X19,m⟩:=aC m
 refine bU (eA (y:=q6) X19 kJ rfl rfl) (vn (λu=>eP (y:=q6) 0 X19 iF rfl (bB 0 u rfl) (eQ _)) ?_)
 obtain⟨x18,X20,m⟩:=aC m
 refine bU (eA (y:=q6) X20 kJ rfl rfl) (vn (λu=>eP (y:=q6) 0 X20 iF rfl (bB 0 u rfl) (eQ _)) ?_)
 obtain⟨x19,X21,m⟩:=aC m
 refine bU (eA (y:=q6) X21 kJ rfl rfl) (vn (λu=>eP (y:=q6) 0 X21 iF rfl (bB 0 u rfl) (eQ _)) ?_)
 obtain⟨x20,X22,m⟩:=aC m
 refine bU (eA (y:=q6) X22 kJ rfl rfl) (vn (λu=>eP (y:=q6) 0 X22 iF rfl (bB 0 u rfl) (eQ _)) ?_)
 obtain⟨x21,X23,m⟩:=aC m
 refine bU (eA (y:=q6) X23 kJ rfl rfl) (vn (λu=>eP (y:=q6) 0 X23 iF rfl (bB 0 u rfl) (eQ _)) ?_)
 obtain⟨x22,X24,m⟩:=aC m
 refine bU (eA (y:=q6) X24 kJ rfl rfl) (vn (λu=>eP (y:=q6) 0 X24 iF rfl (bB 0 u rfl) (eQ _)) ?_)
 obtain⟨x23,X25,m⟩:=aC m
 refine bU (eA (y:=q6) X25 kJ rfl rfl) (vn (λu=>eP (y:=q6) 0 X25 iF rfl (bB 0 u rfl) (eQ _)) (bU (CB [IntKind.wrap .u32 ((IntKind.wrap .u32 ((IntKind.wrap .u32 ((IntKind.wrap .u32 ((IntKind.wrap .u32 (x8+(cH .xor .u32 (cH .xor .u32 y5 y7) y8)))+(cH .xor .u32 (cH .and .u32 x7 x9) (cH .and .u32 (cH .xor .u32 (IntKind.max .u32) x7) x10))))+x11))+x12))+(IntKind.wrap .u32 ((cH .xor .u32 (cH .xor .u32 y9 y10) y11)+(cH .xor .u32 (cH .xor .u32 (cH .and .u32 x6 x13) (cH .and .u32 x6 x14)) (cH .and .u32 x15 x16))))),x17,x18,x19,IntKind.wrap .u32 (x20+(IntKind.wrap .u32 ((IntKind.wrap .u32 ((IntKind.wrap .u32 ((IntKind.wrap .u32 (x8+(cH .xor .u32 (cH .xor .u32 y5 y7) y8)))+(cH .xor .u32 (cH .and .u32 x7 x9) (cH .and .u32 (cH .xor .u32 (IntKind.max .u32) x7) x10))))+x11))+x12))),x21,x22,x23] rfl MB rfl rfl rfl) (ve λu=>aK 0 (eE (⟨[IntKind.wrap .u32 ((IntKind.wrap .u32 ((IntKind.wrap .u32 ((IntKind.wrap .u32 ((IntKind.wrap .u32 (x8+(cH .xor .u32 (cH .xor .u32 y5 y7) y8)))+(cH .xor .u32 (cH .and .u32 x7 x9) (cH .and .u32 (cH .xor .u32 (IntKind.max .u32) x7) x10))))+x11))+x12))+(IntKind.wrap .u32 ((cH .xor .u32 (cH .xor .u32 y9 y10) y11)+(cH .xor .u32 (cH .xor .u32 (cH .and .u32 x6 x13) (cH .and .u32 x6 x14)) (cH .and .u32 x15 x16))))),x17,x18,x19,IntKind.wrap .u32 (x20+(IntKind.wrap .u32 ((IntKind.wrap .u32 ((IntKind.wrap .u32 ((IntKind.wrap .u32 (x8+(cH .xor .u32 (cH .xor .u32 y5 y7) y8)))+(cH .xor .u32 (cH .and .u32 x7 x9) (cH .and .u32 (cH .xor .u32 (IntKind.max .u32) x7) x10))))+x11))+x12))),x21,x22,x23],rfl⟩:Ar 8)) u rfl rfl rfl rfl MA rfl rfl λK10=>qk K10 rfl ?_)))
 exact v (GG m)
 exact v (bq8 m)
 rintro _ ⟨r4,r5⟩ m
 refine v (jY m (σ:=(Ar 8)×Int) (λs=> [(some k2413,.obj 183 (eE r4)),(some k1783,.obj 181 (dD r2)),(some k13,.obj 183 (eE s.1)),(some k8,.obj 181 (dD y6)),(some k2,.obj 36 (bL jW))]) (λs=>.c 2 (.ptr k2 0) (.c 3 (.ptr k8 0) (.c 4 (.ptr k13 0) (.c 5 (.sl none 1 (List.map dF y0)) (.c 6 (nZ q1) (.c 12 (.ptr k2413 0) (.c 18 (nZ s.2) .nil))))))) (lx (.k7 .nil)) ?_ ?_)
 rintro _ ⟨q8,q9⟩ x m
 replace m:DA w r4 q8 q9=some x:=m
 unfold DA at m
 refine v (v ?_)
 apply vi m <;> intro c5 m
 refine v (v (v (vz [(8,some k13,.obj 183 (eE q8)),(1000000,some k2413,.obj 183 (eE r4))] mixed (λu=>⟨λ_=>aJ 2 u rfl,λ_=>aJ 0 u rfl,trivial⟩) λu=>zI 0 rfl rfl ?_)))
 obtain⟨x24,X26,m⟩:=aC m
 refine zC 1 rfl (eA (y:=q8) X26 kJ rfl rfl) (wL 2 rfl (λ_ _ hi hB=>eP (y:=q8) 0 X26 iF rfl (At.s (fV.get 0 hi rfl (hB 8 (by kernel_rfl)))) (eQ _)) (zI 3 rfl rfl ?_))
 obtain⟨x25,X27,m⟩:=aC m
 refine zC 4 rfl (eA (y:=r4) X27 kJ rfl rfl) (wL 5 rfl (λ_ _ hi hB=>eP (y:=r4) 0 X27 iF rfl (At.s (fV.get 1 hi rfl (hB 1000000 (by kernel_rfl)))) (eQ _)) (zC 6 rfl (lQ rfl rfl rfl trivial) ?_))
 obtain⟨_,X28,m⟩:=aC m
 refine zC 7 rfl (eA (y:=q8) X28 kJ rfl rfl) (zE 8 rfl (wV (y:=q8) (v:=IntKind.wrap .u32 (x24+x25)) 2 u X28 rfl rfl rfl L8 λK12=>⟨⟨λe=>absurd e (by decide),λ_=>aJ 0 K12 rfl,trivial⟩, ?_⟩))
 exact zX (qk (f:=S4 189 _ _ _ _ _ _ _ _ _) K12 rfl (v (CF m)))
 exact v (bq7 m)
 rintro _ ⟨r6,r7⟩ m
 exact v (yB m (lW [2,3,4] rfl rfl (.k5 .nil)))
 exact v (V2 m)
 rintro _ ⟨r8,r9⟩ m
 refine v (ve λu=>bJ (bL jW) u JR rfl rfl λk2657 K13=>qk K13 rfl (v (jY m (σ:=bO×Int) (λs=> [(some k2657,.obj 36 (bL s.1)),(some k13,.obj 183 (eE r8)),(some k8,.obj 181 (dD y6)),(some k2,.obj 36 (bL jW))]) (λs=>.c 2 (.ptr k2 0) (.c 4 (.ptr k13 0) (.c 19 (.ptr k2657 0) (.c 20 (nZ s.2) .nil)))) (lx (.k4 .nil)) ?_ ?_)))
 rintro _ ⟨q10,q11⟩ x m
 replace m:w9 w r8 q10 q11=some x:=m
 unfold w9 at m
 refine v (v ?_)
 apply vi m <;> intro c6 m
 refine v (v (v ?_))
 obtain⟨x26,X29,m⟩:=aC m
 refine bU (eA (y:=r8) X29 kJ rfl rfl) (vn (λu=>eP (y:=r8) 0 X29 iF rfl (bB 1 u rfl) (eQ _)) (PP m λ_ m=> ?_))
 obtain⟨_,X30,m⟩:=aC m
 exact bU (mJ X30 sL rfl rfl) (ve λu=>wV (y:=q10) (v:=IntKind.wrap .u8 (x26.fdiv (2 ^ (min ((IntKind.wrap .u64 (IntKind.wrap .i64 (24 - (IntKind.wrap .i64 (8*(q11.tmod 4)))))):Int).toNat (IntKind.bits .u32))))) 0 u X30 rfl rfl rfl sz5 λK15=>qk K15 rfl (v (iE m)))
 exact v (wW m)
 rintro _ ⟨r10,r11⟩ m
 refine v (vl 0 (.agg (bL r10)) fW rfl rfl rfl (ve λu=>aK 3 (bL r10) u rfl rfl rfl rfl JQ rfl rfl λK17=>qk K17 rfl (v ?_)))
 obtain rfl:=eT m
 exact vr λu=>dW.of1 (.inl rfl) (qW (.agg (bL r10)) fW rfl (bB 3 u rfl) rfl) (aT (List.nil_sublist _) u).1 (bF.refl _ _) ⟨rfl,rfl⟩
theorem aA2:aO Tryz.prog 87=true:=by kernel_rfl
open Go.Vm
def xA (m:Nat) (p0:List dS) (q0:Int):Option (Lp (Int) (Int)):=
 if (decide (q0 < (p0.length:Int)))=true then (after ((ix p0 q0).bind λx0=>(CR m x0.Path).bind λy0=>if (!y0)=true then (some (.brk true)) else if (decide (0 < q0))=true then ((ix p0 q0).bind λx1=>(ix p0 (IntKind.wrap .i64 (q0 - 1))).bind λx2=>some (.brk (Op.bytesLess x1.Path.toList x2.Path.toList || x1.Path.toList==x2.Path.toList))) else some (.brk false):Option (Lp (Bool) (Lp (Int) (Int)))) λj0=>if j0=true then (some (.ret 1)) else some (.go (IntKind.wrap .i64 (q0+1)))) else some (.brk q0)
def NP (m:Nat) (p0:List dS):Option (Int):=
 (KC m p0).bind λy4=>if y4=true then (some 2) else after (aU (λs=>xA m p0 s) m 0) λr0=>some 0
theorem aF9 {u:Nat} {p0:List dS} {o:Int} (h:aE) (m:NP u p0=some o):
 aL Tryz.prog 142 [.sl none 2 (List.map eV p0)] h (λr h'=>r=nZ o∧h'=h):=by
 refine f8 37 [.tmp 2] Tryz.func142 rfl rfl rfl rfl ?_
 unfold NP at m
 refine v (v (vk aAY SG m rfl rfl λ_ m=>v ?_))
 apply vi m <;> intro c6 m
 refine v (v ?_)
 obtain rfl:=eT m
 exact eD rfl
 refine v (v (jY m (σ:=Int) (λs=> []) (λs=>.c 0 (.sl none 2 (List.map eV p0)) (.c 3 (nZ s) .nil)) (lx (.k2 .nil)) ?_ ?_))
 rintro _ q0 x m
 replace m:xA u p0 q0=some x:=m
 unfold xA at m
 refine v (dE z8 rfl (v ?_))
 apply vi m <;> intro c0 m
 refine v (v (vs (fN m (σ:=Bool) (λs=> []) (λs=>.c 0 (.sl none 2 (List.map eV p0)) (.c 3 (nZ q0) (.c 36 (.sc (.bool s)) .nil))) (λx m=> ?_) ?_)))
 refine v (vq (by kernel_rfl) (vx m pL rfl rfl λ_ _ m=>vk MH EN m rfl rfl λ_ m=> ?_))
 apply vi m <;> intro b0 m
 rw[b0]
 exact gU m
 rw[b0]
 apply vi m <;> intro b1 m
 rw[b1]
 exact vx m pL rfl rfl λ_ _ m=>vx m pL rfl rfl λ_ _ m=>bU (BT rfl rfl rfl trivial) (gU m)
 rw[b1]
 exact gU m
 rintro _ j0 m
 refine v ?_
 apply vi m <;> intro c1 m
 refine v (v (gM m λm=> ?_))
 obtain rfl:=eT m
 exact eD rfl
 exact v (v (rH m))
 exact v (OO m)
 rintro _ r0 m
 refine v (v ?_)
 obtain rfl:=eT m
 exact eD rfl
theorem aA3:aO Tryz.prog 142=true:=by kernel_rfl
def xB (m:Nat) (p0:List Int) (q0:Int) (q1:Int):Option (Lp (Int×Int) (Int)):=
 if (decide (q1 < (p0.length:Int)))=true then ((ix p0 q1).bind λx0=>after (if (decide (8≤(IntKind.wrap .i64 (q1+1))))=true then (if (((IntKind.wrap .u32 ((IntKind.wrap .u32 (q0*2))+(IntKind.wrap .u32 ((IntKind.wrap .u32 ((IntKind.wrap .u32 x0)+1))*2654435761)))).fdiv (2 ^ (min (28:Int).toNat (IntKind.bits .u32))))==0)=true then (some (.brk true)) else some (.brk ((IntKind.wrap .i64 (q1+1))==64))) else some (.brk ((IntKind.wrap .i64 (q1+1))==64)):Option (Lp (Bool) (Lp (Int×Int) (Int)))) λj0=>if j0=true then (some (.ret (IntKind.wrap .i64 (q1+1)))) else some (.go (IntKind.wrap .u32 ((IntKind.wrap .u32 (q0*2))+(IntKind.wrap .u32 ((IntKind.wrap .u32 ((IntKind.wrap .u32 x0)+1))*2654435761))),IntKind.wrap .i64 (q1+1)))) else some (.brk (q0,q1))
def NQ (m:Nat) (p0:List Int):Option (Int):=
 after (aU (λs=>xB m p0 s.1 s.2) m (0,0)) λ⟨r0,r1⟩=>some (p0.length:Int)
theorem aGA {u:Nat} {p0:List Int} {o:Int} (h:aE) (m:NQ u p0=some o):
 aL Tryz.prog 184 [.sl none 1 (List.map dF p0)] h (λr h'=>r=nZ o∧h'=h):=by
 refine f8 38 [.tmp 2] Tryz.func184 rfl rfl rfl rfl ?_
 unfold NQ at m
 refine v (v (v (jY m (σ:=Int×Int) (λs=> []) (λs=>.c 0 (.sl none 1 (List.map dF p0)) (.c 3 (.sc (.int .u32 s.1)) (.c 4 (nZ s.2) .nil))) (lx (.k3 .nil)) ?_ ?_)))
 rintro _ ⟨q0,q1⟩ x m
 replace m:xB u p0 q0 q1=some x:=m
 unfold xB at m
 refine v (dE kK rfl (v ?_))
 apply vi m <;> intro c0 m
 refine v (v (v (vx m GO rfl rfl λx0 _ m=>vs (fN m (σ:=Bool) (λs=> []) (λs=>.c 0 (.sl none 1 (List.map dF p0)) (.c 3 (.sc (.int .u32 (IntKind.wrap .u32 ((IntKind.wrap .u32 (q0*2))+(IntKind.wrap .u32 ((IntKind.wrap .u32 ((IntKind.wrap .u32 x0)+1))*2654435761)))))) (.c 4 (nZ q1) (.c 33 (.sc (.bool s)) .nil)))) (λx m=> ?_) ?_))))
 refine v ?_
 apply vi m <;> intro b0 m
 rw[b0]
 apply vi m <;> intro b1 m
 rw[b1]
 exact iE m
 rw[b1]
 exact iE m
 rw[b0]
 exact iE m
 rintro _ j0 m
 refine v ?_
 apply vi m <;> intro c1 m
 refine v (v (gM m λm=> ?_))
 cases m
 exact eD rfl
 exact v (v (gU m))
 exact v (EE m)
 rintro _ ⟨r0,r1⟩ m
 refine v (dE kK rfl (v ?_))
 cases m
 exact eD rfl
theorem aA4:aO Tryz.prog 184=true:=by kernel_rfl
def xC (m:Nat) (q0:List (List Int)) (q1:List Int):Option (Lp ((List (List Int))×(List Int)) ((List (List Int)))):=
 if (decide (0 < (q1.length:Int)))=true then ((NQ m q1).bind λy0=>(slc q1 0 y0).bind λx0=>(vM m x0).bind λy1=>(app q0 ([y1]:List (List Int))).bind λz0=>(slc q1 y0 (q1).length).bind λx1=>some (.go (z0,x1))) else some (.brk (q0,q1))
def NR (m:Nat) (p0:List Int):Option ((List (List Int))):=
 after (aU (λs=>xC m s.1 s.2) m ([],p0)) λ⟨r0,r1⟩=>some r0
theorem aGB {w:Nat} {p0:List Int} {o:(List (List Int))} (h:aE) (m:NR w p0=some o):
 aL Tryz.prog 143 [.sl none 1 (List.map dF p0)] h (λr h'=>r= .sl none 1 (List.map hX o)∧h'=h):=by
 refine f8 21 [.tmp 2] Tryz.func143 rfl rfl rfl rfl ?_
 unfold NR at m
 refine v (v (vs (qK (FL (.tok 41 1 (([]:List (List Int)).length*1)) 3 (ow none 1 (List.map hX [])) (jD _ _)) (nR m (σ:=(List (List Int))×(List Int)) (τ:=Option cB) (λg s=> [(g,.tok 41 1 ((s.1:List (List Int)).length*1))]) (λg s=>(g=none→s.1= [])) (λg s=>.c 0 (.sl none 1 (List.map dF s.2)) (.c 3 (ow g 1 (List.map hX s.1)) .nil)) none (λ_=>rfl) (lx (.k2 .nil)) ?_ ?_))))
 rintro tg0 ⟨q0,q1⟩ x t0 m
 replace m:xC w q0 q1=some x:=m
 unfold xC at m
 refine v (dE kK rfl (v ?_))
 apply vi m <;> intro c0 m
 refine v (v (v (vk aGA aA4 m rfl rfl λ_ m=>v ?_)))
 obtain⟨_,X0,m⟩:=aC m
 refine bU (pS X0 GO rfl rfl rfl rfl) (vk MS EU m rfl rfl λy0 m=>bU (eK (List.map hX ([y0]:List (List Int))) A6 rfl rfl rfl rfl) ?_)
 obtain⟨z0,Z0,m⟩:=aC m
 refine ve λu=>fF (c:=hX) 0 Z0 A6 rfl rfl rfl t0 u rfl λtg1 t1 K0=>qk K0 rfl (v ?_)
 obtain⟨_,X1,m⟩:=aC m
 exact bU (pS X1 GO rfl rfl rfl rfl) (eW m tg1 t1 (lx (.k2 .nil)))
 exact v (lM m tg0 t0 (lx (.k2 .nil)))
 rintro tg2 ⟨r0,r1⟩ t2 m
 refine v (v ?_)
 obtain rfl:=eT m
 exact vr λu=>dW.of1 (.inl rfl) (fT _ _ (ow _ _ _) rfl) (aT (List.nil_sublist _) u).1 ((eZ _ 0 t2 u rfl)) ⟨rfl,rfl⟩
theorem aA5:aO Tryz.prog 143=true:=by kernel_rfl
def DC (m:Nat) (y0:(List (List Int))) (q0:List bO) (q1:List (List Int)) (q2:List bO) (q3:Int):Option (Lp ((List bO)×(List (List Int))×(List bO)×Int) (Lp ((List dJ)×(List (List Int))×(List bO)×Int) (bG×(List (List Int))×Int))):=
 if (decide (q3 < (y0.length:Int)))=true then ((ix y0 q3).bind λx0=>(V9 m x0).bind λy1=>(app q0 ([y1]:List bO)).bind λz0=>(EO m q2 y1).bind λy2=>after (if y2.2.2=true then ((slc q1 0 y2.2.1).bind λx1=>(ix y0 q3).bind λx2=>(app ([]:List (List Int)) x1).bind λz1=>(app z1 ([x2]:List (List Int))).bind λz2=>(slc q1 y2.2.1 (q1.length:Int)).bind λx3=>(app z2 x3).bind λz3=>some (.brk z3)) else some (.brk q1):Option (Lp ((List (List Int))) (Lp ((List bO)×(List (List Int))×(List bO)×Int) (Lp ((List dJ)×(List (List Int))×(List bO)×Int) (bG×(List (List Int))×Int))))) λj0=>some (.go (z0,j0,y2.1,IntKind.wrap .i64 (q3+1)))) else some (.brk (q0,q1,q2,q3))
def DD (m:Nat) (p1:List dS) (q0:List dJ) (q1:List (List Int)) (q2:List bO) (q3:Int):Option (Lp ((List dJ)×(List (List Int))×(List bO)×Int) (bG×(List (List Int))×Int)):=
 if (decide (q3 < (p1.length:Int)))=true then ((ix p1 q3).bind λx0=>(ix p1 q3).bind λx1=>(ix p1 q3).bind λx2=>(NR m x2.Data).bind λy0=>after (aU (λs=>DC m y0 s.1 s.2.1 s.2.2.1 s.2.2.2) m ([],q1,q2,0)) λ⟨r0,r1,r2,r3⟩=>(app q0 ([({ Path:=x0.Path,Size:=(x1.Data.length:Int),Ids:=r0}:dJ)]:List dJ)).bind λz0=>some (.go (z0,r1,r2,IntKind.wrap .i64 (q3+1)))) else some (.brk (q0,q1,q2,q3))
def M86 (m:Nat) (p0:ByteArray) (p1:List dS):Option (bG×(List (List Int))×Int):=
 (CR m p0).bind λy7=>if (!y7)=true then (some (({ Name:=ByteArray.empty,Parts:= []}:bG), [],1)) else (NP m p1).bind λy0=>if (y0 !=0)=true then (some (({ Name:=ByteArray.empty,Parts:= []}:bG), [],y0)) else after (aU (λs=>DD m p1 s.1 s.2.1 s.2.2.1 s.2.2.2) m ([], [], [],0)) λ⟨r0,r1,r2,r3⟩=>some (({ Name:=p0,Parts:=r0}:bG),r1,0)
theorem W86 {w:Nat} {p0:ByteArray} {p1:List dS} {o:bG×(List (List Int))×Int} (h:aE) (m:M86 w p0 p1=some o):
 aL Tryz.prog 86 [.sc (.string p0),.sl none 2 (List.map eV p1)] h (λr h'=>r= .tup [.agg (bK o.1),.sl none 1 (List.map hX o.2.1),nZ o.2.2]∧h'=h):=by
 refine f8 106 [.cell 4 58,.tmp 5,.tmp 6] Tryz.func86 rfl rfl rfl rfl ?_
 unfold M86 at m
 refine v (ve λu=>bJ ([.sc (.string ByteArray.empty),sZ]) u LV rfl rfl λk2 K3=>qk K3 rfl (v (vk MH EN m rfl rfl λ_ m=>v ?_)))
 apply vi m <;> intro c9 m
 refine v (bU (eS ([.sc (.string ByteArray.empty),sZ]) PX rfl) (ve λu=>aK 0 ([.sc (.string ByteArray.empty),sZ]) u rfl rfl rfl rfl zZ rfl rfl λK0=>qk K0 rfl (v ?_)))
 cases m
 exact vr λu=>dW.of3 (.inl rfl) (qW (.agg ([.sc (.string ByteArray.empty),sZ])) nU rfl (bB 0 u rfl) rfl) (fT _ _ (.sc (.slice _ _ _)) rfl) (fT _ _ (.sc (.int _ _)) rfl) (aT (List.nil_sublist _) u).1 (bF.agg (.cons (bF.refl _ _) (.cons (aX _) .nil))) (aX _) (bF.refl _ _) ⟨rfl,rfl⟩
 refine v (v (vk aF9 aA3 m rfl rfl λ_ m=>v (v ?_)))
 apply vi m <;> intro c0 m
 refine v (bU (eS ([.sc (.string ByteArray.empty),sZ]) PX rfl) (ve λu=>aK 0 ([.sc (.string ByteArray.empty),sZ]) u rfl rfl rfl rfl zZ rfl rfl λK1=>qk K1 rfl (v ?_)))
 cases m
 exact vr λu=>dW.of3 (.inl rfl) (qW (.agg ([.sc (.string ByteArray.empty),sZ])) nU rfl (bB 0 u rfl) rfl) (fT _ _ (.sc (.slice _ _ _)) rfl) (fT _ _ (.sc (.int _ _)) rfl) (aT (List.nil_sublist _) u).1 (bF.agg (.cons (bF.refl _ _) (.cons (aX _) .nil))) (aX _) (bF.refl _ _) ⟨rfl,rfl⟩
 refine v (v (bU (eS ([.sc (.string p0),sZ]) PX rfl) (ve λu=>bJ ([.sc (.string ByteArray.empty),sZ]) u LV rfl rfl λk21 K2=>qk K2 rfl (ve λu=>aK 0 ([.sc (.string p0),sZ]) u rfl rfl rfl rfl zZ rfl rfl λK4=>qk K4 rfl (v (v (v (qK (FL (.tok 41 1 (([]:List (List Int)).length*1)) 10 (ow none 1 (List.map hX [])) (jD _ _)) (qK (W0 (.tok 70 3 (([]:List dJ).length*3)) 2 ([.sc (.string p0),ow none 3 (List.map bX [])]) rfl (.cons (bF.refl _ _) (.cons (jD (c:=bX) _ 3) .nil))) (nR m (σ:=(List dJ)×(List (List Int))×(List bO)×Int) (τ:=Option cB×Option cB) (λg s=> [(g.1,.tok 70 3 ((s.1:List dJ).length*3)),(g.2,.tok 41 1 ((s.2.1:List (List Int)).length*1)),(some k21,.obj 58 ([.sc (.string p0),ow g.1 3 (List.map bX s.1)])),(some k2,.obj 58 ([.sc (.string ByteArray.empty),sZ]))]) (λg s=>(g.1=none→s.1= [])∧(g.2=none→s.2.1= [])) (λg s=>.c 1 (.sl none 2 (List.map eV p1)) (.c 4 (.ptr k2 0) (.c 8 (.ptr k21 0) (.c 9 (.sl none 32 (List.map bL s.2.2.1)) (.c 10 (ow g.2 1 (List.map hX s.2.1)) (.c 11 (nZ s.2.2.2) .nil)))))) (none,none) (⟨(λ_=>rfl),(λ_=>rfl)⟩) (lx (.k3 (.cons (aX _) (.k2 .nil)))) ?_ ?_))))))))))
 rintro⟨tg0,tg1⟩ ⟨q0,q1,q2,q3⟩ x ⟨t0,t1⟩ m
 replace m:DD w p1 q0 q1 q2 q3=some x:=m
 unfold DD at m
 refine v (dE z8 rfl (v ?_))
 apply vi m <;> intro c1 m
 refine v (v (v (vz [] mixed (λu=>trivial) λu=>zC 0 rfl (eY (.sl _ _ _) rfl) (zI 1 rfl rfl ?_))))
 obtain⟨x0,X0,m⟩:=aC m
 refine zC 2 rfl (nO X0 pL rfl rfl) (zC 3 rfl (oM L5 rfl rfl) (zC 4 rfl (nX (.sc (.string x0.Path)) zU rfl rfl) (zC 5 rfl (eY (.sl _ _ _) rfl) (zI 6 rfl rfl ?_))))
 obtain⟨x1,X1,m⟩:=aC m
 refine zC 7 rfl (nO X1 pL rfl rfl) (zC 8 rfl (oM L6 rfl rfl) (zC 9 rfl (nX (.sl none 1 (List.map dF x1.Data)) kA rfl rfl) (zC 10 rfl (uP kK rfl) (zC 11 rfl (eS ([.sc (.string x0.Path),nZ (x1.Data.length:Int),sZ]) aDB rfl) (zE 12 rfl (bJ (VY) u GP rfl rfl λk2233 K5=>⟨trivial, ?_⟩))))))
 refine zE 13 rfl (aK 0 ([.sc (.string x0.Path),nZ (x1.Data.length:Int),sZ]) K5 rfl rfl rfl rfl JU rfl rfl λK6=>⟨trivial, ?_⟩)
 refine zX (qk (f:=.c 12 _ (GD 49 _ _ _ _ _ _ _ _ _ _ _ _ _)) K6 rfl (v (vx m pL rfl rfl λ_ _ m=>vk aGB aA5 m rfl rfl λy0 m=>v (qK (W0 (.tok 36 32 (([]:List bO).length*32)) 1 ([.sc (.string x0.Path),nZ (x1.Data.length:Int),ow none 32 (List.map bL [])]) rfl (.k2 (.cons (jD (c:=bL) _ 32) .nil))) (nR m (σ:=(List bO)×(List (List Int))×(List bO)×Int) (τ:=Option cB×Option cB) (λg s=> [(g.1,.tok 36 32 ((s.1:List bO).length*32)),(some k2233,.obj 70 ([.sc (.string x0.Path),nZ (x1.Data.length:Int),ow g.1 32 (List.map bL s.1)])),(tg0,.tok 70 3 ((q0:List dJ).length*3)),(g.2,.tok 41 1 ((s.2.1:List (List Int)).length*1)),(some k21,.obj 58 ([.sc (.string p0),ow tg0 3 (List.map bX q0)])),(some k2,.obj 58 ([.sc (.string ByteArray.empty),sZ]))]) (λg s=>(g.1=none→s.1= [])∧(g.2=none→s.2.1= [])) (λg s=>.c 1 (.sl none 2 (List.map eV p1)) (.c 4 (.ptr k2 0) (.c 8 (.ptr k21 0) (.c 9 (.sl none 32 (List.map bL s.2.2.1)) (.c 10 (ow g.2 1 (List.map hX s.2.1)) (.c 11 (nZ q3) (.c 12 (.ptr k2233 0) (.c 13 (.sl none 1 (List.map hX y0)) (.c 14 (nZ s.2.2.2) .nil))))))))) (none,tg1) (⟨(λ_=>rfl),t1⟩) (lx (.k9 .nil)) ?_ ?_)))))
 rintro⟨tg2,tg3⟩ ⟨q4,q5,q6,q7⟩ x ⟨t2,t3⟩ m
 replace m:DC w y0 q4 q5 q6 q7=some x:=m
 unfold DC at m
 refine v (dE RL rfl (v ?_))
 apply vi m <;> intro c2 m
 refine v (v (v (vx m A5 rfl rfl λ_ _ m=>vk W87 aA2 m rfl rfl λy1 m=>ve λu=>bJ (bL jW) u JR rfl rfl λk2604 K7=>qk K7 rfl (ve λu=>aK 0 (bL y1) u rfl rfl rfl rfl JQ rfl rfl λK8=>qk K8 rfl (v (vl 2 (ow tg2 32 (List.map bL q4)) u6 rfl rfl rfl (vl 0 (.agg (bL y1)) fW rfl rfl rfl (bU (eK (List.map bL ([y1]:List bO)) CM rfl rfl rfl rfl) ?_))))))))
 obtain⟨z0,Z0,m⟩:=aC m
 refine ve λu=>fF (c:=bL) 1 Z0 CM rfl rfl rfl t2 u rfl λtg4 t4 K9=>qk K9 rfl (ve λu=>aK 2 ([.sc (.string x0.Path),nZ (x1.Data.length:Int),ow tg4 32 (List.map bL z0)]) u rfl rfl (jE rfl) (pR _ _ _) TP rfl rfl λK10=>qk K10 rfl (v (vl 0 (.agg (bL y1)) fW rfl rfl rfl (vk XW RW m rfl rfl λy2 m=>v (pO m (σ:=(List (List Int))) (τ:=Option cB) (λg s=> [(some k2604,.obj 36 (bL y1)),(tg4,.tok 36 32 ((z0:List bO).length*32)),(some k2233,.obj 70 ([.sc (.string x0.Path),nZ (x1.Data.length:Int),ow tg4 32 (List.map bL z0)])),(tg0,.tok 70 3 ((q0:List dJ).length*3)),(g,.tok 41 1 ((s:List (List Int)).length*1)),(some k21,.obj 58 ([.sc (.string p0),ow tg0 3 (List.map bX q0)])),(some k2,.obj 58 ([.sc (.string ByteArray.empty),sZ]))]) (λg s=>(g=none→s= [])) (λg s=>.c 1 (.sl none 2 (List.map eV p1)) (.c 4 (.ptr k2 0) (.c 8 (.ptr k21 0) (.c 10 (ow g 1 (List.map hX s)) (.c 11 (nZ q3) (.c 12 (.ptr k2233 0) (.c 13 (.sl none 1 (List.map hX y0)) (.c 14 (nZ q7) (.c 16 (.sl none 32 (List.map bL y2.1)) .nil))))))))) (λx m=> ?_) ?_)))))
 refine v ?_
 apply vi m <;> intro c3 m
 refine v (v (vz [] mixed (λu=>trivial) λu=>zC 0 rfl (eY (.sc (.slice _ _ _)) rfl) (zC 1 rfl (eY (ow _ _ _) rfl) (zI 2 rfl rfl ?_))))
 obtain⟨_,X2,m⟩:=aC m
 refine zC 3 rfl (CA X2 A5 rfl t3 rfl rfl rfl) (zC 5 rfl (eY (.sl _ _ _) rfl) (zI 6 rfl rfl ?_))
 obtain⟨x2,X3,m⟩:=aC m
 refine zC 7 rfl (nO X3 A5 rfl rfl) (zC 8 rfl (nX (.sl none 1 (List.map dF x2)) kA rfl rfl) (zC 9 rfl (eK (List.map hX ([x2]:List (List Int))) A6 rfl rfl rfl rfl) ?_))
 obtain⟨z1,Z1,m⟩:=aC m
 refine zE 4 rfl (oN (c:=hX) Z1 A6 rfl rfl u nofun (n3 (sI X2 t3)) λtg5 t5 K12=>⟨trivial, ?_⟩)
 obtain⟨z2,Z2,m⟩:=aC m
 refine zE 10 rfl (fF (c:=hX) 0 Z2 A6 rfl rfl rfl t5 K12 rfl λtg6 t6 K13=>⟨trivial, ?_⟩)
 refine zC 11 rfl (iC (ow _ _ _) rfl) (zX (qk (f:=.c 19 _ (.c 91 _ (.c 85 _ (fq5 90 _ _ _ _ _ (PN 84 _ _ _ _ _))))) K13 rfl (v ?_)))
 obtain⟨_,X4,m⟩:=aC m
 refine bU (CA X4 A5 rfl t3 rfl rfl rfl) ?_
 obtain⟨z3,Z3,m⟩:=aC m
 exact ve λu=>fF (c:=hX) 0 Z3 A6 rfl rfl rfl t6 u (n3 (sI X4 t3)) λtg7 t7 K14=>qk K14 rfl (eW m tg7 t7 (lW [1,2,3,4,0,6,7] rfl rfl (.k9 .nil)))
 exact v (eW m tg3 t3 (lx (.k9 .nil)))
 rintro tg8 j0 t8 m
 exact v (v (eW m (tg4,tg8) ⟨t4,t8⟩ (lW [1,2,3,4,5,6] rfl rfl (.k9 .nil))))
 exact v (lM m (tg2,tg3) ⟨t2,t3⟩ (lx (.k9 .nil)))
 rintro⟨tg9,tg10⟩ ⟨r0,r1,r2,r3⟩ ⟨t9,t10⟩ m
 refine v (vl 4 (ow tg0 3 (List.map bX q0)) nF rfl rfl rfl (vl 1 (.agg ([.sc (.string x0.Path),nZ (x1.Data.length:Int),ow tg9 32 (List.map bL r0)])) CN rfl rfl rfl (ve λu=>CE (t:=100) (.agg (bX ({ Path:=x0.Path,Size:=(x1.Data.length:Int),Ids:=r0}:dJ))) (aT (.cons _ (.refl _)) u).1 (bF.agg (.k2 (.cons (mZ _ 0 t9 u rfl (.refl _)) .nil))) (a_v (eK (List.map bX ([({ Path:=x0.Path,Size:=(x1.Data.length:Int),Ids:=r0}:dJ)]:List dJ)) JS rfl rfl rfl rfl) (qk ((aT (.cons _ (.refl _)) u).2) rfl ?_)))))
 obtain⟨z4,Z4,m⟩:=aC m
 exact ve λu=>fF (c:=bX) 1 Z4 JS rfl rfl rfl t0 u rfl λtg11 t11 K15=>qk K15 rfl (ve λu=>aK 3 ([.sc (.string p0),ow tg11 3 (List.map bX z4)]) u rfl rfl (jE rfl) (pR _ _ _) TE rfl rfl λK16=>qk K16 rfl (v (eW m (tg11,tg10) ⟨t11,t10⟩ (lW [1,2,3,4] rfl rfl (.k6 .nil)))))
 exact v (lM m (tg0,tg1) ⟨t0,t1⟩ (lx (.k6 .nil)))
 rintro⟨tg12,tg13⟩ ⟨r4,r5,r6,r7⟩ ⟨t12,t13⟩ m
 refine v (vl 2 (.agg ([.sc (.string p0),ow tg12 3 (List.map bX r4)])) nU rfl rfl rfl (ve λu=>aK 3 ([.sc (.string p0),ow tg12 3 (List.map bX r4)]) u rfl rfl rfl (by repeat (first | exact rfl | refine cD (iL _ _ _) ?_ | refine cD (bW _ _ _) ?_ | refine cD (gJ _ _ _ _) ?_ | refine cD rfl ?_)) zZ rfl rfl λK17=>qk K17 rfl ?_))
 refine v ?_
 cases m
 exact vr λu=>dW.of3 (.inl rfl) (qW (.agg ([.sc (.string p0),ow tg12 3 (List.map bX r4)])) nU rfl (bB 3 u rfl) rfl) (fT _ _ (ow _ _ _) rfl) (fT _ _ (.sc (.int _ _)) rfl) (aT (List.nil_sublist _) u).1 (bF.agg (.cons (bF.refl _ _) (.cons ((eZ _ 0 t12 u rfl)) .nil))) ((eZ _ 1 t13 u rfl)) (bF.refl _ _) ⟨rfl,rfl⟩
theorem aGC:aO Tryz.prog 86=true:=by kernel_rfl
def DE (m:Nat) (p0:aA) (y0:bG×(List (List Int))×Int) (q0:List aB) (q1:Int):Option (Lp ((List aB)×Int) (aR×Bool)):=
 if (decide (q1 < (y0.2.1.length:Int)))=true then ((ix y0.2.1 q1).bind λx0=>(V9 m x0).bind λy1=>(KL m p0 y1).bind λy2=>after (if (decide (y2 < 0))=true then ((ix y0.2.1 q1).bind λx1=>(app q0 ([({ Id:=y1,Staged:=true,Data:=x1,Locs:= []}:aB)]:List aB)).bind λz0=>some (.brk z0)) else some (.brk q0):Option (Lp ((List aB)) (Lp ((List aB)×Int) (aR×Bool)))) λj0=>some (.go (j0,IntKind.wrap .i64 (q1+1)))) else some (.brk (q0,q1))
def DF (m:Nat) (p0:aA) (p1:n4) (q0:List aS) (q1:Int) (q2:Int):Option (Lp ((List aS)×Int×Int) (aR×Bool)):=
 after (if (decide (q2 < (IntKind.wrap .i64 ((IntKind.wrap .i64 ((p0.Chunks.length:Int)+(p0.Snaps.length:Int)))+(p0.Exps.length:Int)))))=true then (some (.brk (decide ((q0.length:Int) < 64)))) else some (.brk false):Option (Lp (Bool) (Lp ((List aS)×Int×Int) (aR×Bool)))) λj0=>if j0=true then (after (after (if (decide (q2 < (p1.Pick.length:Int)))=true then ((ix p1.Pick q2).bind λx0=>some (.brk (!x0))) else some (.brk false):Option (Lp (Bool) (Lp ((List aS)×Int) (Lp ((List aS)×Int×Int) (aR×Bool))))) λj1=>if j1=true then (some (.brk (q0,q1))) else after (if (decide (q2 < (p0.Chunks.length:Int)))=true then ((ix p0.Chunks q2).bind λx1=>some (.brk { { ({ Kind:=0,Id:=jW,Seq:=0,Of:=0,Off:=q1,Len:=20}:aS) with Kind:=1} with Id:=x1.Id})) else after (if (decide (q2 < (IntKind.wrap .i64 ((p0.Chunks.length:Int)+(p0.Snaps.length:Int)))))=true then ((ix p0.Snaps (IntKind.wrap .i64 (q2 - (p0.Chunks.length:Int)))).bind λx2=>some (.brk { { ({ Kind:=0,Id:=jW,Seq:=0,Of:=0,Off:=q1,Len:=20}:aS) with Kind:=2} with Seq:=x2.Seq})) else (ix p0.Exps (IntKind.wrap .i64 ((IntKind.wrap .i64 (q2 - (p0.Chunks.length:Int))) - (p0.Snaps.length:Int)))).bind λx3=>some (.brk { { { ({ Kind:=0,Id:=jW,Seq:=0,Of:=0,Off:=q1,Len:=20}:aS) with Kind:=3} with Seq:=x3.Seq} with Of:=x3.Of}):Option (Lp (aS) (Lp (aS) (Lp ((List aS)×Int) (Lp ((List aS)×Int×Int) (aR×Bool)))))) λj2=>some (.brk j2):Option (Lp (aS) (Lp ((List aS)×Int) (Lp ((List aS)×Int×Int) (aR×Bool))))) λj3=>(app q0 ([j3]:List aS)).bind λz0=>some (.brk (z0,IntKind.wrap .i64 (q1+20))):Option (Lp ((List aS)×Int) (Lp ((List aS)×Int×Int) (aR×Bool)))) λ⟨j4,j5⟩=>some (.go (j4,j5,IntKind.wrap .i64 (q2+1)))) else some (.brk (q0,q1,q2))
def M35 (m:Nat) (p0:aA) (p1:n4):Option (aR×Bool):=
 (LP ([IntKind.wrap .u8 (IntKind.wrap .u64 (97+((IntKind.wrap .u64 p1.N).tmod 5)))]:List Int)).bind λst0=>grd (decide ((ByteArray.mk #[110]).size+st0.size≤9223372036854775807)) <| after (if (decide (0 < (p0.Vols.length:Int)))=true then (grd ((IntKind.wrap .u64 (p0.Vols.length:Int)) !=0) <| some (.brk (IntKind.wrap .i64 ((IntKind.wrap .u64 p1.Vol).tmod (IntKind.wrap .u64 (p0.Vols.length:Int)))))) else some (.brk 0):Option (Lp (Int) (aR×Bool))) λj0=>after (if (((IntKind.wrap .u64 p1.Do).tmod 8)==0)=true then (some (.brk (((IntKind.wrap .u64 p1.Do).tmod 8)==0))) else some (.brk (((IntKind.wrap .u64 p1.Do).tmod 8)==1)):Option (Lp (Bool) (aR×Bool))) λj1=>if j1=true then ((M85 m p1.Tree).bind λy0=>if (y0.2 !=0)=true then (some (({ Kind:=0,Snap:=({ Seq:=0,Man:=({ Name:=ByteArray.empty,Parts:= []}:bG),Locs:= []}:aH),Chunks:= [],Seq:=0,Vol:=0,Items:= []}:aR),false)) else (M86 m ((ByteArray.mk #[110])++st0) y0.1).bind λy1=>after (aU (λs=>DE m p0 y1 s.1 s.2) m ([],0)) λ⟨r0,r1⟩=>some (({ Kind:=1,Snap:=({ Seq:=p0.Seq,Man:=y1.1,Locs:= []}:aH),Chunks:=r0,Seq:=0,Vol:=0,Items:= []}:aR),true)) else after (if (((IntKind.wrap .u64 p1.Do).tmod 8)==2)=true then (some (.brk (((IntKind.wrap .u64 p1.Do).tmod 8)==2))) else some (.brk (((IntKind.wrap .u64 p1.Do).tmod 8)==5)):Option (Lp (Bool) (aR×Bool))) λj2=>if j2=true then (if ((p0.Snaps.length:Int)==0)=true then (some (({ Kind:=0,Snap:=({ Seq:=0,Man:=({ Name:=ByteArray.empty,Parts:= []}:bG),Locs:= []}:aH),Chunks:= [],Seq:=0,Vol:=0,Items:= []}:aR),false)) else grd ((IntKind.wrap .u64 (p0.Snaps.length:Int)) !=0) <| (ix p0.Snaps (IntKind.wrap .i64 ((IntKind.wrap .u64 p1.N).tmod (IntKind.wrap .u64 (p0.Snaps.length:Int))))).bind λx0=>if (((IntKind.wrap .u64 p1.Do).tmod 8)==2)=true then (some (({ Kind:=2,Snap:=({ Seq:=0,Man:=({ Name:=ByteArray.empty,Parts:= []}:bG),Locs:= []}:aH),Chunks:= [],Seq:=x0.Seq,Vol:=0,Items:= []}:aR),true)) else some (({ Kind:=3,Snap:=({ Seq:=0,Man:=({ Name:=ByteArray.empty,Parts:= []}:bG),Locs:= []}:aH),Chunks:= [],Seq:=0,Vol:=j0,Items:=([({ Kind:=3,Id:=jW,Seq:=p0.Seq,Of:=x0.Seq,Off:=13,Len:=17}:aS)]:List aS)}:aR),true)) else after (if (((IntKind.wrap .u64 p1.Do).tmod 8)==3)=true then (some (.brk (((IntKind.wrap .u64 p1.Do).tmod 8)==3))) else some (.brk (((IntKind.wrap .u64 p1.Do).tmod 8)==4)):Option (Lp (Bool) (aR×Bool))) λj3=>if j3=true then (after (aU (λs=>DF m p0 p1 s.1 s.2.1 s.2.2) m ([],13,0)) λ⟨r2,r3,r4⟩=>some (({ Kind:=3,Snap:=({ Seq:=0,Man:=({ Name:=ByteArray.empty,Parts:= []}:bG),Locs:= []}:aH),Chunks:= [],Seq:=0,Vol:=j0,Items:=r2}:aR),decide (0 < (r2.length:Int)))) else if (((IntKind.wrap .u64 p1.Do).tmod 8)==6)=true then (some (({ Kind:=4,Snap:=({ Seq:=0,Man:=({ Name:=ByteArray.empty,Parts:= []}:bG),Locs:= []}:aH),Chunks:= [],Seq:=0,Vol:=j0,Items:= []}:aR),true)) else some (({ Kind:=5,Snap:=({ Seq:=0,Man:=({ Name:=ByteArray.empty,Parts:= []}:bG),Locs:= []}:aH),Chunks:= [],Seq:=0,Vol:=j0,Items:= []}:aR),true)
theorem W35 {w:Nat} {p0:aA} {p1:n4} {o:aR×Bool} (h:aE) (m:M35 w p0 p1=some o):
 aL Tryz.prog 35 [.agg (aF p0),.agg (gG p1)] h (λr h'=>r= .tup [.agg (aD o.1),.sc (.bool o.2)]∧h'=h):=by
 refine f8 248 [.cell 4 62,.tmp 5] Tryz.func35 rfl rfl rfl rfl ?_
 unfold M35 at m
 refine v (gY rfl rfl λk2 K3=>gY rfl rfl λk5 K6=>ve λu=>bJ (xI) u LW rfl rfl λk8 K9=>qk K9 rfl (v (vl 1 _ cF rfl rfl rfl (bU (eK (List.map dF ([IntKind.wrap .u8 (IntKind.wrap .u64 (97+((IntKind.wrap .u64 p1.N).tmod 5)))]:List Int)) jH rfl rfl rfl rfl) ?_))))
 obtain⟨st0,hs0,m⟩:=aC m
 refine bU (SY (c:=dF) hs0 (λ_=>rfl) u41 u5 u9 rfl) ?_
 obtain⟨Z0,m⟩:=m0 m
 refine bU (BT rfl rfl rfl (of_decide_eq_true Z0)) (v (v (vl 2 _ gH rfl rfl rfl (dE sK rfl (fN m (σ:=Int) (λs=> [(some k8,.obj 62 (xI)),(some k5,.obj 67 (gG p1)),(some k2,.obj 30 (aF p0))]) (λs=>.c 2 (.ptr k2 0) (.c 3 (.ptr k5 0) (.c 4 (.ptr k8 0) (.c 6 (.sc (.string ((ByteArray.mk #[110])++st0))) (.c 7 (nZ s) .nil))))) (λx m=> ?_) ?_)))))
 refine v ?_
 apply vi m <;> intro c0 m
 exact v (vl 1 _ cF rfl rfl rfl (vl 2 _ gH rfl rfl rfl (dE sK rfl (PP m λ_ m=>lX m))))
 exact v (lX m)
 rintro _ j0 m
 refine v (vl 1 _ cF rfl rfl rfl (v (v (fN m (σ:=Bool) (λs=> [(some k8,.obj 62 (xI)),(some k5,.obj 67 (gG p1)),(some k2,.obj 30 (aF p0))]) (λs=>.c 2 (.ptr k2 0) (.c 3 (.ptr k5 0) (.c 4 (.ptr k8 0) (.c 6 (.sc (.string ((ByteArray.mk #[110])++st0))) (.c 7 (nZ j0) (.c 47 (.sc (.int .u64 ((IntKind.wrap .u64 p1.Do).tmod 8))) (.c 48 (.sc (.bool s)) .nil))))))) (λx m=> ?_) ?_))))
 refine v ?_
 apply vi m <;> intro c1 m
 exact v (CF m)
 exact v (CF m)
 rintro _ j1 m
 refine v ?_
 apply vi m <;> intro c2 m
 refine v (vl 1 _ aC8 rfl rfl rfl (vk W85 aF6 m rfl rfl λ_ m=>v (v ?_)))
 apply vi m <;> intro c3 m
 refine v (bU (eS (xI) z7 rfl) (ve λu=>aK 0 (xI) u rfl rfl rfl rfl wP rfl rfl λK0=>qk K0 rfl (v ?_)))
 cases m
 exact vr λu=>dW.of2 (.inl rfl) (qW (.agg (xI)) pK rfl (bB 0 u rfl) rfl) (fT _ _ (.sc (.bool _)) rfl) (aT (List.nil_sublist _) u).1 (bF.agg (.k3 (.cons (aX _) (.cons (aX _) (.cons (aX _) (.k2 (.cons (aX _) .nil))))))) (bF.refl _ _) ⟨rfl,rfl⟩
 refine v (v (vk W86 aGC m rfl rfl λy0 m=>ve λu=>bJ ([.sc (.string ByteArray.empty),sZ]) u LV rfl rfl λk44 K1=>qk K1 rfl (ve λu=>aK 0 (bK y0.1) u rfl rfl rfl rfl zZ rfl rfl λK2=>qk K2 rfl (v (vl 3 _ cF rfl rfl rfl (vl 0 (.agg (bK y0.1)) nU rfl rfl rfl (bU (eS (([nZ p0.Seq]:List AV)++bK y0.1++([sZ]:List AV)) TF rfl) (bU (eS (([nZ 1,nZ p0.Seq]:List AV)++bK y0.1++(zq6:List AV)) z7 rfl) (ve λu=>bJ (xI) u LW rfl rfl λk49 K4=>qk K4 rfl (ve λu=>aK 0 (([nZ 1,nZ p0.Seq]:List AV)++bK y0.1++(zq6:List AV)) u rfl rfl rfl rfl wP rfl rfl λK5=>qk K5 rfl (v (qK (W0 (.tok 44 35 (([]:List aB).length*35)) 1 (([nZ 1,nZ p0.Seq]:List AV)++bK y0.1++([sZ,ow none 35 (List.map aI []),nZ 0,nZ 0,sZ]:List AV)) rfl (.k2 (cW.app 2 rfl (.cons (bF.refl _ _) (.cons (jD (c:=aI) _ 35) (.k3 .nil)))))) (nR m (σ:=(List aB)×Int) (τ:=Option cB) (λg s=> [(g,.tok 44 35 ((s.1:List aB).length*35)),(some k49,.obj 62 (([nZ 1,nZ p0.Seq]:List AV)++bK y0.1++([sZ,ow g 35 (List.map aI s.1),nZ 0,nZ 0,sZ]:List AV))),(some k44,.obj 58 (bK y0.1)),(some k8,.obj 62 (xI)),(some k5,.obj 67 (gG p1)),(some k2,.obj 30 (aF p0))]) (λg s=>(g=none→s.1= [])) (λg s=>.c 2 (.ptr k2 0) (.c 4 (.ptr k8 0) (.c 11 (.sl none 1 (List.map hX y0.2.1)) (.c 13 (.ptr k49 0) (.c 14 (nZ s.2) .nil))))) none (λ_=>rfl) (lx (.k5 .nil)) ?_ ?_)))))))))))))
 rintro tg0 ⟨q0,q1⟩ x t0 m
 replace m:DE w p0 y0 q0 q1=some x:=m
 unfold DE at m
 refine v (dE RL rfl (v ?_))
 apply vi m <;> intro c4 m
 refine v (v (v (vx m A5 rfl rfl λ_ _ m=>vk W87 aA2 m rfl rfl λy1 m=>ve λu=>bJ (bL jW) u JR rfl rfl λk255 K7=>qk K7 rfl (ve λu=>aK 0 (bL y1) u rfl rfl rfl rfl JQ rfl rfl λK8=>qk K8 rfl (v (vl 6 (.agg (aF p0)) fC rfl rfl rfl (vl 0 (.agg (bL y1)) fW rfl rfl rfl (vk W88 P4 m rfl rfl λ_ m=>pO m (σ:=(List aB)) (τ:=Option cB) (λg s=> [(some k255,.obj 36 (bL y1)),(g,.tok 44 35 ((s:List aB).length*35)),(some k49,.obj 62 (([nZ 1,nZ p0.Seq]:List AV)++bK y0.1++([sZ,ow g 35 (List.map aI s),nZ 0,nZ 0,sZ]:List AV))),(some k44,.obj 58 (bK y0.1)),(some k8,.obj 62 (xI)),(some k5,.obj 67 (gG p1)),(some k2,.obj 30 (aF p0))]) (λg s=>(g=none→s= [])) (λg s=>.c 2 (.ptr k2 0) (.c 4 (.ptr k8 0) (.c 11 (.sl none 1 (List.map hX y0.2.1)) (.c 13 (.ptr k49 0) (.c 14 (nZ q1) .nil))))) (λx m=> ?_) ?_))))))))
 refine v ?_
 apply vi m <;> intro c5 m
 refine v (vz [(11,some k49,.obj 62 (([nZ 1,nZ p0.Seq]:List AV)++bK y0.1++([sZ,ow tg0 35 (List.map aI q0),nZ 0,nZ 0,sZ]:List AV))),(1000000,some k255,.obj 36 (bL y1))] mixed (λu=>⟨λ_=>aJ 2 u rfl,λ_=>aJ 0 u rfl,trivial⟩) λu=>zF 0 rfl m6 rfl (zL 1 0 (ow tg0 35 (List.map aI q0)) rfl eJ rfl rfl rfl (zL 2 1 (.agg (bL y1)) rfl fW rfl rfl rfl (zC 3 rfl (eY (.sl _ _ _) rfl) (zI 4 rfl rfl ?_)))))
 obtain⟨x0,X0,m⟩:=aC m
 refine zC 5 rfl (nO X0 A5 rfl rfl) (zC 6 rfl (nX (.sl none 1 (List.map dF x0)) kA rfl rfl) (zC 7 rfl (fB (y:=.agg (aI ({ Id:=y1,Staged:=true,Data:=x0,Locs:= []}:aB))) (eS (bL y1++([.sc (.bool true),.sl none 1 (List.map dF x0),sZ]:List AV)) W2 rfl) (bF.agg (cW.app 32 rfl (.k2 (.cons (aX _) .nil))))) (zC 8 rfl (eK (List.map aI ([({ Id:=y1,Staged:=true,Data:=x0,Locs:= []}:aB)]:List aB)) lR rfl rfl rfl rfl) ?_)))
 obtain⟨z0,Z1,m⟩:=aC m
 refine zE 9 rfl (fF (c:=aI) 1 Z1 lR rfl rfl rfl t0 u rfl λtg1 t1 K10=>⟨⟨λ_=>aJ 2 K10 rfl,λ_=>aJ 0 K10 rfl,trivial⟩, ?_⟩)
 refine zF 10 rfl m6 rfl (zE 11 rfl (aK 2 (([nZ 1,nZ p0.Seq]:List AV)++bK y0.1++([sZ,ow tg1 35 (List.map aI z0),nZ 0,nZ 0,sZ]:List AV)) K10 rfl rfl (jE rfl) (pR _ _ _) zY rfl rfl λK11=>⟨⟨λe=>absurd e (by decide),λ_=>aJ 0 K11 rfl,trivial⟩, ?_⟩))
 exact zX (qk (f:=S5 97 _ _ _ _ _ _ _ _ _ _ _ _) K11 rfl (eW m tg1 t1 (lx (.k5 .nil))))
 exact v (eW m tg0 t0 (lx (.k5 .nil)))
 rintro tg2 j2 t2 m
 exact v (eW m tg2 t2 (lW [1,2,3,4,5,6] rfl rfl (.k5 .nil)))
 exact v (lM m tg0 t0 (lx (.k5 .nil)))
 rintro tg3 ⟨r0,r1⟩ t3 m
 refine v (vl 1 (.agg (([nZ 1,nZ p0.Seq]:List AV)++bK y0.1++([sZ,ow tg3 35 (List.map aI r0),nZ 0,nZ 0,sZ]:List AV))) pK rfl rfl rfl (ve λu=>aK 3 (([nZ 1,nZ p0.Seq]:List AV)++bK y0.1++([sZ,ow tg3 35 (List.map aI r0),nZ 0,nZ 0,sZ]:List AV)) u rfl rfl rfl (by repeat (first | exact rfl | refine cD (iL _ _ _) ?_ | refine cD (bW _ _ _) ?_ | refine cD (gJ _ _ _ _) ?_ | refine cD rfl ?_)) wP rfl rfl λK12=>qk K12 rfl ?_))
 refine v ?_
 cases m
 exact vr λu=>dW.of2 (.inl rfl) (qW (.agg (([nZ 1,nZ p0.Seq]:List AV)++bK y0.1++([sZ,ow tg3 35 (List.map aI r0),nZ 0,nZ 0,sZ]:List AV))) pK rfl (bB 3 u rfl) rfl) (fT _ _ (.sc (.bool _)) rfl) (aT (List.nil_sublist _) u).1 (bF.agg (.k2 (cW.app 2 rfl (.cons (aX _) (.cons ((eZ _ 0 t3 u rfl)) (.k2 (.cons (aX _) .nil))))))) (bF.refl _ _) ⟨rfl,rfl⟩
 refine v (fN m (σ:=Bool) (λs=> [(some k8,.obj 62 (xI)),(some k5,.obj 67 (gG p1)),(some k2,.obj 30 (aF p0))]) (λs=>.c 2 (.ptr k2 0) (.c 3 (.ptr k5 0) (.c 4 (.ptr k8 0) (.c 7 (nZ j0) (.c 47 (.sc (.int .u64 ((IntKind.wrap .u64 p1.Do).tmod 8))) (.c 99 (.sc (.bool s)) .nil)))))) (λx m=> ?_) ?_)
 refine v ?_
 apply vi m <;> intro c6 m
 exact v (nE m)
 exact v (nE m)
 rintro _ j3 m
 refine v ?_
 apply vi m <;> intro c7 m
 refine v (vl 2 _ fM rfl rfl rfl (dE jZ rfl (v ?_)))
 apply vi m <;> intro c8 m
 refine v (bU (eS (xI) z7 rfl) (ve λu=>aK 0 (xI) u rfl rfl rfl rfl wP rfl rfl λK13=>qk K13 rfl (v ?_)))
 cases m
 exact vr λu=>dW.of2 (.inl rfl) (qW (.agg (xI)) pK rfl (bB 0 u rfl) rfl) (fT _ _ (.sc (.bool _)) rfl) (aT (List.nil_sublist _) u).1 (bF.agg (.k3 (.cons (aX _) (.cons (aX _) (.cons (aX _) (.k2 (.cons (aX _) .nil))))))) (bF.refl _ _) ⟨rfl,rfl⟩
 refine v (v (vz [(1000000,some k2,.obj 30 (aF p0)),(1000000,some k5,.obj 67 (gG p1))] mixed (λu=>⟨λ_=>aJ 2 u rfl,λ_=>aJ 1 u rfl,trivial⟩) λu=>zF 0 rfl dV rfl (zL 1 0 (.sl none 4 (List.map bS p0.Snaps)) rfl fM rfl rfl rfl (zF 2 rfl TK rfl (zL 3 1 (nZ p1.N) rfl cF rfl rfl rfl (zC 4 rfl (JK W1 TH rfl) (zF 5 rfl dV rfl (zL 6 0 (.sl none 4 (List.map bS p0.Snaps)) rfl fM rfl rfl rfl (zC 7 rfl (uP jZ rfl) (zC 8 rfl (JK W1 TH rfl) ?_))))))))))
 obtain⟨Z2,m⟩:=m0 m
 refine zC 9 rfl (lQ rfl rfl rfl (WO Z2)) (zC 10 rfl (JK TH W1 rfl) ?_)
 obtain⟨x1,X1,m⟩:=aC m
 refine zC 11 rfl (nO X1 iU rfl rfl) (zC 12 rfl (nX (.agg (bS x1)) uY rfl rfl) (zE 13 rfl (bJ (WB) u u0 rfl rfl λk329 K14=>⟨⟨λ_=>aJ 3 K14 rfl,λ_=>aJ 2 K14 rfl,trivial⟩, ?_⟩)))
 refine zE 14 rfl (aK 0 (bS x1) K14 rfl rfl rfl rfl JT rfl rfl λK15=>⟨⟨λ_=>aJ 3 K15 rfl,λ_=>aJ 2 K15 rfl,trivial⟩, ?_⟩)
 refine zX (qk (f:=.c 16 _ (S6 119 _ _ _ _ _ _ _ _ _ _ _ _ _ _)) K15 rfl (v (vl 2 _ cF rfl rfl rfl (v ?_))))
 apply vi m <;> intro c9 m
 refine v (vl 0 _ cF rfl rfl rfl (bU (eS ([nZ 2,nZ 0,.sc (.string ByteArray.empty),sZ,sZ,sZ,nZ x1.Seq,nZ 0,sZ]) z7 rfl) (ve λu=>aK 1 ([nZ 2,nZ 0,.sc (.string ByteArray.empty),sZ,sZ,sZ,nZ x1.Seq,nZ 0,sZ]) u rfl rfl rfl rfl wP rfl rfl λK16=>qk K16 rfl (v ?_))))
 cases m
 exact vr λu=>dW.of2 (.inl rfl) (qW (.agg ([nZ 2,nZ 0,.sc (.string ByteArray.empty),sZ,sZ,sZ,nZ x1.Seq,nZ 0,sZ])) pK rfl (bB 1 u rfl) rfl) (fT _ _ (.sc (.bool _)) rfl) (aT (List.nil_sublist _) u).1 (bF.agg (.k3 (.cons (aX _) (.cons (aX _) (.cons (aX _) (.k2 (.cons (aX _) .nil))))))) (bF.refl _ _) ⟨rfl,rfl⟩
 refine v (v (vl 3 _ cF rfl rfl rfl (vl 0 _ cF rfl rfl rfl (bU (eS (aY ({ Kind:=3,Id:=jW,Seq:=p0.Seq,Of:=x1.Seq,Off:=13,Len:=17}:aS)) TC rfl) (bU (eK (List.map aY ([({ Kind:=3,Id:=jW,Seq:=p0.Seq,Of:=x1.Seq,Off:=13,Len:=17}:aS)]:List aS)) LS rfl rfl rfl rfl) (bU (eS ([nZ 3,nZ 0,.sc (.string ByteArray.empty),sZ,sZ,sZ,nZ 0,nZ j0,.sl none 37 (List.map aY ([({ Kind:=3,Id:=jW,Seq:=p0.Seq,Of:=x1.Seq,Off:=13,Len:=17}:aS)]:List aS))]) z7 rfl) (ve λu=>aK 1 ([nZ 3,nZ 0,.sc (.string ByteArray.empty),sZ,sZ,sZ,nZ 0,nZ j0,.sl none 37 (List.map aY ([({ Kind:=3,Id:=jW,Seq:=p0.Seq,Of:=x1.Seq,Off:=13,Len:=17}:aS)]:List aS))]) u rfl rfl rfl rfl wP rfl rfl λK17=>qk K17 rfl (v ?_))))))))
 cases m
 exact vr λu=>dW.of2 (.inl rfl) (qW (.agg ([nZ 3,nZ 0,.sc (.string ByteArray.empty),sZ,sZ,sZ,nZ 0,nZ j0,.sl none 37 (List.map aY ([({ Kind:=3,Id:=jW,Seq:=p0.Seq,Of:=x1.Seq,Off:=13,Len:=17}:aS)]:List aS))])) pK rfl (bB 1 u rfl) rfl) (fT _ _ (.sc (.bool _)) rfl) (aT (List.nil_sublist _) u).1 (bF.agg (.k3 (.cons (aX _) (.cons (aX _) (.cons (aX _) (.k3 .nil)))))) (bF.refl _ _) ⟨rfl,rfl⟩
 refine v (fN m (σ:=Bool) (λs=> [(some k8,.obj 62 (xI)),(some k5,.obj 67 (gG p1)),(some k2,.obj 30 (aF p0))]) (λs=>.c 2 (.ptr k2 0) (.c 3 (.ptr k5 0) (.c 4 (.ptr k8 0) (.c 7 (nZ j0) (.c 47 (.sc (.int .u64 ((IntKind.wrap .u64 p1.Do).tmod 8))) (.c 136 (.sc (.bool s)) .nil)))))) (λx m=> ?_) ?_)
 refine v ?_
 apply vi m <;> intro c10 m
 exact v (nE m)
 exact v (nE m)
 rintro _ j4 m
 refine v ?_
 apply vi m <;> intro c11 m
 refine v (v (v (qK (FL (.tok 38 37 (([]:List aS).length*37)) 17 (ow none 37 (List.map aY [])) (jD _ _)) (nR m (σ:=(List aS)×Int×Int) (τ:=Option cB) (λg s=> [(g,.tok 38 37 ((s.1:List aS).length*37)),(some k8,.obj 62 (xI)),(some k5,.obj 67 (gG p1)),(some k2,.obj 30 (aF p0))]) (λg s=>(g=none→s.1= [])) (λg s=>.c 2 (.ptr k2 0) (.c 3 (.ptr k5 0) (.c 4 (.ptr k8 0) (.c 7 (nZ j0) (.c 17 (ow g 37 (List.map aY s.1)) (.c 18 (nZ s.2.1) (.c 19 (nZ s.2.2) .nil))))))) none (λ_=>rfl) (lx (.k7 .nil)) ?_ ?_))))
 rintro tg4 ⟨q2,q3,q4⟩ x t4 m
 replace m:DF w p0 p1 q2 q3 q4=some x:=m
 unfold DF at m
 refine vs (vs (fN m (σ:=Bool) (λs=> [(tg4,.tok 38 37 ((q2:List aS).length*37)),(some k8,.obj 62 (xI)),(some k5,.obj 67 (gG p1)),(some k2,.obj 30 (aF p0))]) (λs=>.c 2 (.ptr k2 0) (.c 3 (.ptr k5 0) (.c 4 (.ptr k8 0) (.c 7 (nZ j0) (.c 17 (ow tg4 37 (List.map aY q2)) (.c 18 (nZ q3) (.c 19 (nZ q4) (.c 156 (.sc (.bool s)) .nil)))))))) (λx m=> ?_) ?_))
 refine v (vl 3 _ eJ rfl rfl rfl (dE iG rfl (vl 3 _ fM rfl rfl rfl (dE jZ rfl (vl 3 _ jG rfl rfl rfl (dE pW rfl ?_))))))
 apply vi m <;> intro b0 m
 rw[b0]
 exact bU (uQ pI t4 rfl) (GG m)
 rw[b0]
 exact GG m
 rintro _ j5 m
 refine v ?_
 apply vi m <;> intro c12 m
 refine v (vs (pO m (σ:=(List aS)×Int) (τ:=Option cB) (λg s=> [(g,.tok 38 37 ((s.1:List aS).length*37)),(some k8,.obj 62 (xI)),(some k5,.obj 67 (gG p1)),(some k2,.obj 30 (aF p0))]) (λg s=>(g=none→s.1= [])) (λg s=>.c 2 (.ptr k2 0) (.c 3 (.ptr k5 0) (.c 4 (.ptr k8 0) (.c 7 (nZ j0) (.c 17 (ow g 37 (List.map aY s.1)) (.c 18 (nZ s.2) (.c 19 (nZ q4) .nil))))))) (λx m=> ?_) ?_))
 refine v (vs (vs (fN m (σ:=Bool) (λs=> [(tg4,.tok 38 37 ((q2:List aS).length*37)),(some k8,.obj 62 (xI)),(some k5,.obj 67 (gG p1)),(some k2,.obj 30 (aF p0))]) (λs=>.c 2 (.ptr k2 0) (.c 3 (.ptr k5 0) (.c 4 (.ptr k8 0) (.c 7 (nZ j0) (.c 17 (ow tg4 37 (List.map aY q2)) (.c 18 (nZ q3) (.c 19 (nZ q4) (.c 171 (.sc (.bool s)) .nil)))))))) (λx m=> ?_) ?_)))
 refine v (vl 2 _ W7 rfl rfl rfl (dE W6 rfl ?_))
 apply vi m <;> intro b1 m
 rw[b1]
 exact vl 2 _ W7 rfl rfl rfl (vx m aC9 rfl rfl λ_ _ m=>GG m)
 rw[b1]
 exact GG m
 rintro _ j6 m
 refine v ?_
 apply vi m <;> intro c13 m
 exact v (eW m tg4 t4 (lx (.k7 .nil)))
 refine v (v (bU (eS (aY ({ Kind:=0,Id:=jW,Seq:=0,Of:=0,Off:=q3,Len:=20}:aS)) TC rfl) (ve λu=>bJ (([nZ 0]:List AV)++bL jW++(OQ:List AV)) u TD rfl rfl λk1523 K18=>qk K18 rfl (ve λu=>aK 0 (aY ({ Kind:=0,Id:=jW,Seq:=0,Of:=0,Off:=q3,Len:=20}:aS)) u rfl rfl rfl rfl TB rfl rfl λK19=>qk K19 rfl (v (v (vl 4 _ eJ rfl rfl rfl (dE iG rfl (fN m (σ:=aS) (λs=> [(some k1523,.obj 38 (aY s)),(tg4,.tok 38 37 ((q2:List aS).length*37)),(some k8,.obj 62 (xI)),(some k5,.obj 67 (gG p1)),(some k2,.obj 30 (aF p0))]) (λs=>.c 2 (.ptr k2 0) (.c 3 (.ptr k5 0) (.c 4 (.ptr k8 0) (.c 7 (nZ j0) (.c 17 (ow tg4 37 (List.map aY q2)) (.c 18 (nZ q3) (.c 19 (nZ q4) (.c 20 (.ptr k1523 0) .nil)))))))) (λx m=> ?_) ?_)))))))))
 refine v ?_
 apply vi m <;> intro c14 m
 refine v (vz [(1000000,some k2,.obj 30 (aF p0)),(7,some k1523,.obj 38 (aY ({ Kind:=0,Id:=jW,Seq:=0,Of:=0,Off:=q3,Len:=20}:aS)))] mixed (λu=>⟨λ_=>aJ 4 u rfl,λ_=>aJ 0 u rfl,trivial⟩) λu=>zF 0 rfl dR rfl (zL 1 0 (.sl none 35 (List.map aI p0.Chunks)) rfl eJ rfl rfl rfl (zI 2 rfl rfl ?_)))
 obtain⟨x2,X2,m⟩:=aC m
 refine zC 3 rfl (nO X2 fH rfl rfl) (zC 4 rfl (oM nT rfl rfl) (zC 5 rfl (nX (.agg (bL x2.Id)) fW rfl rfl) (zF 6 rfl l4 rfl (zE 7 rfl (aK 0 (aY { ({ Kind:=0,Id:=jW,Seq:=0,Of:=0,Off:=q3,Len:=20}:aS) with Kind:=1}) u rfl rfl rfl rfl zT rfl rfl λK20=>⟨⟨λ_=>aJ 4 K20 rfl,λe=>absurd e (by decide),trivial⟩, ?_⟩)))))
 refine zF 8 rfl uV rfl (zE 9 rfl (aK 0 (aY { { ({ Kind:=0,Id:=jW,Seq:=0,Of:=0,Off:=q3,Len:=20}:aS) with Kind:=1} with Id:=x2.Id}) K20 rfl rfl rfl rfl JQ rfl rfl λK21=>⟨⟨λ_=>aJ 4 K21 rfl,λe=>absurd e (by decide),trivial⟩, ?_⟩))
 exact zX (qk (f:=S4 207 _ _ _ _ _ _ _ _ _) K21 rfl (GG m))
 refine v (vl 4 _ eJ rfl rfl rfl (dE iG rfl (vl 4 _ fM rfl rfl rfl (dE jZ rfl (fN m (σ:=aS) (λs=> [(some k1523,.obj 38 (aY s)),(tg4,.tok 38 37 ((q2:List aS).length*37)),(some k8,.obj 62 (xI)),(some k5,.obj 67 (gG p1)),(some k2,.obj 30 (aF p0))]) (λs=>.c 2 (.ptr k2 0) (.c 3 (.ptr k5 0) (.c 4 (.ptr k8 0) (.c 7 (nZ j0) (.c 17 (ow tg4 37 (List.map aY q2)) (.c 18 (nZ q3) (.c 19 (nZ q4) (.c 20 (.ptr k1523 0) .nil)))))))) (λx m=> ?_) ?_)))))
 refine v ?_
 apply vi m <;> intro c15 m
 refine v (vz [(1000000,some k2,.obj 30 (aF p0)),(11,some k1523,.obj 38 (aY ({ Kind:=0,Id:=jW,Seq:=0,Of:=0,Off:=q3,Len:=20}:aS)))] mixed (λu=>⟨λ_=>aJ 4 u rfl,λ_=>aJ 0 u rfl,trivial⟩) λu=>zF 0 rfl dV rfl (zL 1 0 (.sl none 4 (List.map bS p0.Snaps)) rfl fM rfl rfl rfl (zI 2 rfl rfl (zF 3 rfl dR rfl (zL 4 0 (.sl none 35 (List.map aI p0.Chunks)) rfl eJ rfl rfl rfl (zC 5 rfl (uP iG rfl) (zC 6 rfl (lQ rfl rfl rfl trivial) ?_)))))))
 obtain⟨x3,X3,m⟩:=aC m
 refine zC 7 rfl (nO X3 iU rfl rfl) (zC 8 rfl (oM uZ rfl rfl) (zC 9 rfl (nX (nZ x3.Seq) cF rfl rfl) (zF 10 rfl l4 rfl (zE 11 rfl (aK 0 (aY { ({ Kind:=0,Id:=jW,Seq:=0,Of:=0,Off:=q3,Len:=20}:aS) with Kind:=2}) u rfl rfl rfl rfl zT rfl rfl λK22=>⟨⟨λ_=>aJ 4 K22 rfl,λe=>absurd e (by decide),trivial⟩, ?_⟩)))))
 refine zF 12 rfl lD rfl (zE 13 rfl (aK 0 (aY { { ({ Kind:=0,Id:=jW,Seq:=0,Of:=0,Off:=q3,Len:=20}:aS) with Kind:=2} with Seq:=x3.Seq}) K22 rfl rfl rfl rfl zT rfl rfl λK23=>⟨⟨λ_=>aJ 4 K23 rfl,λe=>absurd e (by decide),trivial⟩, ?_⟩))
 exact zX (qk (f:=GD 229 _ _ _ _ _ _ _ _ _ _ _ _ _) K23 rfl (GG m))
 refine v (vl 4 _ jG rfl rfl rfl (vl 4 _ eJ rfl rfl rfl (dE iG rfl (vl 4 _ fM rfl rfl rfl (dE jZ rfl (vx m iM rfl rfl λx4 _ m=>va (.agg (cP x4)) u7 rfl rfl (ve λu=>bJ ([nZ 0,nZ 0,sZ]) u rL rfl rfl λk1631 K24=>qk K24 rfl (ve λu=>aK 0 (cP x4) u rfl rfl rfl rfl GQ rfl rfl λK25=>qk K25 rfl (v (vz [(1000000,some k1631,.obj 99 (cP x4)),(5,some k1523,.obj 38 (aY ({ Kind:=0,Id:=jW,Seq:=0,Of:=0,Off:=q3,Len:=20}:aS)))] mixed (λu=>⟨λ_=>aJ 0 u rfl,λ_=>aJ 1 u rfl,trivial⟩) λu=>zF 0 rfl GR rfl (zL 1 0 (nZ x4.Seq) rfl cF rfl rfl rfl (zF 2 rfl TS rfl (zL 3 0 (nZ x4.Of) rfl cF rfl rfl rfl (zF 4 rfl l4 rfl (zE 5 rfl (aK 1 (aY { ({ Kind:=0,Id:=jW,Seq:=0,Of:=0,Off:=q3,Len:=20}:aS) with Kind:=3}) u rfl rfl rfl rfl zT rfl rfl λK26=>⟨⟨λ_=>aJ 0 K26 rfl,λe=>absurd e (by decide),trivial⟩, ?_⟩))))))))))))))))
 refine zF 6 rfl lD rfl (zE 7 rfl (aK 1 (aY { { ({ Kind:=0,Id:=jW,Seq:=0,Of:=0,Off:=q3,Len:=20}:aS) with Kind:=3} with Seq:=x4.Seq}) K26 rfl rfl rfl rfl zT rfl rfl λK27=>⟨⟨λ_=>aJ 0 K27 rfl,λe=>absurd e (by decide),trivial⟩, ?_⟩))
 refine zF 8 rfl uW rfl (zE 9 rfl (aK 1 (aY { { { ({ Kind:=0,Id:=jW,Seq:=0,Of:=0,Off:=q3,Len:=20}:aS) with Kind:=3} with Seq:=x4.Seq} with Of:=x4.Of}) K27 rfl rfl rfl rfl zT rfl rfl λK28=>⟨⟨λ_=>aJ 0 K28 rfl,λe=>absurd e (by decide),trivial⟩, ?_⟩))
 exact zX (qk (f:=fq7 193 _ _ _ _ _ _ _ _) K28 rfl (yB m (lW [1,2,3,4,5] rfl rfl (.k8 .nil))))
 rintro _ j7 m
 exact GG m
 rintro _ j8 m
 refine v (vl 0 (.agg (aY j8)) GK rfl rfl rfl (bU (eK (List.map aY ([j8]:List aS)) LS rfl rfl rfl rfl) ?_))
 obtain⟨z1,Z3,m⟩:=aC m
 exact ve λu=>fF (c:=aY) 1 Z3 LS rfl rfl rfl t4 u rfl λtg5 t5 K29=>qk K29 rfl (eW m tg5 t5 (lW [1,2,3,4] rfl rfl (.k7 .nil)))
 rintro tg6 ⟨j9,j10⟩ t6 m
 exact v (eW m tg6 t6 (lx (.k7 .nil)))
 exact v (lM m tg4 t4 (lx (.k7 .nil)))
 rintro tg7 ⟨r2,r3,r4⟩ t7 m
 refine v (bU (eS ([nZ 3,nZ 0,.sc (.string ByteArray.empty),sZ,sZ,sZ,nZ 0,nZ j0,ow tg7 37 (List.map aY r2)]) z7 (by cases tg7 <;> rfl)) (bU (uQ pI t7 rfl) (ve λu=>aK 1 ([nZ 3,nZ 0,.sc (.string ByteArray.empty),sZ,sZ,sZ,nZ 0,nZ j0,ow tg7 37 (List.map aY r2)]) u rfl rfl rfl (by repeat (first | exact rfl | refine cD (iL _ _ _) ?_ | refine cD (bW _ _ _) ?_ | refine cD (gJ _ _ _ _) ?_ | refine cD rfl ?_)) wP rfl rfl λK30=>qk K30 rfl ?_)))
 refine v ?_
 cases m
 exact vr λu=>dW.of2 (.inl rfl) (qW (.agg ([nZ 3,nZ 0,.sc (.string ByteArray.empty),sZ,sZ,sZ,nZ 0,nZ j0,ow tg7 37 (List.map aY r2)])) pK rfl (bB 1 u rfl) rfl) (fT _ _ (.sc (.bool _)) rfl) (aT (List.nil_sublist _) u).1 (bF.agg (.k3 (.cons (aX _) (.cons (aX _) (.cons (aX _) (.k2 (.cons ((eZ _ 0 t7 u rfl)) .nil))))))) (bF.refl _ _) ⟨rfl,rfl⟩
 refine v (v ?_)
 apply vi m <;> intro c16 m
 refine v (bU (eS ([nZ 4,nZ 0,.sc (.string ByteArray.empty),sZ,sZ,sZ,nZ 0,nZ j0,sZ]) z7 rfl) (ve λu=>aK 0 ([nZ 4,nZ 0,.sc (.string ByteArray.empty),sZ,sZ,sZ,nZ 0,nZ j0,sZ]) u rfl rfl rfl rfl wP rfl rfl λK31=>qk K31 rfl (v ?_)))
 cases m
 exact vr λu=>dW.of2 (.inl rfl) (qW (.agg ([nZ 4,nZ 0,.sc (.string ByteArray.empty),sZ,sZ,sZ,nZ 0,nZ j0,sZ])) pK rfl (bB 0 u rfl) rfl) (fT _ _ (.sc (.bool _)) rfl) (aT (List.nil_sublist _) u).1 (bF.agg (.k3 (.cons (aX _) (.cons (aX _) (.cons (aX _) (.k2 (.cons (aX _) .nil))))))) (bF.refl _ _) ⟨rfl,rfl⟩
 refine v (v (bU (eS ([nZ 5,nZ 0,.sc (.string ByteArray.empty),sZ,sZ,sZ,nZ 0,nZ j0,sZ]) z7 rfl) (ve λu=>aK 0 ([nZ 5,nZ 0,.sc (.string ByteArray.empty),sZ,sZ,sZ,nZ 0,nZ j0,sZ]) u rfl rfl rfl rfl wP rfl rfl λK32=>qk K32 rfl (v ?_))))
 cases m
 exact vr λu=>dW.of2 (.inl rfl) (qW (.agg ([nZ 5,nZ 0,.sc (.string ByteArray.empty),sZ,sZ,sZ,nZ 0,nZ j0,sZ])) pK rfl (bB 0 u rfl) rfl) (fT _ _ (.sc (.bool _)) rfl) (aT (List.nil_sublist _) u).1 (bF.agg (.k3 (.cons (aX _) (.cons (aX _) (.cons (aX _) (.k2 (.cons (aX _) .nil))))))) (bF.refl _ _) ⟨rfl,rfl⟩
theorem aGD:aO Tryz.prog 35=true:=by kernel_rfl
open Go.Vm
def DG (m:Nat) (p0:List n4) (q0:Int) (q1:Int):Option (Lp (Int) (Lp (Int) (Bool))):=
 (ix p0 q0).bind λx0=>if (decide (q1 < (x0.Tree.length:Int)))=true then (after ((ix p0 q0).bind λx1=>(ix x1.Tree q1).bind λx2=>if (decide (300 < (x2.Data.length:Int)))=true then (some (.brk true)) else (ix p0 q0).bind λx3=>(ix x3.Tree q1).bind λx4=>some (.brk (decide (50 < (x4.Path.size:Int)))):Option (Lp (Bool) (Lp (Int) (Lp (Int) (Bool))))) λj0=>if j0=true then (some (.ret (.ret true))) else some (.go (IntKind.wrap .i64 (q1+1)))) else some (.brk q1)
def DH (m:Nat) (p0:List n4) (q0:Int):Option (Lp (Int) (Bool)):=
 after (if (decide (q0 < (p0.length:Int)))=true then (some (.brk (decide (q0 < 30)))) else some (.brk false):Option (Lp (Bool) (Lp (Int) (Bool)))) λj0=>if j0=true then (after ((ix p0 q0).bind λx0=>if (decide (300 < (x0.Pick.length:Int)))=true then (some (.brk true)) else (ix p0 q0).bind λx1=>some (.brk (decide (10 < (x1.Tree.length:Int)))):Option (Lp (Bool) (Lp (Int) (Bool)))) λj1=>if j1=true then (some (.ret true)) else after (aU (λs=>DG m p0 q0 s) m 0) λr0=>some (.go (IntKind.wrap .i64 (q0+1)))) else some (.brk q0)
def M14 (m:Nat) (p0:List n4):Option (Bool):=
 if (decide (120 < (p0.length:Int)))=true then (some true) else after (aU (λs=>DH m p0 s) m 0) λr0=>some false
theorem W14 {u:Nat} {p0:List n4} {o:Bool} (h:aE) (m:M14 u p0=some o):
 aL Tryz.prog 14 [.sl none 5 (List.map gG p0)] h (λr h'=>r= .sc (.bool o)∧h'=h):=by
 refine f8 68 [.tmp 2] Tryz.func14 rfl rfl rfl rfl ?_
 unfold M14 at m
 refine v (v (dE TA rfl (v ?_)))
 apply vi m <;> intro c4 m
 refine v (v ?_)
 obtain rfl:=eT m
 exact eD rfl
 refine v (v (jY m (σ:=Int) (λs=> []) (λs=>.c 0 (.sl none 5 (List.map gG p0)) (.c 3 (nZ s) .nil)) (lx (.k2 .nil)) ?_ ?_))
 rintro _ q0 x m
 replace m:DH u p0 q0=some x:=m
 unfold DH at m
 refine vs (vs (fN m (σ:=Bool) (λs=> []) (λs=>.c 0 (.sl none 5 (List.map gG p0)) (.c 3 (nZ q0) (.c 15 (.sc (.bool s)) .nil))) (λx m=> ?_) ?_))
 refine v (dE TA rfl ?_)
 apply vi m <;> intro b0 m
 rw[b0]
 exact gU m
 rw[b0]
 exact gU m
 rintro _ j0 m
 refine v ?_
 apply vi m <;> intro c0 m
 refine v (v (vs (vs (fN m (σ:=Bool) (λs=> []) (λs=>.c 0 (.sl none 5 (List.map gG p0)) (.c 3 (nZ q0) (.c 33 (.sc (.bool s)) .nil))) (λx m=> ?_) ?_))))
 refine v (vx m JO rfl rfl λ_ _ m=>dE W6 rfl ?_)
 apply vi m <;> intro b1 m
 rw[b1]
 exact gU m
 rw[b1]
 exact vx m JO rfl rfl λ_ _ m=>dE z8 rfl (gU m)
 rintro _ j1 m
 refine v ?_
 apply vi m <;> intro c1 m
 refine v (v (gM m λm=> ?_))
 obtain rfl:=eT m
 exact eD rfl
 refine v (v (jY m (σ:=Int) (λs=> []) (λs=>.c 0 (.sl none 5 (List.map gG p0)) (.c 3 (nZ q0) (.c 4 (nZ s) .nil))) (lx (.k3 .nil)) ?_ ?_))
 rintro _ q1 x m
 replace m:DG u p0 q0 q1=some x:=m
 unfold DG at m
 refine v (vx m JO rfl rfl λ_ _ m=>dE z8 rfl (v ?_))
 apply vi m <;> intro c2 m
 refine v (v (vs (fN m (σ:=Bool) (λs=> []) (λs=>.c 0 (.sl none 5 (List.map gG p0)) (.c 3 (nZ q0) (.c 4 (nZ q1) (.c 67 (.sc (.bool s)) .nil)))) (λx m=> ?_) ?_)))
 refine v (vx m JO rfl rfl λ_ _ m=>vx m pL rfl rfl λ_ _ m=>dE kK rfl ?_)
 apply vi m <;> intro b2 m
 rw[b2]
 exact iE m
 rw[b2]
 exact vx m JO rfl rfl λ_ _ m=>vx m pL rfl rfl λ_ _ m=>bU (oL PS rfl) (iE m)
 rintro _ j2 m
 refine v ?_
 apply vi m <;> intro c3 m
 refine v (v (gM m λm=>gM m λm=> ?_))
 obtain rfl:=eT m
 exact eD rfl
 exact v (v (gU m))
 exact v (EE m)
 rintro _ r0 m
 exact v (rH m)
 exact v (OO m)
 rintro _ r1 m
 refine v (v ?_)
 obtain rfl:=eT m
 exact eD rfl
theorem aGE:aO Tryz.prog 14=true:=by kernel_rfl
def DI (m:Nat) (p0:List Int) (q0:List Int) (q1:Int):Option (Lp ((List Int)×Int) ((List Int))):=
 after (if (decide (q1 < (p0.length:Int)))=true then (some (.brk (decide (q1 < 8)))) else some (.brk false):Option (Lp (Bool) (Lp ((List Int)×Int) ((List Int))))) λj0=>if j0=true then ((ix p0 q1).bind λx0=>(app q0 ([cH .and .i64 x0 1]:List Int)).bind λz0=>some (.go (z0,IntKind.wrap .i64 (q1+1)))) else some (.brk (q0,q1))
def M16 (m:Nat) (p0:List Int):Option ((List Int)):=
 after (aU (λs=>DI m p0 s.1 s.2) m ([],0)) λ⟨r0,r1⟩=>after (if ((r0.length:Int)==0)=true then (some (.brk ([0]:List Int))) else some (.brk r0):Option (Lp ((List Int)) ((List Int)))) λj0=>some j0
theorem W16 {w:Nat} {p0:List Int} {o:(List Int)} (h:aE) (m:M16 w p0=some o):
 aL Tryz.prog 16 [.sl none 1 (List.map iY p0)] h (λr h'=>r= .sl none 1 (List.map iY o)∧h'=h):=by
 refine f8 28 [.tmp 2] Tryz.func16 rfl rfl rfl rfl ?_
 unfold M16 at m
 refine v (v (v (qK (FL (.tok 3 1 (([]:List Int).length*1)) 3 (ow none 1 (List.map iY [])) (jD _ _)) (nR m (σ:=(List Int)×Int) (τ:=Option cB) (λg s=> [(g,.tok 3 1 ((s.1:List Int).length*1))]) (λg s=>(g=none→s.1= [])) (λg s=>.c 0 (.sl none 1 (List.map iY p0)) (.c 3 (ow g 1 (List.map iY s.1)) (.c 4 (nZ s.2) .nil))) none (λ_=>rfl) (lx (.k3 .nil)) ?_ ?_))))
 rintro tg0 ⟨q0,q1⟩ x t0 m
 replace m:DI w p0 q0 q1=some x:=m
 unfold DI at m
 refine vs (vs (fN m (σ:=Bool) (λs=> [(tg0,.tok 3 1 ((q0:List Int).length*1))]) (λs=>.c 0 (.sl none 1 (List.map iY p0)) (.c 3 (ow tg0 1 (List.map iY q0)) (.c 4 (nZ q1) (.c 12 (.sc (.bool s)) .nil)))) (λx m=> ?_) ?_))
 refine v (dE JN rfl ?_)
 apply vi m <;> intro b0 m
 rw[b0]
 exact iE m
 rw[b0]
 exact iE m
 rintro _ j0 m
 refine v ?_
 apply vi m <;> intro c0 m
 refine v (v (v (vx m S9 rfl rfl λx0 _ m=>bU (eK (List.map iY ([cH .and .i64 x0 1]:List Int)) PT rfl rfl rfl rfl) ?_)))
 obtain⟨z0,Z0,m⟩:=aC m
 exact ve λu=>fF (c:=iY) 0 Z0 PT rfl rfl rfl t0 u rfl λtg1 t1 K0=>qk K0 rfl (v (eW m tg1 t1 (lx (.k3 .nil))))
 exact v (lM m tg0 t0 (lx (.k3 .nil)))
 rintro tg2 ⟨r0,r1⟩ t2 m
 refine v (bU (uQ JN t2 rfl) (pO m (σ:=(List Int)) (τ:=Option cB) (λg s=> [(g,.tok 3 1 ((s:List Int).length*1))]) (λg s=>(g=none→s= [])) (λg s=>.c 3 (ow g 1 (List.map iY s)) .nil) (λx m=> ?_) ?_))
 refine v ?_
 apply vi m <;> intro c1 m
 exact v (ve λu=>F0 (c:=iY) ([0]:List Int) u PT rfl rfl rfl rfl λtg3 t3 K1=>qk K1 rfl (eW m tg3 t3 (lW [0] rfl rfl (.cons (bF.refl _ _) .nil))))
 exact v (eW m tg2 t2 (lx (.cons (bF.refl _ _) .nil)))
 rintro tg4 j1 t4 m
 refine v (v ?_)
 obtain rfl:=eT m
 exact vr λu=>dW.of1 (.inl rfl) (fT _ _ (ow _ _ _) rfl) (aT (List.nil_sublist _) u).1 ((eZ _ 0 t4 u rfl)) ⟨rfl,rfl⟩
theorem aGF:aO Tryz.prog 16=true:=by kernel_rfl
def DJ (m:Nat) (p1:List n4) (q0:aA) (q1:Int):Option (Lp (aA×Int) (aA)):=
 after (if (decide (q1 < (p1.length:Int)))=true then (some (.brk (decide (q1 < 30)))) else some (.brk false):Option (Lp (Bool) (Lp (aA×Int) (aA)))) λj0=>if j0=true then ((ix p1 q1).bind λx0=>(M35 m q0 x0).bind λy0=>after (if y0.2=true then ((FA m q0 y0.1).bind λy1=>after (if (y1.2==0)=true then (some (.brk y1.1)) else some (.brk q0):Option (Lp (aA) (Lp (aA) (Lp (aA×Int) (aA))))) λj1=>some (.brk j1)) else some (.brk q0):Option (Lp (aA) (Lp (aA×Int) (aA)))) λj2=>some (.go (j2,IntKind.wrap .i64 (q1+1)))) else some (.brk (q0,q1))
def M15 (m:Nat) (p0:List Int) (p1:List n4):Option (aA):=
 (YW m p0).bind λy6=>after (aU (λs=>DJ m p1 s.1 s.2) m (y6,0)) λ⟨r0,r1⟩=>some r0
theorem W15 {w:Nat} {p0:List Int} {p1:List n4} {o:aA} (h:aE) (m:M15 w p0 p1=some o):
 aL Tryz.prog 15 [.sl none 1 (List.map iY p0),.sl none 5 (List.map gG p1)] h (λr h'=>r= .agg (aF o)∧h'=h):=by
 refine f8 43 [.cell 4 30] Tryz.func15 rfl rfl rfl rfl ?_
 unfold M15 at m
 refine v (ve λu=>bJ (hH) u pX rfl rfl λk2 K3=>qk K3 rfl (v (vk W33 aEW m rfl rfl λy6 m=>ve λu=>bJ (hH) u pX rfl rfl λk8 K9=>qk K9 rfl (ve λu=>aK 0 (aF y6) u rfl rfl rfl rfl lZ rfl rfl λK0=>qk K0 rfl (v (jY m (σ:=aA×Int) (λs=> [(some k8,.obj 30 (aF s.1)),(some k2,.obj 30 (hH))]) (λs=>.c 1 (.sl none 5 (List.map gG p1)) (.c 4 (.ptr k2 0) (.c 5 (.ptr k8 0) (.c 6 (nZ s.2) .nil)))) (lx (.k4 .nil)) ?_ ?_))))))
 rintro _ ⟨q0,q1⟩ x m
 replace m:DJ w p1 q0 q1=some x:=m
 unfold DJ at m
 refine vs (vs (fN m (σ:=Bool) (λs=> [(some k8,.obj 30 (aF q0)),(some k2,.obj 30 (hH))]) (λs=>.c 1 (.sl none 5 (List.map gG p1)) (.c 4 (.ptr k2 0) (.c 5 (.ptr k8 0) (.c 6 (nZ q1) (.c 20 (.sc (.bool s)) .nil))))) (λx m=> ?_) ?_))
 refine v (dE TA rfl ?_)
 apply vi m <;> intro b0 m
 rw[b0]
 exact lX m
 rw[b0]
 exact lX m
 rintro _ j0 m
 refine v ?_
 apply vi m <;> intro c0 m
 refine v (v (v (vz [(1000000,some k8,.obj 30 (aF q0))] mixed (λu=>⟨λ_=>aJ 0 u rfl,trivial⟩) λu=>zL 0 0 (.agg (aF q0)) rfl fC rfl rfl rfl (zC 1 rfl (eY (.sl _ _ _) rfl) (zI 2 rfl rfl ?_)))))
 obtain⟨x0,X0,m⟩:=aC m
 refine zC 3 rfl (nO X0 JO rfl rfl) (zC 4 rfl (nX (.agg (gG x0)) aDA rfl rfl) ?_)
 obtain⟨y0,Y0,m⟩:=aC m
 refine zC 5 rfl (bY (W35 _ Y0) rfl aGD rfl) (zC 6 rfl (eY (.tup _) rfl) (zC 7 rfl (PB (.agg _) rfl rfl) (zC 8 rfl (PB (.sc (.bool _)) rfl rfl) (zE 9 rfl (bJ (xI) u LW rfl rfl λk155 K1=>⟨⟨λ_=>aJ 1 K1 rfl,trivial⟩, ?_⟩)))))
 refine zE 10 rfl (aK 0 (aD y0.1) K1 rfl rfl rfl rfl wP rfl rfl λK2=>⟨⟨λ_=>aJ 1 K2 rfl,trivial⟩, ?_⟩)
 refine zC 11 rfl (iC (.sc (.bool _)) rfl) (zX (qk (f:=.c 8 _ (.c 7 _ (.c 31 _ (.c 30 _ (.c 23 _ (fq6 29 _ _ _ _ _ _ _)))))) K2 rfl (v (fN m (σ:=aA) (λs=> [(some k155,.obj 62 (aD y0.1)),(some k8,.obj 30 (aF s)),(some k2,.obj 30 (hH))]) (λs=>.c 1 (.sl none 5 (List.map gG p1)) (.c 4 (.ptr k2 0) (.c 5 (.ptr k8 0) (.c 6 (nZ q1) .nil)))) (λx m=> ?_) ?_))))
 refine v ?_
 apply vi m <;> intro c1 m
 refine v (vl 1 (.agg (aF q0)) fC rfl rfl rfl (vl 0 (.agg (aD y0.1)) pK rfl rfl rfl (vk W36 aF5 m rfl rfl λy1 m=>ve λu=>bJ (hH) u pX rfl rfl λk180 K4=>qk K4 rfl (ve λu=>aK 0 (aF y1.1) u rfl rfl rfl rfl lZ rfl rfl λK5=>qk K5 rfl (v (fN m (σ:=aA) (λs=> [(some k180,.obj 30 (aF y1.1)),(some k155,.obj 62 (aD y0.1)),(some k8,.obj 30 (aF s)),(some k2,.obj 30 (hH))]) (λs=>.c 1 (.sl none 5 (List.map gG p1)) (.c 4 (.ptr k2 0) (.c 5 (.ptr k8 0) (.c 6 (nZ q1) .nil)))) (λx m=> ?_) ?_))))))
 refine v ?_
 apply vi m <;> intro c2 m
 exact v (vl 0 (.agg (aF y1.1)) fC rfl rfl rfl (ve λu=>aK 2 (aF y1.1) u rfl rfl rfl rfl lZ rfl rfl λK6=>qk K6 rfl (iE m)))
 exact v (iE m)
 rintro _ j1 m
 exact yB m (lW [1,2,3] rfl rfl (.k4 .nil))
 exact v (iE m)
 rintro _ j2 m
 exact v (yB m (lW [1,2] rfl rfl (.k4 .nil)))
 exact v (wW m)
 rintro _ ⟨r0,r1⟩ m
 refine v (vl 0 (.agg (aF r0)) fC rfl rfl rfl (ve λu=>aK 1 (aF r0) u rfl rfl rfl rfl lZ rfl rfl λK7=>qk K7 rfl (v ?_)))
 obtain rfl:=eT m
 exact vr λu=>dW.of1 (.inl rfl) (qW (.agg (aF r0)) fC rfl (bB 1 u rfl) rfl) (aT (List.nil_sublist _) u).1 (bF.refl _ _) ⟨rfl,rfl⟩
theorem aGG:aO Tryz.prog 15=true:=by kernel_rfl
end Go.Proofs.YtbbifdfldpfphaaGreat
namespace Go.Vm
def T {α:Type} (m:Option α) (Q:α→Prop):Prop:=∃a,m=some a∧Q a
def L3 {σ ρ:Type} (G B:σ→Prop) (R:ρ→Prop):Lp σ ρ→Prop
 | .go s=>G s
 | .brk s=>B s
 | .ret r=>R r
section
variable {α β σ ρ:Type} {Q:β→Prop}
theorem T.some {a:β} (h:Q a):T (some a) Q:=⟨a,rfl,h⟩
theorem T.mono {P:β→Prop} {m:Option β} (h:T m P) (k:∀a,P a→Q a):T m Q:=by obtain⟨a,e,p⟩:=h; exact⟨a,e,k a p⟩
theorem T.of {m:Option β} {a:β} (h:m= .some a) (hq:Q a):T m Q:=⟨a,h,hq⟩
theorem T.bind {m:Option α} {k:α→Option β} (P:α→Prop) (h:T m P) (hk:∀a,P a→T (k a) Q):T (m.bind k) Q:=by
 obtain⟨a,e,p⟩:=h
 rw[e]; exact hk a p
theorem T.bindEq {m:Option α} {k:α→Option β} {a:α} (h:m= .some a) (hk:T (k a) Q):T (m.bind k) Q:=by rw[h]; exact hk
theorem T.ite {c:Prop} [Decidable c] {a b:Option β} (h1:c→T a Q) (h2:¬c→T b Q):T (if c then a else b) Q:=by
 by_cases h:c
 ·rw[if_pos h]; exact h1 h
 ·rw[if_neg h]; exact h2 h
theorem T.grd {b:Bool} {k:Option β} (hb:b=true) (h:T k Q):T (grd b k) Q:=by unfold Go.Vm.grd; rw[if_pos hb]; exact h
theorem T.ix {l:List α} {i:Int} {k:α→Option β} (h0:0≤i) (h1:i < l.length) (hk:∀x,l[i.toNat]? =Option.some x→x∈l→T (k x) Q):T ((ix l i).bind k) Q:=by
 have hx:l[i.toNat]? =Option.some l[i.toNat]:=List.getElem?_eq_getElem (by omega)
 rw[pZ l h0,hx]
 exact hk _ hx (List.getElem_mem _)
theorem T.app {xs ys:List α} {k:List α→Option β} (h:xs.length+ys.length≤1000000000) (hk:T (k (xs++ys)) Q):T ((app xs ys).bind k) Q:=by rw[cC h]; exact hk
theorem T.slc {l:List α} {a b:Int} {k:List α→Option β} (h:0≤a∧a≤b∧b≤l.length) (hk:T (k ((l.take b.toNat).drop a.toNat)) Q):T ((slc l a b).bind k) Q:=by unfold Go.Vm.slc; rw[if_pos h]; exact hk
variable {R:ρ→Prop} {G B:σ→Prop}
theorem T.go {s:σ} (h:G s):T (.some (Lp.go s)) (L3 G B R):=⟨_,rfl,h⟩
theorem T.brk {s:σ} (h:B s):T (.some (Lp.brk s)) (L3 G B R):=⟨_,rfl,h⟩
theorem T.ret {r:ρ} (h:R r):T (.some (Lp.ret r)) (L3 G B R):=⟨_,rfl,h⟩
theorem T.after {m:Option (Lp σ ρ)} {k:σ→Option ρ} (h:T m (L3 (λ_=>False) (λs=>T (k s) R) R)):T (after m k) R:=by
 obtain⟨a,e,p⟩:=h
 rw[e]
 cases a with
 | go s=>exact p.elim
 | brk s=>exact p
 | ret r=>exact⟨_,rfl,p⟩
theorem T.loopAt {step:σ→Option (Lp σ ρ)} (I:σ→Prop) (μ:σ→Nat) (hs:∀s,I s→T (step s) (L3 (λs'=>I s'∧μ s' < μ s) B R)):∀(F:Nat) (s:σ),I s→μ s < F→T (aU step F s) (L3 (λ_=>False) B R)
 | 0,_,_,h=>by omega
 | F+1,s,hi,hm=>by
  obtain⟨a,e,p⟩:=hs s hi
  unfold aU
  rw[e]
  cases a with
  | go s'=>exact T.loopAt I μ hs F s' p.1 (by have:=p.2; omega)
  | brk s'=>exact⟨_,rfl,p⟩
  | ret r=>exact⟨_,rfl,p⟩
theorem T.loop {step:σ→Option (Lp σ ρ)} {F:Nat} {s0:σ} {k:σ→Option ρ} (I:σ→Prop) (μ:σ→Nat) (B:σ→Prop) (hm:μ s0 < F) (h0:I s0) (hs:∀s,I s→T (step s) (L3 (λs'=>I s'∧μ s' < μ s) B R)) (hk:∀s,B s→T (k s) R):
    T (Go.Vm.after (aU step F s0) k) R:=T.after ((T.loopAt I μ hs F s0 h0 hm).mono λa=>by
      cases a with
      | go s=>exact λh=>h.elim
      | brk s=>exact hk s
      | ret r=>exact id)
end
theorem KD {n:Nat} (x:Ar n):x.1.length=n:=x.2
theorem aBB (n:Int):0≤IntKind.wrap .u8 n∧IntKind.wrap .u8 n < 256:=by rw[D4]; omega
theorem wrI (n:Int): -9223372036854775808≤IntKind.wrap .i64 n∧IntKind.wrap .i64 n < 9223372036854775808:=by
 have e:IntKind.wrap .i64 n=(if decide (n % 18446744073709551616≥9223372036854775808)=true then n % 18446744073709551616 - 18446744073709551616 else n % 18446744073709551616):=rfl
 rw[e]
 simp only[decide_eq_true_eq]
 split <;> omega
end Go.Vm
namespace Go.Proofs.YtbbifdfldpfphaaGreat
open Go.Vm
theorem NS {F:Nat} {a b:Int} (hb:0≤b):T (uA F a b) λ_=>True:=by
 unfold uA
 refine .grd (by simpa using hb) (.grd (by simpa using QT _) (.some trivial))
theorem aGH {F:Nat} {l:List Int} (hF:1000≤F) (hl:l.length≤300):T (NO F l) λr=>r.length % 64=0∧r.length≤l.length+80:=by
 unfold NO
 refine .app (by simp; omega) (.app (by simp; omega) ?_)
 refine .loop (λq=>l.length+1≤q.length∧q.length≤(l.length+72) / 64*64 - 8+0∧l.length+9≤(l.length+72) / 64*64) (λq=>(l.length+72) / 64*64 - 8 - q.length) (λq=>(q.length+8) % 64=0∧q.length≤l.length+64) (by simp; omega) (by simp; omega) (λq hq=> ?_) (λq hq=> ?_)
 ·unfold w7
  rw[wr (by omega) (by omega),Int.tmod_eq_emod_of_nonneg (by omega)]
  refine .ite (λhc=> ?_) λhc=> ?_
  ·have:((q.length:Int)+8) % 64≠0:=by simpa using hc
   refine .app (by simp; omega) (.go ?_)
   simp only[List.length_append,List.length_singleton]
   omega
  ·have:((q.length:Int)+8) % 64=0:=by simpa using hc
   exact .brk (by omega)
 ·refine .loop (λs=> -1≤s.2∧s.2≤7∧(s.1.length:Int)+s.2=q.length+7) (λs=>(s.2+1).toNat) (λs=>s.1.length=q.length+8) (by simp; omega) (by simp) (λs hs=> ?_) (λs hs=>.some (by omega))
  obtain⟨a,i⟩:=s
  unfold w8
  simp only at hs ⊢
  refine .ite (λhc=> ?_) λhc=> ?_
  ·have hc:=of_decide_eq_true hc
   rw[wr (n:=i - 1) (by omega) (by omega)]
   refine .grd (by simpa using QT _) (.app (by simp; omega) (.go ?_))
   simp only[List.length_append,List.length_singleton]
   omega
  ·exact .brk (by simp only[decide_eq_true_eq] at hc; show a.length=_; omega)
theorem aBC {F:Nat} {d:List Int} (hF:1000≤F) (hl:d.length≤300):T (V9 F d) m7:=by
 unfold V9
 refine .bind (λ_=>True) ⟨_,rfl,trivial⟩ λy6 _=> ?_
 refine .bind _ (aGH hF hl) λy hy=> ?_
 refine .loop (λs=>0≤s.2∧s.2 % 64=0∧s.2≤y.length) (λs=>(y.length - s.2).toNat) (λ_=>True) (by simp; omega) (by simp) (λs hs=> ?_) (λs _=> ?_)
 ·obtain⟨h,i⟩:=s
  unfold DB
  simp only at hs ⊢
  refine .ite (λhc=> ?_) λhc=>.brk trivial
  have hc:=of_decide_eq_true hc
  refine .loop (λs=>0≤s.2∧s.2≤64) (λs=>(64 - s.2).toNat) (λ_=>True) (by simp; omega) (by simp) (λs hs2=> ?_) (λs _=> ?_)
  ·obtain⟨w,j⟩:=s
   unfold C8
   simp only at hs2 ⊢
   refine .ite (λhc2=> ?_) λhc2=>.brk trivial
   have hc2:=of_decide_eq_true hc2
   have fin:IntKind.wrap .i64 (j+1)=j+1:=wr (by omega) (by omega)
   refine .after (.ite (λhc3=> ?_) λhc3=> ?_)
   ·have hc3:=of_decide_eq_true hc3
    refine .loop (λs=>0≤s.2∧s.2≤4) (λs=>(4 - s.2).toNat) (λ_=>True) (by simp; omega) (by simp) (λs hs4=> ?_) (λs _=>.brk (.go (by rw[fin]; simp only; omega)))
    obtain⟨w,k⟩:=s
    unfold C7
    simp only at hs4 ⊢
    refine .ite (λhc4=> ?_) λhc4=>.brk trivial
    have hc4:=of_decide_eq_true hc4
    rw[wr (n:=4*j) (by omega) (by omega),wr (n:=i+4*j) (by omega) (by omega),wr (n:=i+4*j+k) (by omega) (by omega),wr (n:=k+1) (by omega) (by omega)]
    refine .ix (by omega) (by rw[KD]; omega) λ_ _ _=>.ix (by omega) (by omega) λ_ _ _=>.ix (by omega) (by rw[KD]; omega) λ_ _ _=>.go ?_
    simp only
    omega
   ·have hc3:¬j < 16:=by simpa using hc3
    rw[wr (n:=j - 15) (by omega) (by omega),wr (n:=j - 2) (by omega) (by omega),wr (n:=j - 16) (by omega) (by omega),wr (n:=j - 7) (by omega) (by omega)]
    refine .ix (by omega) (by rw[KD]; omega) λ_ _ _=>.ix (by omega) (by rw[KD]; omega) λ_ _ _=>.ix (by omega) (by rw[KD]; omega) λ_ _ _=>.ix (by omega) (by rw[KD]; omega) λ_ _ _=> ?_
    refine .bind _ (NS (by omega)) λ_ _=>.bind _ (NS (by omega)) λ_ _=>.bind _ (NS (by omega)) λ_ _=>.bind _ (NS (by omega)) λ_ _=> ?_
    refine .ix (by omega) (by rw[KD]; omega) λ_ _ _=>.brk (.go ?_)
    rw[fin]; simp only; omega
  ·refine .loop (λs=>0≤s.2∧s.2≤64) (λs=>(64 - s.2).toNat) (λ_=>True) (by simp; omega) (by simp) (λs hs2=> ?_) (λs _=> ?_)
   ·obtain⟨w,j⟩:=s
    unfold C9
    simp only at hs2 ⊢
    refine .ite (λhc2=> ?_) λhc2=>.brk trivial
    have hc2:=of_decide_eq_true hc2
    have fin:IntKind.wrap .i64 (j+1)=j+1:=wr (by omega) (by omega)
    rw[fin]
    repeat' (first | exact trivial | refine T.bind _ (NS (by omega)) λ_ _=> ?_ | refine T.ix (by omega) (by rw[KD]; omega) λ_ _ _=> ?_)
    refine .go ?_
    simp only; omega
   ·refine .loop (λs=>0≤s.2∧s.2≤8) (λs=>(8 - s.2).toNat) (λ_=>True) (by simp; omega) (by simp) (λs hs2=> ?_) (λs _=> ?_)
    ·obtain⟨w,j⟩:=s
     unfold DA
     simp only at hs2 ⊢
     refine .ite (λhc2=> ?_) λhc2=>.brk trivial
     have hc2:=of_decide_eq_true hc2
     rw[wr (n:=j+1) (by omega) (by omega)]
     refine .ix (by omega) (by rw[KD]; omega) λ_ _ _=>.ix (by omega) (by rw[KD]; omega) λ_ _ _=>.ix (by omega) (by rw[KD]; omega) λ_ _ _=>.go ?_
     simp only; omega
    ·rw[wr (n:=i+64) (by omega) (by omega)]
     refine .go ?_
     simp only; omega
 ·refine .loop (λs=>0≤s.2∧s.2≤32∧m7 s.1) (λs=>(32 - s.2).toNat) (λs=>m7 s.1) (by simp; omega) ⟨by simp,by simp, ?_⟩ (λs hs2=> ?_) (λs hs=>.some hs)
  ·intro x hx
   have:x=0:=List.eq_of_mem_replicate hx
   subst this
   exact⟨by omega,by omega⟩
  ·obtain⟨w,j⟩:=s
   unfold w9
   simp only at hs2 ⊢
   refine .ite (λhc2=> ?_) λhc2=>.brk hs2.2.2
   have hc2:=of_decide_eq_true hc2
   rw[wr (n:=j+1) (by omega) (by omega),Int.tdiv_eq_ediv_of_nonneg (by omega),wr (n:=j / 4) (by omega) (by omega)]
   refine .ix (by omega) (by rw[KD]; omega) λ_ _ _=>.grd (by simpa using QT _) (.ix (by omega) (by rw[KD]; omega) λ_ _ _=>.go ⟨⟨?_, ?_, ?_⟩, ?_⟩)
   ·simp only; omega
   ·simp only; omega
   ·intro x hx
    rcases List.mem_or_eq_of_mem_set hx with h | rfl
    ·exact hs2.2.2 x h
    ·exact aBB _
   ·simp only; omega
end Go.Proofs.YtbbifdfldpfphaaGreat
namespace Go.Vm
section
variable {α β ρ:Type} {Q:β→Prop}
theorem T.ins {l:List α} {r:Int} {y:α} {k:List α→Option β} (h:0≤r∧r≤l.length) (hl:l.length≤1000000) (hk:∀z:List α,z.length=l.length+1→(∀x∈z,x∈l∨x=y)→T (k z) Q):
    T ((Go.Vm.slc l 0 r).bind λx=>(Go.Vm.app ([]:List α) x).bind λz=>(Go.Vm.app z ([y]:List α)).bind λz2=>(Go.Vm.slc l r l.length).bind λx2=>(Go.Vm.app z2 x2).bind k) Q:=by
  refine .slc (by omega) (.app (by simp; omega) (.app (by simp; omega) (.slc (by omega) (.app (by simp; omega) (hk _ (by simp; omega) λx hx=> ?_)))))
  simp only[List.mem_append,List.mem_singleton] at hx
  rcases hx with ((h | h) | h) | h
  · simp at h
  · exact .inl (List.mem_of_mem_take (List.mem_of_mem_drop h))
  · exact .inr h
  · exact .inl (List.mem_of_mem_take (List.mem_of_mem_drop h))
theorem T.scan {Q:ρ→Prop} {l:List α} {F:Nat} {body:Int→Option (Lp Int ρ)} {g:α→Option (Lp Bool (Lp Int ρ))} {k:Int→Option ρ} (hF:l.length < F) (hl:l.length < 1000000)
    (hb:∀i,body i=Go.Vm.after (if decide (i < (l.length:Int))=true then (Go.Vm.ix l i).bind g else Option.some (.brk false)) λj=>if j=true then Option.some (.go (IntKind.wrap .i64 (i+1))) else Option.some (.brk i))
    (hg:∀x∈l,T (g x) (L3 (λ_=>False) (λ_=>True) (λ_=>False))) (hk:∀r:Int,0≤r∧r≤l.length→T (k r) Q):T (Go.Vm.after (aU body F 0) k) Q:=by
  refine .loop (λi=>0≤i∧i≤l.length) (λi=>(l.length - i).toNat) (λi=>0≤i∧i≤l.length) (by omega) (by omega) (λi hi=> ?_) (λi hi=>hk i hi)
  rw[hb]
  refine .after (.ite (λhc=> ?_) λhc=>.brk ?_)
  · have hc:=of_decide_eq_true hc
    refine .ix (by omega) (by omega) λx _ hx=>(hg x hx).mono λa ha=> ?_
    cases a with
    | go s=>exact ha
    | ret s=>exact ha.elim
    | brk s=>
      refine T.ite (λ_=>.go ?_) λ_=>.brk hi
      rw[wr (by omega) (by omega)]
      omega
  · exact T.ite (λh=>by cases h) λ_=>.brk hi
end
end Go.Vm
namespace Go.Proofs.YtbbifdfldpfphaaGreat
open Go.Vm
def fOk (f:dS):Prop:=f.Path.size≤100∧gL gB f.Data
def U4 (f:dS):Prop:=fOk f∧f.Data.length≤200
theorem aBD {F:Nat} {l:List dS} (hF:1000≤F):T (KC F l) λb=>b=false→l.length≤6∧∀x∈l,x.Data.length≤200:=by
 unfold KC
 refine .ite (λhc=>.some λh=>by cases h) λhc=> ?_
 have hc:l.length≤6:=by simp at hc; omega
 rw[m8 (l:=l) (λx=>decide (200 < (x.Data.length:Int))) true (by omega) (λi x hx _ hi=>by
  unfold tZ
  rw[iW (by omega)]
  simp only[bH,hx,Option.bind_some,Int.ofNat_lt,hi,decide_true,if_true]
  split <;> rfl) (by unfold tZ; simp)]
 cases h:l.any λx=>decide (200 < (x.Data.length:Int))
 ·refine .some λ_=>⟨hc,λx hx=> ?_⟩
  have:=List.any_eq_false.1 h x hx
  simp at this
  omega
 ·exact .some λh=>by cases h
theorem aGI {F:Nat} {l:List dS} (hF:1000≤F) (ho:∀f∈l,fOk f):T (M85 F l) λr=>r.2=0→r.1.length≤6∧∀f∈r.1,U4 f:=by
  unfold M85
  refine .bind _ (aBD hF) λb hb=>.ite (λ_=>.some λh=>by simp at h) λhc=> ?_
  obtain⟨hn,hd⟩:=hb (by simpa using hc)
  refine .loop (λi=>0≤i∧i≤l.length) (λi=>(l.length - i).toNat) (λ_=>True) (by omega) (by omega) (λi hi=> ?_) (λi _=> ?_)
  · unfold C4
    refine .ite (λhc=> ?_) λhc=>.brk trivial
    have hc:=of_decide_eq_true hc
    refine .ix (by omega) (by omega) λx _ hx=>.bindEq (MN hF (ho x hx).1) (.ite (λ_=>.ret λh=>by simp at h) λ_=>.go ?_)
    rw[wr (by omega) (by omega)]
    omega
  · refine .loop (λs=>0≤s.2∧s.2≤l.length∧(s.1.length:Int)=s.2∧∀f∈s.1,U4 f) (λs=>(l.length - s.2).toNat) (λs=>s.1.length≤6∧∀f∈s.1,U4 f) (by simp; omega) (by simp) (λs hs=> ?_) (λs hs=>.some λ_=>hs)
    obtain⟨q,i⟩:=s
    simp only at hs
    unfold C6
    refine .ite (λhc=> ?_) λhc=>.brk ⟨by simp only; omega,hs.2.2.2⟩
    have hc:=of_decide_eq_true hc
    simp only at hc
    refine .loop (λj=>0≤j∧j≤q.length) (λj=>(q.length - j).toNat) (λj=>0≤j∧j≤q.length) (by omega) (by omega) (λj hj=> ?_) (λj hj=> ?_)
    · unfold C5
      have fin:j < q.length→0≤IntKind.wrap .i64 (j+1)∧IntKind.wrap .i64 (j+1)≤q.length∧(q.length - IntKind.wrap .i64 (j+1)).toNat < (q.length - j).toNat:=λh=>by
        rw[wr (by omega) (by omega)]; omega
      refine .after (.ite (λhc2=> ?_) λhc2=>.brk (T.ite (λh=>by cases h) λ_=>.brk hj))
      have hc2:=of_decide_eq_true hc2
      have:=fin hc2
      refine .ix (by omega) (by omega) λx _ hx=>.ix (by omega) (by omega) λy _ hy=>.brk (T.ite (λ_=>.go (by omega)) λ_=>.brk hj)
    · have rest:T (if (false:Bool)=true then some (.ret ([],9)) else (slc q 0 j).bind λx494=>(ix l i).bind λx496=>(ix l i).bind λx498=>(app ([]:List dS) x494).bind λz500=>(vM F x498.Data).bind λy506=>(app z500 ([({ Path:=x496.Path,Data:=y506}:dS)]:List dS)).bind λz508=>(slc q j (q.length:Int)).bind λx513=>(app z508 x513).bind λz515=>some (.go (z515,IntKind.wrap .i64 (i+1))))
          (L3 (λs':List dS×Int=>(0≤s'.2∧s'.2≤l.length∧(s'.1.length:Int)=s'.2∧∀f∈s'.1,U4 f)∧(l.length - s'.2).toNat < (l.length - i).toNat) (λs=>s.1.length≤6∧∀f∈s.1,U4 f) (λr:List dS×Int=>r.2=0→r.1.length≤6∧∀f∈r.1,U4 f)):=by
        refine T.ite (λh=>by cases h) λ_=> ?_
        rw[wr (n:=i+1) (by omega) (by omega)]
        refine .slc (by omega) (.ix (by omega) (by omega) λx _ hx=>.ix (by omega) (by omega) λy _ hy=>.app (by simp; omega) (.bindEq (UD (by have:=hd y hy; omega)) (.app (by simp; omega) (.slc (by omega) (.app (by simp; omega) (.go ?_))))))
        refine⟨⟨by simp only; omega,by simp only; omega,by simp; omega,λf hf=> ?_⟩,by simp only; omega⟩
        simp only[List.mem_append,List.mem_singleton] at hf
        rcases hf with ((h | h) | h) | h
        · simp at h
        · exact hs.2.2.2 f (List.mem_of_mem_take (List.mem_of_mem_drop h))
        · subst h
          exact⟨⟨(ho x hx).1,(ho y hy).2⟩,hd y hy⟩
        · exact hs.2.2.2 f (List.mem_of_mem_take (List.mem_of_mem_drop h))
      refine .after (.ite (λhc2=> ?_) λhc2=>.brk rest)
      have hc2:=of_decide_eq_true hc2
      refine .ix (by omega) (by omega) λx _ hx=>.ix (by omega) (by omega) λy _ hy=>.brk ?_
      cases x.Path.toList==y.Path.toList
      · exact rest
      · exact .ret λh=>by simp at h
theorem aGJ {F:Nat} {l:List Int} (hF:1000≤F) (h0:0 < l.length) (hl:l.length≤300):T (NQ F l) λk=>0 < k∧k≤l.length∧(8≤k∨k=l.length):=by
 unfold NQ
 refine .loop (λs=>0≤s.2∧s.2≤l.length) (λs=>(l.length - s.2).toNat) (λ_=>True) (by simp; omega) (by simp) (λs hs=> ?_) (λs _=>.some (by omega))
 obtain⟨h,i⟩:=s
 simp only at hs
 unfold xB
 refine .ite (λhc=> ?_) λhc=>.brk trivial
 have hc:=of_decide_eq_true hc
 simp only at hc
 rw[wr (n:=i+1) (by omega) (by omega)]
 have k2:(8≤i+1)∨¬(8≤i+1):=by omega
 have e64:(i+1==64)=decide (i+1=64):=rfl
 refine .ix (by omega) (by omega) λx _ hx=>.after (.ite (λhc2=> ?_) λhc2=> ?_)
 ·have hc2:=of_decide_eq_true hc2
  refine .ite (λ_=>.brk (T.ite (λ_=>.ret (by omega)) λh=>absurd rfl h)) λ_=>.brk (T.ite (λ_=>.ret (by omega)) λ_=>.go (by simp only; omega))
 ·refine .brk (T.ite (λh=>.ret ?_) λ_=>.go (by simp only; omega))
  have:i+1=64:=by simpa using h
  omega
theorem aGK {F:Nat} {l:List Int} (hF:1000≤F) (hl:l.length≤200) (gl:gL gB l):T (NR F l) λr=>r.length≤25∧∀x∈r,x.length≤300∧gL gB x:=by
 unfold NR
 refine .loop (λs=>s.2.length≤l.length∧gL gB s.2∧(8*s.1.length+s.2.length≤l.length∨(s.2.length=0∧8*s.1.length≤l.length+7))∧∀x∈s.1,x.length≤300∧gL gB x) (λs=>s.2.length) (λs=>s.1.length≤25∧∀x∈s.1,x.length≤300∧gL gB x) (by simp; omega) (by simp[gl]) (λs hs=> ?_) (λs hs=>.some hs)
 obtain⟨q,d⟩:=s
 simp only at hs
 obtain⟨s1,s2,s3,s4⟩:=hs
 unfold xC
 refine .ite (λhc=> ?_) λhc=>.brk ⟨by simp only; omega,s4⟩
 have hc:=of_decide_eq_true hc
 simp only at hc
 refine .bind _ (aGJ hF (by simp only; omega) (by simp only; omega)) λk hk=>.slc (by omega) (.bindEq (UD (by simp; omega)) (.app (by simp; omega) (.slc (by simp only at hk ⊢; omega) (.go ?_))))
 simp only at hk ⊢
 refine⟨⟨by simp; omega,λx hx=>s2 x (List.mem_of_mem_take (List.mem_of_mem_drop hx)),by simp; omega,λx hx=> ?_⟩,by simp; omega⟩
 rcases List.mem_append.1 hx with h | h
 ·exact s4 x h
 ·rw[List.mem_singleton] at h
  subst h
  exact⟨by simp; omega,λy hy=>s2 y (List.mem_of_mem_take (List.mem_of_mem_drop hy))⟩
theorem aGL {F:Nat} {l:List dS} (hF:1000≤F) (ho:∀f∈l,fOk f):T (NP F l) λ_=>True:=by
 unfold NP
 refine .bind _ (aBD hF) λb hb=>.ite (λ_=>.some trivial) λhc=> ?_
 obtain⟨hn,hd⟩:=hb (by simpa using hc)
 refine .loop (λi=>0≤i∧i≤l.length) (λi=>(l.length - i).toNat) (λ_=>True) (by omega) (by omega) (λi hi=> ?_) (λi _=>.some trivial)
 unfold xA
 refine .ite (λhc=> ?_) λhc=>.brk trivial
 have hc:=of_decide_eq_true hc
 rw[wr (n:=i+1) (by omega) (by omega)]
 have fin:∀b:Bool,T (if b=true then (some (.ret 1):Option (Lp Int Int)) else some (.go (i+1))) (L3 (λs'=>(0≤s'∧s'≤l.length)∧(l.length - s').toNat < (l.length - i).toNat) (λ_=>True) (λ_=>True)):=λb=>T.ite (λ_=>.ret trivial) λ_=>.go (by omega)
 refine .after (.ix (by omega) (by omega) λx _ hx=>.bindEq (MN hF (ho x hx).1) (.ite (λ_=>.brk (fin _)) λ_=>.ite (λh=> ?_) λ_=>.brk (fin _)))
 have h:=of_decide_eq_true h
 rw[wr (by omega) (by omega)]
 exact .ix (by omega) (by omega) λ_ _ _=>.ix (by omega) (by omega) λ_ _ _=>.brk (fin _)
theorem aGM {F:Nat} {l:List bO} {d:bO} (hF:1000≤F) (hl:l.length < 900) (gl:∀x∈l,m7 x) (hd:m7 d):
    T (EO F l d) λr=>0≤r.2.1∧r.2.1≤l.length∧r.1.length=l.length+(if r.2.2=true then 1 else 0)∧∀x∈r.1,m7 x:=by
  unfold EO
  refine T.scan (by omega) (by omega) (λ_=>rfl) (λx hx=>.bindEq (YL hF (gl x hx) hd) (.brk trivial)) λr hr=> ?_
  have rest:T ((slc l 0 r).bind λx84=>(app ([]:List bO) x84).bind λz86=>(app z86 ([d]:List bO)).bind λz92=>(slc l r (l).length).bind λx98=>(app z92 x98).bind λz100=>some (z100,r,true))
      λr=>0≤r.2.1∧r.2.1≤l.length∧r.1.length=l.length+(if r.2.2=true then 1 else 0)∧∀x∈r.1,m7 x:=by
    refine .ins hr (by omega) λz h1 h2=>.some ⟨hr.1,hr.2,h1,λx hx=> ?_⟩
    rcases h2 x hx with h | rfl
    · exact gl x h
    · exact hd
  refine .after (.ite (λhc=> ?_) λ_=>.brk (T.ite (λh=>by cases h) λ_=>rest))
  have hc:=of_decide_eq_true hc
  refine .ix (by omega) (by omega) λx _ hx=>.brk ?_
  refine T.ite (λ_=>.some ?_) λ_=>rest
  exact⟨hr.1,hr.2,rfl,gl⟩
open Go.Vm
def IT (m:bG):Prop:=m.Name.size≤100∧m.Parts.length≤10∧(∀p∈m.Parts,p.Path.size≤100∧p.Ids.length≤40)∧yN m
def NT (l:List (List Int)) (n:Nat):Prop:=l.length≤n∧∀x∈l,x.length≤300∧gL gB x
structure IU (c:aR):Prop where
 seq:gI c.Snap.Seq
 man:IT c.Snap.Man
 locs:c.Snap.Locs= []
 cn:c.Chunks.length≤160
 ch:∀x∈c.Chunks,m7 x.Id∧x.Data.length≤300∧gL gB x.Data∧x.Locs= []
 sq:gI c.Seq
 vol:gI c.Vol
 it:c.Items.length≤64
 iti:∀x∈c.Items,gI x.Seq∧gI x.Of∧gI x.Off∧gI x.Len
theorem U5:IT { Name:=ByteArray.empty,Parts:= []}:=⟨by decide,by simp,by simp,trivial,λ_ h=>by simp at h⟩
theorem aGN {F:Nat} {nm:ByteArray} {fs:List dS} (hF:1000≤F) (hn:nm.size≤100) (h6:fs.length≤6) (ho:∀f∈fs,U4 f):T (M86 F nm fs) λr=>IT r.1∧NT r.2.1 150:=by
 unfold M86
 refine .bindEq (MN hF hn) (.ite (λ_=>.some ⟨U5,by simp,by simp⟩) λ_=>.bind _ (aGL hF λf hf=>(ho f hf).1) λy _=>.ite (λ_=>.some ⟨U5,by simp,by simp⟩) λ_=> ?_)
 refine .loop (λs=>0≤s.2.2.2∧s.2.2.2≤fs.length∧(s.1.length:Int)=s.2.2.2∧(∀p∈s.1,(p.Path.size≤100∧p.Ids.length≤40)∧GW p)∧(s.2.1.length:Int)≤25*s.2.2.2∧(∀x∈s.2.1,x.length≤300∧gL gB x)∧s.2.2.1.length=s.2.1.length∧∀x∈s.2.2.1,m7 x)
  (λs=>(fs.length - s.2.2.2).toNat) (λs=>(s.1.length≤6∧∀p∈s.1,(p.Path.size≤100∧p.Ids.length≤40)∧GW p)∧NT s.2.1 150) (by simp; omega) (by simp) (λs hs=> ?_) (λs hs=> ?_)
 ·obtain⟨ps,ds,ids,i⟩:=s
  simp only at hs
  obtain⟨s1,s2,s3,s4,s5,s6,s7,s8⟩:=hs
  unfold DD
  refine .ite (λhc=> ?_) λhc=>.brk ⟨⟨by simp only; omega,s4⟩,by simp only; omega,s6⟩
  have hc:=of_decide_eq_true hc
  simp only at hc
  rw[wr (n:=i+1) (by omega) (by omega)]
  refine .ix (by omega) (by omega) λx e hx=>.ix (by omega) (by omega) λx2 e2 hx2=>.ix (by omega) (by omega) λx3 e3 hx3=>.bind _ (aGK hF (ho x3 hx3).2 (ho x3 hx3).1.2) λy hy=> ?_
  obtain⟨y1,y2⟩:=hy
  refine .loop (λs=>0≤s.2.2.2∧s.2.2.2≤y.length∧(s.1.length:Int)=s.2.2.2∧(∀d∈s.1,m7 d)∧(s.2.1.length:Int)≤25*i+s.2.2.2∧(∀x∈s.2.1,x.length≤300∧gL gB x)∧s.2.2.1.length=s.2.1.length∧∀x∈s.2.2.1,m7 x)
   (λs=>(y.length - s.2.2.2).toNat) (λs=>(s.1.length≤25∧(∀d∈s.1,m7 d))∧(s.2.1.length:Int)≤25*i+25∧(∀x∈s.2.1,x.length≤300∧gL gB x)∧s.2.2.1.length=s.2.1.length∧∀x∈s.2.2.1,m7 x) (by simp; omega) ⟨by simp,by simp,by simp,by simp,by simp only; omega,s6,s7,s8⟩ (λs hs=> ?_) (λs hs=> ?_)
  ·obtain⟨q,ds,ids,j⟩:=s
   simp only at hs
   obtain⟨r1,r2,r3,r4,r5,r6,r7,r8⟩:=hs
   unfold DC
   refine .ite (λhc2=> ?_) λhc2=>.brk ⟨⟨by simp only; omega,r4⟩,by simp only; omega,r6,r7,r8⟩
   have hc2:=of_decide_eq_true hc2
   simp only at hc2
   rw[wr (n:=j+1) (by omega) (by omega)]
   refine .ix (by omega) (by omega) λz _ hz=>.bind _ (aBC hF (y2 z hz).1) λd hd=>.app (by simp; omega) (.bind _ (aGM hF (by simp only; omega) r8 hd) λr hr=> ?_)
   obtain⟨q1,q2,q3,q4⟩:=hr
   simp only at q2 q3
   have hq:∀a∈q++ [d],m7 a:=λa ha=>by
    rcases List.mem_append.1 ha with h | h
    ·exact r4 a h
    ·rw[List.mem_singleton] at h; exact h ▸ hd
   refine .after (.ite (λhi=> ?_) λhi=>.brk (.go ?_))
   ·rw[if_pos hi] at q3
    refine .slc (by simp only; omega) (.ix (by omega) (by omega) λz2 _ hz2=>.app (by simp; omega) (.app (by simp; omega) (.slc (by simp only; omega) (.app (by simp; omega) (.brk (.go ?_))))))
    refine⟨⟨by simp only; omega,by simp only; omega,by simp; omega,hq,by simp; omega,λa ha=> ?_,by simp; omega,q4⟩,by simp only; omega⟩
    simp only[List.mem_append,List.mem_singleton] at ha
    rcases ha with ((h | h) | h) | h
    ·simp at h
    ·exact r6 a (List.mem_of_mem_take (List.mem_of_mem_drop h))
    ·exact h ▸ y2 z2 hz2
    ·exact r6 a (List.mem_of_mem_take (List.mem_of_mem_drop h))
   ·rw[if_neg hi] at q3
    exact⟨⟨by simp only; omega,by simp only; omega,by simp; omega,hq,by simp only; omega,r6,by simp only; omega,q4⟩,by simp only; omega⟩
  ·obtain⟨q,ds2,ids2,j⟩:=s
   simp only at hs
   obtain⟨⟨a1,a2⟩,a3,a4,a5,a6⟩:=hs
   refine .app (by simp; omega) (.go ?_)
   refine⟨⟨by simp only; omega,by simp only; omega,by simp; omega,λp hp=> ?_,by simp only; omega,a4,a5,a6⟩,by simp only; omega⟩
   rcases List.mem_append.1 hp with h | h
   ·exact s4 p h
   ·rw[List.mem_singleton] at h
    subst h
    have:=(ho x2 hx2).2
    exact⟨⟨(ho x hx).1.1,by simp only; omega⟩,trivial,by simp only[gI]; omega,a2⟩
 ·obtain⟨ps,ds,ids,i⟩:=s
  exact .some ⟨⟨hn,by have:=hs.1.1; simp only at this ⊢; omega,λp hp=>(hs.1.2 p hp).1,trivial,λp hp=>(hs.1.2 p hp).2⟩,hs.2⟩
theorem aBE (n:Int):∃b,LP [IntKind.wrap .u8 n]=some b∧b.size=1:=by
 have h:=aBB n
 refine⟨_,by unfold LP; rw[if_pos (by simp; omega)], ?_⟩
 rfl
structure Ok (c:aA):Prop where
 sm:Sm c
 rg:Rng c
theorem SH (n:Int):gI (IntKind.wrap .i64 n):=wrI n
theorem HK {k s:Int} {v:Int} (hs:gI s) (hv:gI v) {l:List aS} (h6:l.length≤64) (hl:∀x∈l,gI x.Seq∧gI x.Of∧gI x.Off∧gI x.Len):
    IU { Kind:=k,Snap:= { Seq:=0,Man:= { Name:=ByteArray.empty,Parts:= []},Locs:= []},Chunks:= [],Seq:=s,Vol:=v,Items:=l}:=
  ⟨by simp[gI],U5,rfl,by simp,by simp,hs,hv,h6,hl⟩
structure SI (c:aA) (n:Int) (x:aS):Prop where
 id:m7 x.Id
 q:0≤x.Seq∧x.Seq≤1073741824
 of:gI x.Of
 off:gI x.Off
 len:gI x.Len
 w:(x.Kind=1∧x.Seq=0∧∃j:Nat,(j:Int) < n∧∃y,c.Chunks[j]? =some y∧y.Id=x.Id)∨(x.Kind=2∧x.Id=jW∧∃j:Nat,(c.Chunks.length:Int)+j < n∧∃y,c.Snaps[j]? =some y∧y.Seq=x.Seq)∨
  (x.Kind=3∧x.Id=jW∧∃j:Nat,(c.Chunks.length:Int)+c.Snaps.length+j < n∧∃y,c.Exps[j]? =some y∧y.Seq=x.Seq∧y.Of=x.Of)
def Nd (q:List aS):Prop:=q.Pairwise λa b=>a.Kind=b.Kind→a.Id=b.Id→a.Seq≠b.Seq
structure KE (c:aA) (n:Int) (q:List aS):Prop where
 a:∀x∈q,SI c n x
 d:Nd q
theorem SI.mono {c:aA} {n m:Int} {x:aS} (h:SI c n x) (hm:n≤m):SI c m x:=⟨h.id,h.q,h.of,h.off,h.len,by
 rcases h.w with⟨a,b,j,k,e⟩ | ⟨a,b,j,k,e⟩ | ⟨a,b,j,k,e⟩
 ·exact .inl ⟨a,b,j,by omega,e⟩
 ·exact .inr (.inl ⟨a,b,j,by omega,e⟩)
 ·exact .inr (.inr ⟨a,b,j,by omega,e⟩)⟩
theorem KM {α:Type} {R:α→α→Prop} {l:List α} (h:l.Pairwise R) {i j:Nat} {x y:α} (hx:l[i]? =some x) (hy:l[j]? =some y) (hij:i < j):R x y:=by
 obtain⟨h1,rfl⟩:=List.getElem?_eq_some_iff.1 hx
 obtain⟨h2,rfl⟩:=List.getElem?_eq_some_iff.1 hy
 exact List.pairwise_iff_getElem.1 h i j h1 h2 hij
theorem NU:m7 jW:=by
 intro x hx
 have:x=0:=List.eq_of_mem_replicate (n:=32) hx
 subst this
 exact⟨by omega,by omega⟩
theorem KE.put {c:aA} {n:Int} {q:List aS} {y:aS} (hG:Gd c) (h:KE c n q) (hy:SI c (n+1) y) (hn:¬SI c n y):KE c (n+1) (q++ [y]):=by
 refine⟨λx hx=> ?_,List.pairwise_append.2 ⟨h.d,List.pairwise_singleton _ _,λx hx z hz e1 e2 e3=> ?_⟩⟩
 ·rcases List.mem_append.1 hx with h1 | h1
  ·exact(h.a x h1).mono (by omega)
  ·rw[List.mem_singleton.1 h1]; exact hy
 ·rw[List.mem_singleton.1 hz] at e1 e2 e3
  refine hn ⟨hy.id,hy.q,hy.of,hy.off,hy.len, ?_⟩
  rcases(h.a x hx).w with⟨a,b,j,k,u,u1,u2⟩ | ⟨a,b,j,k,u,u1,u2⟩ | ⟨a,b,j,k,u,u1,u2,u3⟩
  ·exact .inl ⟨by omega,by omega,j,k,u,u1,by rw[u2,e2]⟩
  ·exact .inr (.inl ⟨by omega,by rw[← e2,b],j,k,u,u1,by omega⟩)
  ·rcases hy.w with⟨a',_⟩ | ⟨a',_⟩ | ⟨a',b',j',k',v,v1,v2,v3⟩
   ·omega
   ·omega
   ·rcases Nat.lt_trichotomy j j' with w | w | w
    ·have:=KM hG.eo u1 v1 w; omega
    ·subst w
     exact .inr (.inr ⟨a',b',j,k,v,v1,v2,v3⟩)
    ·have:=KM hG.eo v1 u1 w; omega
structure Mk (c:aA) (d:aR):Prop where
 k:0≤d.Kind∧d.Kind≤5
 v:0≤d.Vol∧d.Vol < c.Vols.length
 e:d.Kind≠3→d.Items= []
 it:KE c 1000 d.Items∨∃s∈c.Snaps,d.Items= [{ Kind:=3,Id:=jW,Seq:=c.Seq,Of:=s.Seq,Off:=13,Len:=17}]
theorem HM (c:aA) (n:Int):KE c n []:=⟨by simp,.nil⟩
theorem U6 {c:aA} {k s v:Int} {p:aH} {l:List aS} {m:List aB} (hk:0≤k∧k≤5) (hv:0≤v∧v < c.Vols.length) (he:k≠3→l= []) (h:KE c 1000 l):Mk c { Kind:=k,Snap:=p,Chunks:=m,Seq:=s,Vol:=v,Items:=l}:=⟨hk,hv,he,.inl h⟩
theorem t66 {F:Nat} {c:aA} {a:n4} (hF:1000≤F) (hc:Ok c) (hG:Gd c) (ho:∀f∈a.Tree,fOk f):T (M35 F c a) λr=>IU r.1∧Mk c r.1:=by
  have g0:gI 0:=by simp[gI]
  have c1:=hc.rg.ch
  have c2:=hc.rg.sn
  have c3:=hc.rg.ex
  have c4:=hc.rg.vo
  have gq:=hc.sm.g.1
  unfold M35
  obtain⟨b,hb,hb1⟩:=aBE (IntKind.wrap .u64 (97+((IntKind.wrap .u64 a.N).tmod 5)))
  rw[hb]
  have e1:(ByteArray.mk #[110]).size=1:=rfl
  have e2:((ByteArray.mk #[110])++b).size=2:=by rw[ByteArray.size_append,e1,hb1]
  have hvn:=hG.vn
  simp only[fR,Bool.and_eq_true,decide_eq_true_eq] at hvn
  have v0:(0:Int)≤0∧(0:Int) < c.Vols.length:=by omega
  have hq:=hG.q
  simp only[fR,Bool.and_eq_true,decide_eq_true_eq] at hq
  refine .bindEq rfl (.grd (by rw[e1,hb1]; rfl) ?_)
  refine .after (T.mono (P:=L3 (λ_=>False) (λv=>gI v∧0≤v∧v < c.Vols.length) (λ_=>False)) (.ite (λh=> ?_) λ_=>.brk ⟨g0,v0⟩) λj hj=> ?_)
  · have h:=of_decide_eq_true h
    obtain⟨w,hw1,hw⟩:=QU a.Vol (n:=c.Vols.length) (by omega) (by omega)
    rw[← U2 (n:=c.Vols.length) (by omega)] at hw
    refine .grd ?_ (.brk ⟨SH _,by rw[hw]; omega⟩)
    rw[U2 (by omega)]
    simp
    intro h2
    rw[h2] at h
    simp at h
  cases j with
  | go s=>exact hj
  | ret s=>exact hj.elim
  | brk v=>
  replace hj:gI v∧0≤v∧v < c.Vols.length:=hj
  refine T.after (T.mono (P:=L3 (λ_=>False) (λ_=>True) (λ_=>False)) (.ite (λ_=>.brk trivial) λ_=>.brk trivial) λj hj2=> ?_)
  cases j with
  | go s=>exact hj2
  | ret s=>exact hj2.elim
  | brk v2=>
  refine T.ite (λ_=> ?_) λ_=> ?_
  · refine .bind _ (aGI hF ho) λy hy=>.ite (λ_=>.some ⟨HK g0 g0 (by simp) (by simp),U6 (by decide) v0 (λ_=>rfl) (HM _ _)⟩) λh0=> ?_
    obtain⟨y1,y2⟩:=hy (by simpa using h0)
    refine .bind _ (aGN hF (by omega) y1 y2) λm hm=> ?_
    obtain⟨m1,m2,m3⟩:=hm
    refine .loop (λs=>0≤s.2∧s.2≤m.2.1.length∧(s.1.length:Int)≤s.2∧∀x∈s.1,m7 x.Id∧x.Data.length≤300∧gL gB x.Data∧x.Locs= []) (λs=>(m.2.1.length - s.2).toNat) (λs=>s.1.length≤160∧∀x∈s.1,m7 x.Id∧x.Data.length≤300∧gL gB x.Data∧x.Locs= []) (by simp; omega) (by simp) (λs hs=> ?_) (λs hs=> ?_)
    · obtain⟨q,i⟩:=s
      simp only at hs
      unfold DE
      refine .ite (λh=> ?_) λ_=>.brk ⟨by simp only; omega,hs.2.2.2⟩
      have h:=of_decide_eq_true h
      simp only at h
      rw[wr (n:=i+1) (by omega) (by omega)]
      obtain⟨n,hn,_⟩:=m64 (F:=F) (c:=c) (d:=jW) hF (by omega)
      refine .ix (by omega) (by omega) λx _ hx=>.bind _ (aBC hF (m3 x hx).1) λd hd=> ?_
      obtain⟨n,hn,_⟩:=m64 (F:=F) (c:=c) (d:=d) hF (by omega)
      refine .bindEq hn (.after (.ite (λ_=>.ix (by omega) (by omega) λx2 _ hx2=>.app (by simp; omega) (.brk (.go ?_))) λ_=>.brk (.go ⟨⟨by simp only; omega,by simp only; omega,by simp only; omega,hs.2.2.2⟩,by simp only; omega⟩)))
      refine⟨⟨by simp only; omega,by simp only; omega,by simp; omega,λy hy=> ?_⟩,by simp only; omega⟩
      rcases List.mem_append.1 hy with h | h
      · exact hs.2.2.2 y h
      · rw[List.mem_singleton] at h
        subst h
        exact⟨hd,(m3 x2 hx2).1,(m3 x2 hx2).2,rfl⟩
    · obtain⟨q,i⟩:=s
      exact .some ⟨⟨gq,m1,rfl,hs.1,hs.2,g0,g0,by simp,by simp⟩,U6 (by decide) v0 (λ_=>rfl) (HM _ _)⟩
  · refine T.after (T.mono (P:=L3 (λ_=>False) (λ_=>True) (λ_=>False)) (.ite (λ_=>.brk trivial) λ_=>.brk trivial) λj hj2=> ?_)
    cases j with
    | go s=>exact hj2
    | ret s=>exact hj2.elim
    | brk v3=>
    refine T.ite (λ_=> ?_) λ_=> ?_
    · refine .ite (λ_=>.some ⟨HK g0 g0 (by simp) (by simp),U6 (by decide) v0 (λ_=>rfl) (HM _ _)⟩) λh0=> ?_
      have h0:0 < c.Snaps.length:=by
        have:¬((c.Snaps.length:Int)=0):=by simpa using h0
        omega
      obtain⟨k,hk,ek⟩:=QU a.N h0 (by omega)
      rw[U2 (by omega),ek]
      refine .grd (by simp; intro h; rw[h] at h0; simp at h0) (.ix (by omega) (by omega) λx _ hx=> ?_)
      have gx:=hc.sm.g.2.1 x hx
      refine .ite (λ_=>.some ⟨HK gx.1 g0 (by simp) (by simp),U6 (by decide) v0 (λ_=>rfl) (HM _ _)⟩) λ_=>.some ⟨HK g0 hj.1 (by simp) λy hy=> ?_,(show (0:Int)≤3∧(3:Int)≤5 by decide),hj.2,λh=>absurd rfl h,.inr ⟨x,hx,rfl⟩⟩
      rw[List.mem_singleton] at hy
      subst hy
      exact⟨gq,gx.1,by simp[gI],by simp[gI]⟩
    · refine T.after (T.mono (P:=L3 (λ_=>False) (λ_=>True) (λ_=>False)) (.ite (λ_=>.brk trivial) λ_=>.brk trivial) λj hj2=> ?_)
      cases j with
      | go s=>exact hj2
      | ret s=>exact hj2.elim
      | brk v4=>
      refine T.ite (λ_=> ?_) λ_=>.ite (λ_=>.some ⟨HK g0 hj.1 (by simp) (by simp),U6 (by decide) hj.2 (λ_=>rfl) (HM _ _)⟩) λ_=>.some ⟨HK g0 hj.1 (by simp) (by simp),U6 (by decide) hj.2 (λ_=>rfl) (HM _ _)⟩
      have w1:IntKind.wrap .i64 ((c.Chunks.length:Int)+(c.Snaps.length:Int))=(c.Chunks.length:Int)+(c.Snaps.length:Int):=wr (by omega) (by omega)
      have w2:IntKind.wrap .i64 ((c.Chunks.length:Int)+(c.Snaps.length:Int)+(c.Exps.length:Int))=(c.Chunks.length:Int)+(c.Snaps.length:Int)+(c.Exps.length:Int):=wr (by omega) (by omega)
      refine .loop (λs=>0≤s.2.2∧s.2.2≤420∧s.1.length≤64∧KE c s.2.2 s.1∧gI s.2.1) (λs=>(420 - s.2.2).toNat) (λs=>s.1.length≤64∧KE c 1000 s.1) (by simp; omega) ⟨by simp,by simp,by simp,HM _ _,by simp[gI]⟩ (λs hs=> ?_) (λs hs=> ?_)
      · obtain⟨q,o,i⟩:=s
        simp only at hs
        obtain⟨s1,s2,s3,s4,s5⟩:=hs
        unfold DF
        simp only[w1,w2]
        have fin:KE c 1000 q:=⟨λx hx=>(s4.a x hx).mono (by omega),s4.d⟩
        have s4':KE c (i+1) q:=⟨λx hx=>(s4.a x hx).mono (by omega),s4.d⟩
        refine .after (.ite (λh=>.brk (T.ite (λh2=> ?_) λ_=>.brk ⟨s3,fin⟩)) λ_=>.brk (T.ite (λh=>by cases h) λ_=>.brk ⟨s3,fin⟩))
        have h:=of_decide_eq_true h
        have h2:=of_decide_eq_true h2
        rw[wr (n:=i+1) (by omega) (by omega)]
        have put:∀y:aS,SI c (i+1) y→¬SI c i y→T ((app q ([y]:List aS)).bind λz1648=>some (.brk (z1648,IntKind.wrap .i64 (o+20))):Option (Lp (List aS×Int) (Lp (List aS×Int×Int) (aR×Bool))))
            (L3 (λ_=>False) (λs=>s.1.length≤64∧KE c (i+1) s.1∧gI s.2) (λ_=>False)):=λy hy hy2=>.app (by simp; omega) (.brk ⟨by simp; omega,s4.put hG hy hy2,SH _⟩)
        have g20:gI 20:=by simp[gI]
        refine .after (T.mono (P:=L3 (λ_=>False) (λs=>s.1.length≤64∧KE c (i+1) s.1∧gI s.2) (λ_=>False)) (.after ?_) λj hj3=> ?_)
        · have mid:T (after (if (decide (i < (c.Chunks.length:Int)))=true then ((ix c.Chunks i).bind λx1596=>some (.brk { { ({ Kind:=0,Id:=jW,Seq:=0,Of:=0,Off:=o,Len:=20}:aS) with Kind:=1} with Id:=x1596.Id})) else after (if (decide (i < (c.Chunks.length:Int)+(c.Snaps.length:Int)))=true then ((ix c.Snaps (IntKind.wrap .i64 (i - (c.Chunks.length:Int)))).bind λx1629=>some (.brk { { ({ Kind:=0,Id:=jW,Seq:=0,Of:=0,Off:=o,Len:=20}:aS) with Kind:=2} with Seq:=x1629.Seq})) else (ix c.Exps (IntKind.wrap .i64 ((IntKind.wrap .i64 (i - (c.Chunks.length:Int))) - (c.Snaps.length:Int)))).bind λx1634=>some (.brk { { { ({ Kind:=0,Id:=jW,Seq:=0,Of:=0,Off:=o,Len:=20}:aS) with Kind:=3} with Seq:=x1634.Seq} with Of:=x1634.Of}):Option (Lp (aS) (Lp (aS) (Lp ((List aS)×Int) (Lp ((List aS)×Int×Int) (aR×Bool)))))) λj1623=>some (.brk j1623):Option (Lp (aS) (Lp ((List aS)×Int) (Lp ((List aS)×Int×Int) (aR×Bool))))) λj1590=>(app q ([j1590]:List aS)).bind λz1648=>some (.brk (z1648,IntKind.wrap .i64 (o+20))):Option (Lp ((List aS)×Int) (Lp ((List aS)×Int×Int) (aR×Bool))))
              (L3 (λ_=>False) (λs=>s.1.length≤64∧KE c (i+1) s.1∧gI s.2) (λ_=>False)):=by
            refine .after (.ite (λh3=> ?_) λh3=>.after (.ite (λh4=> ?_) λh4=> ?_))
            · have h3:=of_decide_eq_true h3
              refine .ix (by omega) (by omega) λx ex hx=>.brk (put _ ⟨(hc.sm.g.2.2.1 x hx).1,by simp,g0,s5,g20,.inl ⟨rfl,rfl,i.toNat,by omega,x,ex,rfl⟩⟩ λh=> ?_)
              rcases h.w with⟨_,_,j,k,u,u1,u2⟩ | ⟨a,_⟩ | ⟨a,_⟩
              · have:=KM hG.co u1 ex (by omega)
                rw[u2] at this
                simp only at this; omega
              · exact absurd (show (1:Int)=2 from a) (by decide)
              · exact absurd (show (1:Int)=3 from a) (by decide)
            · have h4:=of_decide_eq_true h4
              have h3:¬(i < (c.Chunks.length:Int)):=by simpa using h3
              rw[wr (n:=i - (c.Chunks.length:Int)) (by omega) (by omega)]
              refine .ix (by omega) (by omega) λx ex hx=>.brk (.brk (put _ ⟨NU,by have:=hc.rg.s x hx; simp only; omega,g0,s5,g20,.inr (.inl ⟨rfl,rfl,(i - (c.Chunks.length:Int)).toNat,by omega,x,ex,rfl⟩)⟩ λh=> ?_))
              rcases h.w with⟨a,_⟩ | ⟨_,_,j,k,u,u1,u2⟩ | ⟨a,_⟩
              · exact absurd (show (2:Int)=1 from a) (by decide)
              · have:=KM hG.so u1 ex (by omega)
                simp only at u2; omega
              · exact absurd (show (2:Int)=3 from a) (by decide)
            · have h4:¬(i < (c.Chunks.length:Int)+(c.Snaps.length:Int)):=by simpa using h4
              rw[wr (n:=i - (c.Chunks.length:Int)) (by omega) (by omega),wr (n:=i - (c.Chunks.length:Int) - (c.Snaps.length:Int)) (by omega) (by omega)]
              refine .ix (by omega) (by omega) λx ex hx=>.brk (.brk (put _ ⟨NU,by have:=hc.rg.e x hx; simp only; omega,(hc.sm.g.2.2.2.1 x hx).2.1,s5,g20,.inr (.inr ⟨rfl,rfl,(i - (c.Chunks.length:Int) - (c.Snaps.length:Int)).toNat,by omega,x,ex,rfl,rfl⟩)⟩ λh=> ?_))
              rcases h.w with⟨a,_⟩ | ⟨a,_⟩ | ⟨_,_,j,k,u,u1,u2,u3⟩
              · exact absurd (show (3:Int)=1 from a) (by decide)
              · exact absurd (show (3:Int)=2 from a) (by decide)
              · have:=KM hG.eo u1 ex (by omega)
                simp only at u2; omega
          refine .ite (λh3=> ?_) λ_=>.brk (T.ite (λh=>by cases h) λ_=>mid)
          have h3:=of_decide_eq_true h3
          exact .ix (by omega) (by omega) λx _ _=>.brk (T.ite (λ_=>.brk ⟨s3,s4',s5⟩) λ_=>mid)
        · cases j with
          | go s=>exact hj3
          | ret s=>exact hj3.elim
          | brk s=>
            obtain⟨q2,o2⟩:=s
            exact .go ⟨⟨by simp only; omega,by simp only; omega,hj3.1,hj3.2.1,hj3.2.2⟩,by simp only; omega⟩
      · obtain⟨q,o,i⟩:=s
        exact .some ⟨HK g0 hj.1 hs.1 λx hx=>⟨by have:=(hs.2.a x hx).q; exact⟨by omega,by omega⟩,(hs.2.a x hx).of,(hs.2.a x hx).off,(hs.2.a x hx).len⟩,U6 (by decide) hj.2 (λh=>absurd rfl h) hs.2⟩
open Go.Vm
def NV (l:List aB) (d:bO):List aB:=l.filter λx=>decide (ky x.Id < ky d)
def HN (l:List aB) (d:bO):List aB:=l.filter λx=>decide (ky d < ky x.Id)
def wS (l:List aB) (n:aB):List aB:=NV l n.Id++ { (match l.find? λx=>decide (x.Id=n.Id) with | some x=>x | none=> { Id:=n.Id,Staged:=false,Data:= [],Locs:= []}) with Staged:=true,Data:=n.Data}::HN l n.Id
theorem NW {l:List aB} {d:bO} {p:Nat} (ha:At l d p):l.take p=NV l d:=by
 unfold NV
 have e:l.filter (λx=>decide (ky x.Id < ky d))=(l.take p++l.drop p).filter λx=>decide (ky x.Id < ky d):=by rw[List.take_append_drop]
 rw[e,List.filter_append,List.filter_eq_self.2 λy hy=>decide_eq_true (ha.lo y hy),List.filter_eq_nil_iff.2 λy hy=>by
  have:=ha.hi y hy
  simp; omega]
 simp
theorem U7 {l:List aB} {d:bO} {p:Nat} (ha:At l d p) (hr:uF l) (hd:m7 d) (hn:kR l d=false):l.drop p=HN l d:=by
 unfold HN
 have e:l.filter (λx=>decide (ky d < ky x.Id))=(l.take p++l.drop p).filter λx=>decide (ky d < ky x.Id):=by rw[List.take_append_drop]
 rw[e,List.filter_append,List.filter_eq_nil_iff.2 λy hy=>by
  have:=ha.lo y hy
  simp; omega,List.filter_eq_self.2 λy hy=>by
   have hm:=List.mem_of_mem_drop hy
   have h1:=ha.hi y hy
   have h2:ky d≠ky y.Id:=λe=>by
    have:=List.any_eq_false.1 hn y hm
    simp[MK hd (hr.1 y hm) e] at this
   exact decide_eq_true (by omega)]
 simp
theorem QV {l:List aB} {d:bO} {p:Nat} {x:aB} (ha:At l d p) (hr:uF l) (hx:l[p]? =some x) (hd:x.Id=d):l.drop (p+1)=HN l d:=by
 obtain⟨hp,e0⟩:=List.getElem?_eq_some_iff.1 hx
 unfold HN
 have e:l.filter (λx=>decide (ky d < ky x.Id))=(l.take p++l[p]::l.drop (p+1)).filter λx=>decide (ky d < ky x.Id):=by
  rw[← List.drop_eq_getElem_cons hp,List.take_append_drop]
 rw[e,List.filter_append,List.filter_eq_nil_iff.2 λy hy=>by
  have:=ha.lo y hy
  simp; omega,List.filter_cons_of_neg (by rw[e0,hd]; simp),List.filter_eq_self.2 λy hy=>by
   obtain⟨j,hj,rfl⟩:=List.getElem_of_mem hy
   simp only[List.length_drop] at hj
   rw[List.getElem_drop]
   have:=hr.2 p (p+1+j) _ _ hx (List.getElem?_eq_getElem (by omega)) (by omega)
   rw[hd] at this
   exact decide_eq_true this]
 simp
theorem QW {l:List aB} {p:Nat} {x:aB} (hr:uF l) (hx:l[p]? =some x):(l.find? λy=>decide (y.Id=x.Id))=some x:=by
 cases e:l.find? λy=>decide (y.Id=x.Id) with
 | none=>
  have:=List.find?_eq_none.1 e x (List.mem_of_getElem? hx)
  simp at this
 | some y=>
  have h1:=List.find?_some e
  have h1:y.Id=x.Id:=by simpa using h1
  obtain⟨j,hj,rfl⟩:=List.getElem_of_mem (List.mem_of_find?_eq_some e)
  rcases Nat.lt_trichotomy j p with h | h | h
  ·have:=hr.2 j p _ _ (List.getElem?_eq_getElem hj) hx h
   rw[h1] at this; omega
  ·subst h
   rw[List.getElem?_eq_getElem hj] at hx
   exact hx
  ·have:=hr.2 p j _ _ hx (List.getElem?_eq_getElem hj) h
   rw[h1] at this; omega
theorem NX {l:List aB} {n:aB}:(wS l n).length≤l.length+1:=by
 have:∀m:List aB,(m.filter λx=>decide (ky x.Id < ky n.Id)).length+(m.filter λx=>decide (ky n.Id < ky x.Id)).length≤m.length:=by
  intro m
  induction m with
  | nil=>simp
  | cons a m ih=>
   by_cases h1:ky a.Id < ky n.Id
   ·have h2:¬ky n.Id < ky a.Id:=by omega
    simp[List.filter_cons,h1,h2]; omega
   ·by_cases h2:ky n.Id < ky a.Id <;> simp[List.filter_cons,h1,h2] <;> omega
 unfold wS NV HN
 have:=this l
 simp only[List.length_append,List.length_cons]
 omega
open Go.Vm
def KF (l:List aB) (d:bO):aB:=match l.find? λx=>decide (x.Id=d) with | some x=>x | none=> { Id:=d,Staged:=false,Data:= [],Locs:= []}
theorem QX (l:List aB) (d:bO):(KF l d).Id=d:=by
 unfold KF
 cases e:l.find? λx=>decide (x.Id=d) with
 | none=>rfl
 | some x=>simpa using List.find?_some e
theorem IV (l:List aB) (n:aB):wS l n=NV l n.Id++ { KF l n.Id with Staged:=true,Data:=n.Data}::HN l n.Id:=rfl
theorem NY {l:List aB} {n:aB} (hr:uF l) (hn:m7 n.Id):uF (wS l n):=by
 rw[qC] at*
 obtain⟨h1,h2⟩:=hr
 rw[IV]
 have hid:({ KF l n.Id with Staged:=true,Data:=n.Data}:aB).Id=n.Id:=QX l n.Id
 generalize ({ KF l n.Id with Staged:=true,Data:=n.Data}:aB)=z at hid
 refine⟨λy hy=> ?_,List.pairwise_append.2 ⟨h2.sublist List.filter_sublist,List.pairwise_cons.2 ⟨λy hy=> ?_,h2.sublist List.filter_sublist⟩,λa ha b hb=> ?_⟩⟩
 ·rcases List.mem_append.1 hy with h | h
  ·exact h1 y (List.mem_filter.1 h).1
  ·rcases List.mem_cons.1 h with rfl | h
   ·rw[hid]; exact hn
   ·exact h1 y (List.mem_filter.1 h).1
 ·rw[hid]
  exact of_decide_eq_true (List.mem_filter.1 hy).2
 ·have ha':=of_decide_eq_true (List.mem_filter.1 ha).2
  rcases List.mem_cons.1 hb with rfl | hb
  ·rw[hid]; exact ha'
  ·have:=of_decide_eq_true (List.mem_filter.1 hb).2
   omega
def nW (l ns:List aB):List aB:=ns.foldl wS l
theorem zH:∀ {ns l:List aB},uF l→(∀n∈ns,m7 n.Id)→uF (nW l ns)
 | [],_,h,_=>h
 | n::ns,_,h,hn=>zH (ns:=ns) (NY h (hn n List.mem_cons_self)) λm hm=>hn m (List.mem_cons_of_mem _ hm)
theorem rT:∀ {ns l:List aB},(nW l ns).length≤l.length+ns.length
 | [],_=>by simp[nW]
 | n::ns,l=>by
  have h1:=rT (ns:=ns) (l:=wS l n)
  have h2:=NX (l:=l) (n:=n)
  have:nW l (n::ns)=nW (wS l n) ns:=rfl
  rw[this,List.length_cons]
  omega
def pA (l:List aB):Bool:= !l.any λx=> !x.Staged || decide (0 < (x.Locs.length:Int))
def ad (c:aA) (d:aR):aA:= { c with Seq:=c.Seq+1,Snaps:=c.Snaps++ [{ Seq:=d.Snap.Seq,Man:=d.Snap.Man,Locs:= []}],Chunks:=nW c.Chunks d.Chunks}
open Go.Vm
theorem nB {P:aB→Prop}:∀ {ns l:List aB},(∀x∈l,P x)→(∀n∈ns,P { Id:=n.Id,Staged:=true,Data:=n.Data,Locs:= []})→(∀x,P x→∀n∈ns,P { x with Staged:=true,Data:=n.Data})→∀y∈nW l ns,P y
  | [],_,h,_,_=>h
  | n :: ns, l, h, hn, hs => nB (ns := ns) (l := wS l n) (fun y hy => by
      rw[IV,List.mem_append,List.mem_cons] at hy
      rcases hy with h1 | h1 | h1
      · exact h y (List.mem_filter.1 h1).1
      · rw[h1]
        unfold KF
        cases e:l.find? λx=>decide (x.Id=n.Id) with
        | none=>exact hn n List.mem_cons_self
        | some x=>exact hs x (h x (List.mem_of_find?_eq_some e)) n List.mem_cons_self
      · exact h y (List.mem_filter.1 h1).1) (λm hm=>hn m (List.mem_cons_of_mem _ hm)) λx hx m hm=>hs x hx m (List.mem_cons_of_mem _ hm)
theorem SJ {c:aA} {d:aR} (h:Sm c) (hg:Gd c) (hd:IU d):Sm (ad c d):=by
 have hq:=hg.q
 have hsn:=hg.sn
 have hcn:=hg.cn
 have hdn:=hd.cn
 unfold fR at hq
 simp only[Bool.and_eq_true,decide_eq_true_eq] at hq
 obtain⟨m1,m2,m3,m4⟩:=hd.man
 have L:=rT (ns:=d.Chunks) (l:=c.Chunks)
 refine⟨⟨⟨by show _≤c.Seq+1; omega,by show c.Seq+1 < _; omega⟩, ?_, ?_,h.g.2.2.2.1,h.g.2.2.2.2⟩, ?_, ?_,h.ex,h.vo, ?_, ?_,h.el, ?_⟩
 ·intro s hs
  rcases List.mem_append.1 hs with h1 | h1
  ·exact h.g.2.1 s h1
  ·obtain rfl:=List.mem_singleton.1 h1
   exact⟨hd.seq,m4,λx hx=>by cases hx⟩
 ·exact nB (P:=IE) h.g.2.2.1 (λn hn=>⟨(hd.ch n hn).1,trivial,(hd.ch n hn).2.2.1,λx hx=>by cases hx⟩) λx hx n hn=>⟨hx.1,trivial,(hd.ch n hn).2.2.1,hx.2.2.2⟩
 ·show (c.Snaps++_).length≤12
  simp; omega
 ·show (nW c.Chunks d.Chunks).length≤400
  omega
 ·intro s hs
  rcases List.mem_append.1 hs with h1 | h1
  ·exact h.sl s h1
  ·obtain rfl:=List.mem_singleton.1 h1
   simp
 ·exact nB (P:=λx=>x.Locs.length≤300∧x.Data.length≤300) h.cl (λn hn=>⟨by simp,(hd.ch n hn).2.1⟩) λx hx n hn=>⟨hx.1,(hd.ch n hn).2.1⟩
 ·intro s hs
  rcases List.mem_append.1 hs with h1 | h1
  ·exact h.man s h1
  ·obtain rfl:=List.mem_singleton.1 h1
   exact⟨m1,m2,m3⟩
theorem kB (c:aA) (y:aB):(E8 c y).Locs=y.Locs∧(E8 c y).Id=y.Id∧((E8 c y).Data=y.Data∨(E8 c y).Data= []):=by
 unfold E8
 split
 ·exact⟨rfl,rfl,.inl rfl⟩
 ·exact⟨rfl,rfl,.inr rfl⟩
theorem IW {c:aA} (h:Sm c):Sm { c with Chunks:=KB c}:=by
 obtain⟨g0,g1,g2,g3,g4⟩:=h.g
 refine { h with g:=⟨g0,g1, ?_,g3,g4⟩,ch:= ?_,cl:= ?_}
 ·intro y hy
  obtain⟨x,hx,rfl⟩:=List.mem_map.1 hy
  obtain⟨e1,e2,e3⟩:=kB c x
  have:=g2 x (List.mem_filter.1 hx).1
  refine⟨by rw[e2]; exact this.1,trivial, ?_,by rw[e1]; exact this.2.2.2⟩
  rcases e3 with e | e <;> rw[e]
  ·exact this.2.2.1
  ·intro z hz; cases hz
 ·show (List.map _ _).length≤400
  rw[List.length_map]
  exact Nat.le_trans (List.length_filter_le _ _) h.ch
 ·intro y hy
  obtain⟨x,hx,rfl⟩:=List.mem_map.1 hy
  obtain⟨e1,e2,e3⟩:=kB c x
  have:=h.cl x (List.mem_filter.1 hx).1
  refine⟨by rw[e1]; exact this.1, ?_⟩
  rcases e3 with e | e <;> rw[e]
  ·exact this.2
  ·simp
theorem HO {c:aA} {n:Int} (h:Sm c):Sm (C0 c n):=IW (tO h _)
open Go.Vm
theorem aGO {F:Nat} {l:List aH} {f:aH→Option Bool} (q:aH→Bool) (hF:1000≤F) (hl:l.length≤400) (hf:∀x∈l,f x=some (q x)):E6 F l f=some (l.filter λx=> !q x):=by
 have h119:BD F l f=some (vN l q):=by
  unfold BD
  refine n8 q (by omega) (λi x hx hm hi=> ?_) (by unfold p9; simp)
  unfold p9
  rw[iW (by omega)]
  simp only[bH,hx,hf x hm,Option.bind_some,Int.ofNat_lt,hi,decide_true,if_true]
  split <;> rfl
 unfold E6
 rw[h119]
 simp only[Option.bind_some]
 cases ha:l.any q with
 | false=>
  rw[mR ha]
  simp only[beq_self_eq_true,if_true]
  rw[List.filter_eq_self.2 λx hx=>by simpa using List.any_eq_false.1 ha x hx]
 | true=>
  obtain⟨i,x,h1,h2,h3,h4⟩:=lH ha
  rw[h1]
  have hn:((i:Int)== -1)=false:=by simp
  have hil:=(List.getElem?_eq_some_iff.1 h2).1
  rw[hn,iW (by omega)]
  simp only[Bool.false_eq_true,if_false]
  obtain⟨cur,w,e1,e2,e3,e4⟩:=MW (l:=l) (q:=q) (F:=F) (body:=λs=>oD F f s.1 s.2.1 s.2.2) (by omega) h2 h3 h4 (λcur w r x hc hw hr hx hm=>by
   unfold oD
   simp only
   rw[iW (i:=r) (by omega),iW (i:=w) (by omega)]
   have hcw:cur[w]? =some cur[w]:=List.getElem?_eq_getElem (by omega)
   simp only[bH,hx,hf x hm,Option.bind_some,hc,Int.ofNat_lt,hr,decide_true,if_true,hcw,Int.toNat_natCast]
   cases q x <;> rfl) (λcur w hc=>by unfold oD; simp[hc])
  rw[e1]
  simp only[aG]
  have g1:(decide ((0:Int)≤(w:Int)) && decide ((w:Int) < (cur.length:Int)))=true:=by simp; omega
  have g2:(decide ((0:Int)≤(w:Int)) && decide ((w:Int)≤(cur.length:Int)))=true:=by simp; omega
  simp only[grd,g1,g2,if_true,Int.toNat_natCast,e4]
end Go.Proofs.YtbbifdfldpfphaaGreat
