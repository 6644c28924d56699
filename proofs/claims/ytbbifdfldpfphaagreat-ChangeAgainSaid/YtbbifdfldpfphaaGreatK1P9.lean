import Derived.Test.YtbbifdfldpfphaaGreatK1P4
import Derived.Test.YtbbifdfldpfphaaGreatK1P5
import Derived.Test.YtbbifdfldpfphaaGreatK1P8
import Derived.Test.YtbbifdfldpfphaaGreatK1P7
set_option linter.unusedSimpArgs false
set_option linter.unusedVariables false
set_option maxHeartbeats 4000000
set_option maxRecDepth 100000
namespace Go.Proofs.YtbbifdfldpfphaaGreat
open Go.Vm
def sI (m:Nat) (p0:List dQ) (q0:Int):Option (Lp (Int) (Bool)):=
 if (decide (q0 < (p0.length:Int)))=true then ((ix p0 q0).bind λx0=>if (decide (200 < (x0.Data.length:Int)))=true then (some (.ret true)) else some (.go (IntKind.wrap .i64 (q0+1)))) else some (.brk q0)
def I8 (m:Nat) (p0:List dQ):Option (Bool):=
 if (decide (6 < (p0.length:Int)))=true then (some true) else after (aW (λs=>sI m p0 s) m 0) λr0=>some false
theorem ZB {u:Nat} {p0:List dQ} {o:Bool} (h:aE) (m:I8 u p0=some o):
 aL Tryz.prog 139 [.sl none 2 (List.map eQ p0)] h (λr h'=>r= .sc (.bool o)∧h'=h):=by
 refine fY 20 [.tmp 2] Tryz.func139 rfl rfl rfl rfl ?_
 unfold I8 at m
 refine v (v (dL yC rfl (v ?_)))
 apply vi m <;> intro c4 m
 refine v (v ?_)
 obtain rfl:=eY m
 exact eK rfl
 refine v (v (jT m (σ:=Int) (λs=> []) (λs=>.c 0 (.sl none 2 (List.map eQ p0)) (.c 3 (nZ s) .nil)) (lx (.k2 .nil)) ?_ ?_))
 rintro _ q0 x m
 replace m:sI u p0 q0=some x:=m
 unfold sI at m
 refine v (dL yC rfl (v ?_))
 apply vi m <;> intro c0 m
 refine v (v (v (vx m oP rfl rfl λ_ _ m=>dL lK rfl (v ?_))))
 apply vi m <;> intro c1 m
 refine v (v (gO m λm=> ?_))
 obtain rfl:=eY m
 exact eK rfl
 exact v (v (qA m))
 exact v (NN m)
 rintro _ r0 m
 refine v (v ?_)
 obtain rfl:=eY m
 exact eK rfl
theorem Q0:aO Tryz.prog 139=true:=by kernel_rfl
def BZ (m:Nat) (p0:List dQ) (q0:Int):Option (Lp (Int) ((List dQ)×Int)):=
 if (decide (q0 < (p0.length:Int)))=true then ((ix p0 q0).bind λx0=>(BJ m x0.Path).bind λy0=>if (!y0)=true then (some (.ret ([],1))) else some (.go (IntKind.wrap .i64 (q0+1)))) else some (.brk q0)
def B0 (m:Nat) (p0:List dQ) (q0:List dQ) (q1:Int) (q2:Int):Option (Lp (Int) (Lp ((List dQ)×Int) ((List dQ)×Int))):=
 after (if (decide (q2 < (q0.length:Int)))=true then ((ix q0 q2).bind λx0=>(ix p0 q1).bind λx1=>some (.brk (Op.bytesLess x0.Path.toList x1.Path.toList))) else some (.brk false):Option (Lp (Bool) (Lp (Int) (Lp ((List dQ)×Int) ((List dQ)×Int))))) λj0=>if j0=true then (some (.go (IntKind.wrap .i64 (q2+1)))) else some (.brk q2)
def B1 (m:Nat) (p0:List dQ) (q0:List dQ) (q1:Int):Option (Lp ((List dQ)×Int) ((List dQ)×Int)):=
 if (decide (q1 < (p0.length:Int)))=true then (after (aW (λs=>B0 m p0 q0 q1 s) m 0) λr0=>after (if (decide (r0 < (q0.length:Int)))=true then ((ix q0 r0).bind λx0=>(ix p0 q1).bind λx1=>some (.brk (x0.Path.toList==x1.Path.toList))) else some (.brk false):Option (Lp (Bool) (Lp ((List dQ)×Int) ((List dQ)×Int)))) λj0=>if j0=true then (some (.ret ([],9))) else (slc q0 0 r0).bind λx2=>(ix p0 q1).bind λx3=>(ix p0 q1).bind λx4=>(app ([]:List dQ) x2).bind λz0=>(yJ m x4.Data).bind λy0=>(app z0 ([({ Path:=x3.Path,Data:=y0}:dQ)]:List dQ)).bind λz1=>(slc q0 r0 (q0.length:Int)).bind λx5=>(app z1 x5).bind λz2=>some (.go (z2,IntKind.wrap .i64 (q1+1)))) else some (.brk (q0,q1))
def ZC (m:Nat) (p0:List dQ):Option ((List dQ)×Int):=
 (I8 m p0).bind λy4=>if y4=true then (some ([],2)) else after (aW (λs=>BZ m p0 s) m 0) λr0=>after (aW (λs=>B1 m p0 s.1 s.2) m ([],0)) λ⟨r1,r2⟩=>some (r1,0)
theorem W85 {w:Nat} {p0:List dQ} {o:(List dQ)×Int} (h:aE) (m:ZC w p0=some o):
 aL Tryz.prog 85 [.sl none 2 (List.map eQ p0)] h (λr h'=>r= .tup [.sl none 2 (List.map eQ o.1),nZ o.2]∧h'=h):=by
 refine fY 91 [.tmp 2,.tmp 3] Tryz.func85 rfl rfl rfl rfl ?_
 unfold ZC at m
 refine v (v (vk ZB Q0 m rfl rfl λ_ m=>v ?_))
 apply vi m <;> intro c6 m
 refine v (v ?_)
 cases m
 exact vr λu=>dV.of2 (.inl rfl) (fP _ _ (.sc (.slice _ _ _)) rfl) (fP _ _ (.sc (.int _ _)) rfl) (hH.refl _) (aV _) (bE.refl _ _) ⟨rfl,rfl⟩
 refine v (v (jT m (σ:=Int) (λs=> []) (λs=>.c 0 (.sl none 2 (List.map eQ p0)) (.c 4 (nZ s) .nil)) (lx (.k2 .nil)) ?_ ?_))
 rintro _ q0 x m
 replace m:BZ w p0 q0=some x:=m
 unfold BZ at m
 refine v (dL yC rfl (v ?_))
 apply vi m <;> intro c0 m
 refine v (v (v (vx m oP rfl rfl λ_ _ m=>vk KZ DM m rfl rfl λ_ m=>v ?_)))
 apply vi m <;> intro c1 m
 refine v (v (gO m λm=> ?_))
 cases m
 exact vr λu=>dV.of2 (.inl rfl) (fP _ _ (.sc (.slice _ _ _)) rfl) (fP _ _ (.sc (.int _ _)) rfl) (hH.refl _) (aV _) (bE.refl _ _) ⟨rfl,rfl⟩
 exact v (v (qA m))
 exact v (NN m)
 rintro _ r0 m
 refine v (v (pJ (EN (.tok 95 2 (([]:List dQ).length*2)) 5 (ow none 2 (List.map eQ [])) (iZ _ _)) (m5 m (σ:=(List dQ)×Int) (τ:=Option cB) (λg s=> [(g,.tok 95 2 ((s.1:List dQ).length*2))]) (λg s=>(g=none→s.1= [])) (λg s=>.c 0 (.sl none 2 (List.map eQ p0)) (.c 5 (ow g 2 (List.map eQ s.1)) (.c 6 (nZ s.2) .nil))) none (λ_=>rfl) (lx (.k3 .nil)) ?_ ?_)))
 rintro tg0 ⟨q1,q2⟩ x t0 m
 replace m:B1 w p0 q1 q2=some x:=m
 unfold B1 at m
 refine v (dL yC rfl (v ?_))
 apply vi m <;> intro c2 m
 refine v (v (v (vs (jT m (σ:=Int) (λs=> [(tg0,.tok 95 2 ((q1:List dQ).length*2))]) (λs=>.c 0 (.sl none 2 (List.map eQ p0)) (.c 5 (ow tg0 2 (List.map eQ q1)) (.c 6 (nZ q2) (.c 7 (nZ s) .nil)))) (lx (.k4 .nil)) ?_ ?_))))
 rintro _ q3 x m
 replace m:B0 w p0 q1 q2 q3=some x:=m
 unfold B0 at m
 refine vs (vs (fR m (σ:=Bool) (λs=> [(tg0,.tok 95 2 ((q1:List dQ).length*2))]) (λs=>.c 0 (.sl none 2 (List.map eQ p0)) (.c 5 (ow tg0 2 (List.map eQ q1)) (.c 6 (nZ q2) (.c 7 (nZ q3) (.c 46 (.sc (.bool s)) .nil))))) (λx m=> ?_) ?_))
 refine v (vq (by kernel_rfl) (bU (s9 yC t0 rfl) ?_))
 apply vi m <;> intro b0 m
 rw[b0]
 obtain⟨_,X0,m⟩:=aC m
 exact bU (P6 X0 oP t0 rfl rfl) (vx m oP rfl rfl λ_ _ m=>bU (AH rfl rfl rfl trivial) (mO m))
 rw[b0]
 exact mO m
 rintro _ j0 m
 refine v ?_
 apply vi m <;> intro c3 m
 exact v (v (v (hD m)))
 exact v (u0 m)
 rintro _ r1 m
 refine vs (vs (fR m (σ:=Bool) (λs=> [(tg0,.tok 95 2 ((q1:List dQ).length*2))]) (λs=>.c 0 (.sl none 2 (List.map eQ p0)) (.c 5 (ow tg0 2 (List.map eQ q1)) (.c 6 (nZ q2) (.c 7 (nZ r1) (.c 65 (.sc (.bool s)) .nil))))) (λx m=> ?_) ?_))
 refine v (vq (by kernel_rfl) (bU (s9 yC t0 rfl) ?_))
 apply vi m <;> intro b1 m
 rw[b1]
 obtain⟨_,X1,m⟩:=aC m
 exact bU (P6 X1 oP t0 rfl rfl) (vx m oP rfl rfl λ_ _ m=>bU (AH rfl rfl rfl trivial) (mO m))
 rw[b1]
 exact mO m
 rintro _ j1 m
 refine v ?_
 apply vi m <;> intro c4 m
 refine v (v (gO m λm=> ?_))
 cases m
 exact vr λu=>dV.of2 (.inl rfl) (fP _ _ (.sc (.slice _ _ _)) rfl) (fP _ _ (.sc (.int _ _)) rfl) (aR (List.nil_sublist _) u).1 (aV _) (bE.refl _ _) ⟨rfl,rfl⟩
 refine v (v (v (vz [] mixed (λu=>trivial) λu=>zC 0 rfl (eT (.sc (.slice _ _ _)) rfl) (zC 1 rfl (eT (ow _ _ _) rfl) (zI 2 rfl rfl ?_)))))
 obtain⟨_,X2,m⟩:=aC m
 refine zC 3 rfl (A0 X2 oP rfl t0 rfl rfl rfl) (zC 5 rfl (eT (.sl _ _ _) rfl) (zI 6 rfl rfl ?_))
 obtain⟨x0,X3,m⟩:=aC m
 refine zC 7 rfl (oJ X3 oP rfl rfl) (zC 8 rfl (oK KM rfl rfl) (zC 9 rfl (oY (.sc (.string x0.Path)) xX rfl rfl) (zC 10 rfl (eT (.sl _ _ _) rfl) (zI 11 rfl rfl ?_))))
 obtain⟨x1,X4,m⟩:=aC m
 refine zC 12 rfl (oJ X4 oP rfl rfl) (zC 13 rfl (oK KN rfl rfl) (zC 14 rfl (oY (.sl none 1 (List.map dG x1.Data)) lV rfl rfl) ?_))
 obtain⟨z0,Z0,m⟩:=aC m
 refine zE 4 rfl (nS (c:=eQ) Z0 OP rfl rfl u nofun (nD (rA X2 t0)) λtg1 t1 K0=>⟨trivial, ?_⟩)
 obtain⟨y0,Y0,m⟩:=aC m
 refine zC 15 rfl (bY (LK _ Y0) rfl DT rfl) (zC 16 rfl (fF (eQ ({ Path:=x0.Path,Data:=y0}:dQ)) aBL rfl) (zC 17 rfl (eI (List.map eQ ([({ Path:=x0.Path,Data:=y0}:dQ)]:List dQ)) OP rfl rfl rfl rfl) ?_))
 obtain⟨z1,Z1,m⟩:=aC m
 refine zE 18 rfl (fB (c:=eQ) 0 Z1 OP rfl rfl rfl t1 K0 rfl λtg2 t2 K1=>⟨trivial, ?_⟩)
 refine zC 19 rfl (hU (ow _ _ _) rfl) (zX (qk (f:=.c 8 _ (OE 84 _ _ _ _ (.c 70 _ (U9 80 _ _ _ _ _ _ _ _ _ _ (OE 69 _ _ _ _ _))))) K1 rfl (v ?_)))
 obtain⟨_,X5,m⟩:=aC m
 refine bU (A0 X5 oP rfl t0 rfl rfl rfl) ?_
 obtain⟨z2,Z2,m⟩:=aC m
 exact ve λu=>fB (c:=eQ) 0 Z2 OP rfl rfl rfl t2 u (nD (rA X5 t0)) λtg3 t3 K2=>qk K2 rfl (v (eR m tg3 t3 (l4 [0] rfl rfl (.k3 .nil))))
 exact v (kT m tg0 t0 (lx (.k3 .nil)))
 rintro tg4 ⟨r2,r3⟩ t4 m
 refine v (v ?_)
 cases m
 exact vr λu=>dV.of2 (.inl rfl) (fP _ _ (ow _ _ _) rfl) (fP _ _ (.sc (.int _ _)) rfl) (aR (List.nil_sublist _) u).1 ((eS _ 0 t4 u rfl)) (bE.refl _ _) ⟨rfl,rfl⟩
theorem aEB:aO Tryz.prog 85=true:=by kernel_rfl
def TK (m:Nat):Option ((Ar 64)):=
 some (⟨[1116352408,1899447441,3049323471,3921009573,961987163,1508970993,2453635748,2870763221,3624381080,310598401,607225278,1426881987,1925078388,2162078206,2614888103,3248222580,3835390401,4022224774,264347078,604807628,770255983,1249150122,1555081692,1996064986,2554220882,2821834349,2952996808,3210313671,3336571891,3584528711,113926993,338241895,666307205,773529912,1294757372,1396182291,1695183700,1986661051,2177026350,2456956037,2730485921,2820302411,3259730800,3345764771,3516065817,3600352804,4094571909,275423344,430227734,506948616,659060556,883997877,958139571,1322822218,1537002063,1747873779,1955562222,2024104815,2227730452,2361852424,2428436474,2756734187,3204031479,3329325298],rfl⟩:Ar 64)
theorem aEC {w:Nat} {o:(Ar 64)} (h:aE) (m:TK w=some o):
 aL Tryz.prog 144 [] h (λr h'=>r= .agg (dB o)∧h'=h):=by
 refine fY 2 [.cell 0 181] Tryz.func144 rfl rfl rfl rfl ?_
 unfold TK at m
 refine v (ve λu=>bI (dB (T3 64)) u KR rfl rfl λk2 K3=>qk K3 rfl (v (bU (A1 [1116352408,1899447441,3049323471,3921009573,961987163,1508970993,2453635748,2870763221,3624381080,310598401,607225278,1426881987,1925078388,2162078206,2614888103,3248222580,3835390401,4022224774,264347078,604807628,770255983,1249150122,1555081692,1996064986,2554220882,2821834349,2952996808,3210313671,3336571891,3584528711,113926993,338241895,666307205,773529912,1294757372,1396182291,1695183700,1986661051,2177026350,2456956037,2730485921,2820302411,3259730800,3345764771,3516065817,3600352804,4094571909,275423344,430227734,506948616,659060556,883997877,958139571,1322822218,1537002063,1747873779,1955562222,2024104815,2227730452,2361852424,2428436474,2756734187,3204031479,3329325298] rfl SI rfl rfl rfl) (ve λu=>aJ 0 (dB (⟨[1116352408,1899447441,3049323471,3921009573,961987163,1508970993,2453635748,2870763221,3624381080,310598401,607225278,1426881987,1925078388,2162078206,2614888103,3248222580,3835390401,4022224774,264347078,604807628,770255983,1249150122,1555081692,1996064986,2554220882,2821834349,2952996808,3210313671,3336571891,3584528711,113926993,338241895,666307205,773529912,1294757372,1396182291,1695183700,1986661051,2177026350,2456956037,2730485921,2820302411,3259730800,3345764771,3516065817,3600352804,4094571909,275423344,430227734,506948616,659060556,883997877,958139571,1322822218,1537002063,1747873779,1955562222,2024104815,2227730452,2361852424,2428436474,2756734187,3204031479,3329325298],rfl⟩:Ar 64)) u rfl rfl rfl rfl QB rfl rfl λK6=>qk K6 rfl ?_))))
 refine v ?_
 cases m
 exact vr λu=>dV.of1 (.inl rfl) (pU (.agg (dB (⟨[1116352408,1899447441,3049323471,3921009573,961987163,1508970993,2453635748,2870763221,3624381080,310598401,607225278,1426881987,1925078388,2162078206,2614888103,3248222580,3835390401,4022224774,264347078,604807628,770255983,1249150122,1555081692,1996064986,2554220882,2821834349,2952996808,3210313671,3336571891,3584528711,113926993,338241895,666307205,773529912,1294757372,1396182291,1695183700,1986661051,2177026350,2456956037,2730485921,2820302411,3259730800,3345764771,3516065817,3600352804,4094571909,275423344,430227734,506948616,659060556,883997877,958139571,1322822218,1537002063,1747873779,1955562222,2024104815,2227730452,2361852424,2428436474,2756734187,3204031479,3329325298],rfl⟩:Ar 64))) VS rfl (a8 0 u rfl) rfl) (aR (List.nil_sublist _) u).1 (bE.refl _ _) ⟨rfl,rfl⟩
theorem ZD:aO Tryz.prog 144=true:=by kernel_rfl
def vN (m:Nat) (q0:List Int):Option (Lp ((List Int)) ((List Int))):=
 if (((IntKind.wrap .i64 ((q0.length:Int)+8)).tmod 64) !=0)=true then ((app q0 ([0]:List Int)).bind λz0=>some (.go z0)) else some (.brk q0)
def vO (m:Nat) (p0:List Int) (q0:List Int) (q1:Int):Option (Lp ((List Int)×Int) ((List Int))):=
 if (decide (0≤q1))=true then (grd (decide (0≤(IntKind.wrap .u64 (8*(IntKind.wrap .u64 q1))))) <| (app q0 ([IntKind.wrap .u8 ((IntKind.wrap .u64 ((IntKind.wrap .u64 (p0.length:Int))*8)).fdiv (2 ^ (min ((IntKind.wrap .u64 (8*(IntKind.wrap .u64 q1))):Int).toNat (IntKind.bits .u64))))]:List Int)).bind λz0=>some (.go (z0,IntKind.wrap .i64 (q1 - 1)))) else some (.brk (q0,q1))
def MP (m:Nat) (p0:List Int):Option ((List Int)):=
 (app ([]:List Int) p0).bind λz4=>(app z4 ([128]:List Int)).bind λz0=>after (aW (λs=>vN m s) m z0) λr0=>after (aW (λs=>vO m p0 s.1 s.2) m (r0,7)) λ⟨r1,r2⟩=>some r1
theorem aED {w:Nat} {p0:List Int} {o:(List Int)} (h:aE) (m:MP w p0=some o):
 aL Tryz.prog 145 [.sl none 1 (List.map dG p0)] h (λr h'=>r= .sl none 1 (List.map dG o)∧h'=h):=by
 refine fY 37 [.tmp 2] Tryz.func145 rfl rfl rfl rfl ?_
 unfold MP at m
 refine v (v (v ?_))
 obtain⟨z4,Z5,m⟩:=aC m
 refine ve λu=>nS (c:=dG) Z5 i9 rfl rfl u nofun rfl λtg6 t7 K8=>qk K8 rfl (bU (eI (List.map dG ([128]:List Int)) i9 rfl rfl rfl rfl) ?_)
 obtain⟨z0,Z0,m⟩:=aC m
 refine ve λu=>fB (c:=dG) 0 Z0 i9 rfl rfl rfl t7 u rfl λtg0 t0 K0=>qk K0 rfl (vs (m5 m (σ:=(List Int)) (τ:=Option cB) (λg s=> [(g,.tok 5 1 ((s:List Int).length*1))]) (λg s=>(g=none→s= [])) (λg s=>.c 0 (.sl none 1 (List.map dG p0)) (.c 3 (ow g 1 (List.map dG s)) .nil)) tg0 t0 (lx (.k2 .nil)) ?_ ?_))
 rintro tg1 q0 x t1 m
 replace m:vN w q0=some x:=m
 unfold vN at m
 refine v (bU (s9 lK t1 rfl) (v ?_))
 apply vi m <;> intro c0 m
 refine v (v (v (bU (eI (List.map dG ([0]:List Int)) i9 rfl rfl rfl rfl) ?_)))
 obtain⟨z1,Z1,m⟩:=aC m
 exact ve λu=>fB (c:=dG) 0 Z1 i9 rfl rfl rfl t1 u rfl λtg2 t2 K1=>qk K1 rfl (eR m tg2 t2 (lx (.k2 .nil)))
 exact v (kT m tg1 t1 (lx (.k2 .nil)))
 rintro tg3 r0 t3 m
 refine v (dL lK rfl (v (m5 m (σ:=(List Int)×Int) (τ:=Option cB) (λg s=> [(g,.tok 5 1 ((s.1:List Int).length*1))]) (λg s=>(g=none→s.1= [])) (λg s=>.c 3 (ow g 1 (List.map dG s.1)) (.c 4 (.sc (.int .u64 (IntKind.wrap .u64 ((IntKind.wrap .u64 (p0.length:Int))*8)))) (.c 5 (nZ s.2) .nil))) tg3 t3 (lx (.k3 .nil)) ?_ ?_)))
 rintro tg4 ⟨q1,q2⟩ x t4 m
 replace m:vO w p0 q1 q2=some x:=m
 unfold vO at m
 refine v (v ?_)
 apply vi m <;> intro c1 m
 refine v (v (v (RT m λ_ m=>bU (eI (List.map dG ([IntKind.wrap .u8 ((IntKind.wrap .u64 ((IntKind.wrap .u64 (p0.length:Int))*8)).fdiv (2 ^ (min ((IntKind.wrap .u64 (8*(IntKind.wrap .u64 q2))):Int).toNat (IntKind.bits .u64))))]:List Int)) i9 rfl rfl rfl rfl) ?_)))
 obtain⟨z2,Z2,m⟩:=aC m
 exact ve λu=>fB (c:=dG) 0 Z2 i9 rfl rfl rfl t4 u rfl λtg5 t5 K2=>qk K2 rfl (v (eR m tg5 t5 (lx (.k3 .nil))))
 exact v (kT m tg4 t4 (lx (.k3 .nil)))
 rintro tg7 ⟨r1,r2⟩ t6 m
 refine v (v ?_)
 obtain rfl:=eY m
 exact vr λu=>dV.of1 (.inl rfl) (fP _ _ (ow _ _ _) rfl) (aR (List.nil_sublist _) u).1 ((eS _ 0 t6 u rfl)) ⟨rfl,rfl⟩
theorem ZE:aO Tryz.prog 145=true:=by kernel_rfl
def sJ (m:Nat) (p0:Int) (p1:Int):Option (Int):=
 grd (decide (0≤p1)) <| grd (decide (0≤(IntKind.wrap .u64 (32 - p1)))) <| some (cF .or .u32 (p0.fdiv (2 ^ (min (p1:Int).toNat (IntKind.bits .u32)))) (IntKind.wrap .u32 (p0*2 ^ (min ((IntKind.wrap .u64 (32 - p1)):Int).toNat (IntKind.bits .u32)))))
theorem yK {u:Nat} {p0:Int} {p1:Int} {o:Int} (h:aE) (m:sJ u p0 p1=some o):
 aL Tryz.prog 146 [.sc (.int .u32 p0),.sc (.int .u64 p1)] h (λr h'=>r= .sc (.int .u32 o)∧h'=h):=by
 refine fY 13 [.tmp 4] Tryz.func146 rfl rfl rfl rfl ?_
 unfold sJ at m
 refine v (v (RT m λ_ m=>RT m λ_ m=>v ?_))
 cases m
 exact eK rfl
theorem pX:aO Tryz.prog 146=true:=by kernel_rfl
def B2 (m:Nat) (y0:(List Int)) (q0:Int) (q1:Int) (q2:Ar 64) (q3:Int):Option (Lp ((Ar 64)×Int) (Lp ((Ar 64)) (Lp ((Ar 64)×Int) (Lp ((Ar 8)×Int) (bP))))):=
 if (decide (q3 < 4))=true then ((ix q2.1 q1).bind λx0=>(ix y0 (IntKind.wrap .i64 ((IntKind.wrap .i64 (q0+(IntKind.wrap .i64 (4*q1))))+q3))).bind λx1=>(ix q2.1 q1).bind λ_=>some (.go (P7 q2 q1.toNat (cF .or .u32 (IntKind.wrap .u32 (x0*2 ^ (min (8:Int).toNat (IntKind.bits .u32)))) (IntKind.wrap .u32 x1)),IntKind.wrap .i64 (q3+1)))) else some (.brk (q2,q3))
def B3 (m:Nat) (y0:(List Int)) (q0:Int) (q1:Ar 64) (q2:Int):Option (Lp ((Ar 64)×Int) (Lp ((Ar 8)×Int) (bP))):=
 if (decide (q2 < 64))=true then (after (if (decide (q2 < 16))=true then (after (aW (λs=>B2 m y0 q0 q2 s.1 s.2) m (q1,0)) λ⟨r0,r1⟩=>some (.brk r0)) else (ix q1.1 (IntKind.wrap .i64 (q2 - 15))).bind λx0=>(ix q1.1 (IntKind.wrap .i64 (q2 - 2))).bind λx1=>(ix q1.1 (IntKind.wrap .i64 (q2 - 16))).bind λx2=>(ix q1.1 (IntKind.wrap .i64 (q2 - 7))).bind λx3=>(sJ m x0 7).bind λy1=>(sJ m x0 18).bind λy2=>(sJ m x1 17).bind λy3=>(sJ m x1 19).bind λy4=>(ix q1.1 q2).bind λ_=>some (.brk (P7 q1 q2.toNat (IntKind.wrap .u32 ((IntKind.wrap .u32 ((IntKind.wrap .u32 (x2+x3))+(cF .xor .u32 (cF .xor .u32 y1 y2) (x0.fdiv (2 ^ (min (3:Int).toNat (IntKind.bits .u32)))))))+(cF .xor .u32 (cF .xor .u32 y3 y4) (x1.fdiv (2 ^ (min (10:Int).toNat (IntKind.bits .u32))))))))):Option (Lp ((Ar 64)) (Lp ((Ar 64)×Int) (Lp ((Ar 8)×Int) (bP))))) λj0=>some (.go (j0,IntKind.wrap .i64 (q2+1)))) else some (.brk (q1,q2))
def B4 (m:Nat) (y6:(Ar 64)) (r0:Ar 64) (q0:Ar 8) (q1:Int):Option (Lp ((Ar 8)×Int) (Lp ((Ar 8)×Int) (bP))):=
 if (decide (q1 < 64))=true then ((ix q0.1 0).bind λx0=>(ix q0.1 4).bind λx1=>(ix q0.1 7).bind λx2=>(sJ m x1 6).bind λy0=>(sJ m x1 11).bind λy1=>(sJ m x1 25).bind λy2=>(ix q0.1 5).bind λx3=>(ix q0.1 6).bind λx4=>(ix y6.1 q1).bind λx5=>(ix r0.1 q1).bind λx6=>(sJ m x0 2).bind λy3=>(sJ m x0 13).bind λy4=>(sJ m x0 22).bind λy5=>(ix q0.1 1).bind λx7=>(ix q0.1 2).bind λx8=>(ix q0.1 1).bind λx9=>(ix q0.1 2).bind λx10=>(ix q0.1 0).bind λx11=>(ix q0.1 1).bind λx12=>(ix q0.1 2).bind λx13=>(ix q0.1 3).bind λx14=>(ix q0.1 4).bind λx15=>(ix q0.1 5).bind λx16=>(ix q0.1 6).bind λx17=>some (.go ((⟨[IntKind.wrap .u32 ((IntKind.wrap .u32 ((IntKind.wrap .u32 ((IntKind.wrap .u32 ((IntKind.wrap .u32 (x2+(cF .xor .u32 (cF .xor .u32 y0 y1) y2)))+(cF .xor .u32 (cF .and .u32 x1 x3) (cF .and .u32 (cF .xor .u32 (IntKind.max .u32) x1) x4))))+x5))+x6))+(IntKind.wrap .u32 ((cF .xor .u32 (cF .xor .u32 y3 y4) y5)+(cF .xor .u32 (cF .xor .u32 (cF .and .u32 x0 x7) (cF .and .u32 x0 x8)) (cF .and .u32 x9 x10))))),x11,x12,x13,IntKind.wrap .u32 (x14+(IntKind.wrap .u32 ((IntKind.wrap .u32 ((IntKind.wrap .u32 ((IntKind.wrap .u32 (x2+(cF .xor .u32 (cF .xor .u32 y0 y1) y2)))+(cF .xor .u32 (cF .and .u32 x1 x3) (cF .and .u32 (cF .xor .u32 (IntKind.max .u32) x1) x4))))+x5))+x6))),x15,x16,x17],rfl⟩:Ar 8),IntKind.wrap .i64 (q1+1)))) else some (.brk (q0,q1))
def B5 (m:Nat) (r0:Ar 8) (q0:Ar 8) (q1:Int):Option (Lp ((Ar 8)×Int) (Lp ((Ar 8)×Int) (bP))):=
 if (decide (q1 < 8))=true then ((ix q0.1 q1).bind λx0=>(ix r0.1 q1).bind λx1=>(ix q0.1 q1).bind λ_=>some (.go (P7 q0 q1.toNat (IntKind.wrap .u32 (x0+x1)),IntKind.wrap .i64 (q1+1)))) else some (.brk (q0,q1))
def B6 (m:Nat) (y6:(Ar 64)) (y0:(List Int)) (q0:Ar 8) (q1:Int):Option (Lp ((Ar 8)×Int) (bP)):=
 if (decide (q1 < (y0.length:Int)))=true then (after (aW (λs=>B3 m y0 q1 s.1 s.2) m ((T3 64),0)) λ⟨r0,r1⟩=>after (aW (λs=>B4 m y6 r0 s.1 s.2) m (q0,0)) λ⟨r2,r3⟩=>after (aW (λs=>B5 m r2 s.1 s.2) m (q0,0)) λ⟨r4,r5⟩=>some (.go (r4,IntKind.wrap .i64 (q1+64)))) else some (.brk (q0,q1))
def vP (m:Nat) (r0:Ar 8) (q0:bP) (q1:Int):Option (Lp (bP×Int) (bP)):=
 if (decide (q1 < 32))=true then ((ix r0.1 (IntKind.wrap .i64 (q1.tdiv 4))).bind λx0=>grd (decide (0≤(IntKind.wrap .u64 (IntKind.wrap .i64 (24 - (IntKind.wrap .i64 (8*(q1.tmod 4)))))))) <| (ix q0.1 q1).bind λ_=>some (.go (P7 q0 q1.toNat (IntKind.wrap .u8 (x0.fdiv (2 ^ (min ((IntKind.wrap .u64 (IntKind.wrap .i64 (24 - (IntKind.wrap .i64 (8*(q1.tmod 4)))))):Int).toNat (IntKind.bits .u32))))),IntKind.wrap .i64 (q1+1)))) else some (.brk (q0,q1))
def UF (m:Nat) (p0:List Int):Option (bP):=
 (TK m).bind λy6=>(MP m p0).bind λy0=>after (aW (λs=>B6 m y6 y0 s.1 s.2) m ((⟨[1779033703,3144134277,1013904242,2773480762,1359893119,2600822924,528734635,1541459225],rfl⟩:Ar 8),0)) λ⟨r0,r1⟩=>after (aW (λs=>vP m r0 s.1 s.2) m (jR,0)) λ⟨r2,r3⟩=>some r2
theorem W87 {w:Nat} {p0:List Int} {o:bP} (h:aE) (m:UF w p0=some o):
 aL Tryz.prog 87 [.sl none 1 (List.map dG p0)] h (λr h'=>r= .agg (bM o)∧h'=h):=by
 refine fY 208 [.cell 2 36] Tryz.func87 rfl rfl rfl rfl ?_
 unfold UF at m
 refine v (ve λu=>bI (bM jR) u IK rfl rfl λk2 K3=>qk K3 rfl (v (vk aEC ZD m rfl rfl λy6 m=>ve λu=>bI (dB (T3 64)) u KR rfl rfl λk8 K9=>qk K9 rfl (ve λu=>aJ 0 (dB y6) u rfl rfl rfl rfl QB rfl rfl λK0=>qk K0 rfl (v (bU (A1 [1779033703,3144134277,1013904242,2773480762,1359893119,2600822924,528734635,1541459225] rfl KT rfl rfl rfl) (ve λu=>bI (eD (T3 8)) u QC rfl rfl λk13 K1=>qk K1 rfl (ve λu=>aJ 0 (eD (⟨[1779033703,3144134277,1013904242,2773480762,1359893119,2600822924,528734635,1541459225],rfl⟩:Ar 8)) u rfl rfl rfl rfl KS rfl rfl λK2=>qk K2 rfl (v (vk aED ZE m rfl rfl λy0 m=>v (jT m (σ:=(Ar 8)×Int) (λs=> [(some k13,.obj 183 (eD s.1)),(some k8,.obj 181 (dB y6)),(some k2,.obj 36 (bM jR))]) (λs=>.c 2 (.ptr k2 0) (.c 3 (.ptr k8 0) (.c 4 (.ptr k13 0) (.c 5 (.sl none 1 (List.map dG y0)) (.c 6 (nZ s.2) .nil))))) (lx (.k5 .nil)) ?_ ?_)))))))))))
 rintro _ ⟨q0,q1⟩ x m
 replace m:B6 w y6 y0 q0 q1=some x:=m
 unfold B6 at m
 refine v (dL lK rfl (v ?_))
 apply vi m <;> intro c0 m
 refine v (v (v (ve λu=>bI (dB (T3 64)) u KR rfl rfl λk1783 K4=>qk K4 rfl (v (jT m (σ:=(Ar 64)×Int) (λs=> [(some k1783,.obj 181 (dB s.1)),(some k13,.obj 183 (eD q0)),(some k8,.obj 181 (dB y6)),(some k2,.obj 36 (bM jR))]) (λs=>.c 2 (.ptr k2 0) (.c 3 (.ptr k8 0) (.c 4 (.ptr k13 0) (.c 5 (.sl none 1 (List.map dG y0)) (.c 6 (nZ q1) (.c 7 (.ptr k1783 0) (.c 8 (nZ s.2) .nil))))))) (lx (.k7 .nil)) ?_ ?_)))))
 rintro _ ⟨q2,q3⟩ x m
 replace m:B3 w y0 q1 q2 q3=some x:=m
 unfold B3 at m
 refine v (v ?_)
 apply vi m <;> intro c1 m
 refine v (vs (fR m (σ:=(Ar 64)) (λs=> [(some k1783,.obj 181 (dB s)),(some k13,.obj 183 (eD q0)),(some k8,.obj 181 (dB y6)),(some k2,.obj 36 (bM jR))]) (λs=>.c 2 (.ptr k2 0) (.c 3 (.ptr k8 0) (.c 4 (.ptr k13 0) (.c 5 (.sl none 1 (List.map dG y0)) (.c 6 (nZ q1) (.c 7 (.ptr k1783 0) (.c 8 (nZ q3) .nil))))))) (λx m=> ?_) ?_))
 refine v (v (v ?_))
 apply vi m <;> intro c2 m
 refine v (jT m (σ:=(Ar 64)×Int) (λs=> [(some k1783,.obj 181 (dB s.1)),(some k13,.obj 183 (eD q0)),(some k8,.obj 181 (dB y6)),(some k2,.obj 36 (bM jR))]) (λs=>.c 2 (.ptr k2 0) (.c 3 (.ptr k8 0) (.c 4 (.ptr k13 0) (.c 5 (.sl none 1 (List.map dG y0)) (.c 6 (nZ q1) (.c 7 (.ptr k1783 0) (.c 8 (nZ q3) (.c 9 (nZ s.2) .nil)))))))) (lx (.k8 .nil)) ?_ ?_)
 rintro _ ⟨q4,q5⟩ x m
 replace m:B2 w y0 q1 q3 q4 q5=some x:=m
 unfold B2 at m
 refine v (v ?_)
 apply vi m <;> intro c3 m
 refine v (v (v (vz [(17,some k1783,.obj 181 (dB q4))] mixed (λu=>⟨λ_=>aI 0 u rfl,trivial⟩) λu=>zI 0 rfl rfl (zI 1 rfl rfl ?_))))
 obtain⟨x0,X0,m⟩:=aC m
 refine zC 2 rfl (eA (y:=q4) X0 rD rfl rfl) (uS 3 rfl (λ_ _ hi hB=>eL (y:=q4) 0 X0 hM rfl (At.s (fW.get 0 hi rfl (hB 17 (by kernel_rfl)))) (eM _)) (zC 4 rfl (RB rfl rfl rfl (by decide)) (zC 5 rfl (eT (.sl _ _ _) rfl) (zI 6 rfl rfl (zI 7 rfl rfl (zC 8 rfl (kX rfl rfl rfl trivial) (zC 9 rfl (kX rfl rfl rfl trivial) (zI 10 rfl rfl (zC 11 rfl (kX rfl rfl rfl trivial) ?_)))))))))
 obtain⟨x1,X1,m⟩:=aC m
 refine zC 12 rfl (oJ X1 KE rfl rfl) (zC 13 rfl (oY (.sc (.int .u8 x1)) EO rfl rfl) (zC 14 rfl (IB ti5 VQ rfl) (zC 15 rfl (kX rfl rfl rfl trivial) ?_)))
 obtain⟨_,X2,m⟩:=aC m
 refine zC 16 rfl (eA (y:=q4) X2 rD rfl rfl) (zE 17 rfl (uZ (y:=q4) (v:=cF .or .u32 (IntKind.wrap .u32 (x0*2 ^ (min (8:Int).toNat (IntKind.bits .u32)))) (IntKind.wrap .u32 x1)) 0 u X2 rfl rfl rfl KP λK5=>⟨⟨λe=>absurd e (by decide),trivial⟩, ?_⟩))
 exact zX (qk (f:=uT 57 _ _ _ _ _ _ _ _ _ _ _ _ _ _ _ _ _ _) K5 rfl (v (KC m)))
 exact v (bq8 m)
 rintro _ ⟨r0,r1⟩ m
 exact v (A6 m)
 refine v (v (vq (by kernel_rfl) ?_))
 obtain⟨x2,X3,m⟩:=aC m
 refine bU (eA (y:=q2) X3 rD rfl rfl) (vn (λu=>eL (y:=q2) 0 X3 hM rfl (a8 0 u rfl) (eM _)) ?_)
 obtain⟨x3,X4,m⟩:=aC m
 refine bU (eA (y:=q2) X4 rD rfl rfl) (vn (λu=>eL (y:=q2) 0 X4 hM rfl (a8 0 u rfl) (eM _)) (v (vz [(29,some k1783,.obj 181 (dB q2))] mixed (λu=>⟨λ_=>aI 0 u rfl,trivial⟩) λu=>zI 0 rfl rfl (zI 1 rfl rfl (zC 2 rfl (kX rfl rfl rfl trivial) ?_)))))
 obtain⟨x4,X5,m⟩:=aC m
 refine zC 3 rfl (eA (y:=q2) X5 rD rfl rfl) (uS 4 rfl (λ_ _ hi hB=>eL (y:=q2) 0 X5 hM rfl (At.s (fW.get 0 hi rfl (hB 29 (by kernel_rfl)))) (eM _)) (zI 5 rfl rfl (zC 6 rfl (kX rfl rfl rfl trivial) ?_)))
 obtain⟨x5,X6,m⟩:=aC m
 refine zC 7 rfl (eA (y:=q2) X6 rD rfl rfl) (uS 8 rfl (λ_ _ hi hB=>eL (y:=q2) 0 X6 hM rfl (At.s (fW.get 0 hi rfl (hB 29 (by kernel_rfl)))) (eM _)) (zC 9 rfl (kX rfl rfl rfl trivial) (zI 10 rfl rfl ?_)))
 obtain⟨y1,Y0,m⟩:=aC m
 refine zC 11 rfl (bY (yK _ Y0) rfl pX rfl) (zI 12 rfl rfl ?_)
 obtain⟨y2,Y1,m⟩:=aC m
 refine zC 13 rfl (bY (yK _ Y1) rfl pX rfl) (zC 14 rfl (kX rfl rfl rfl trivial) (zI 15 rfl rfl (zC 16 rfl (RB rfl rfl rfl (by decide)) (zC 17 rfl (kX rfl rfl rfl trivial) (zC 18 rfl (kX rfl rfl rfl trivial) (zI 19 rfl rfl ?_))))))
 obtain⟨y3,Y2,m⟩:=aC m
 refine zC 20 rfl (bY (yK _ Y2) rfl pX rfl) (zI 21 rfl rfl ?_)
 obtain⟨y4,Y3,m⟩:=aC m
 refine zC 22 rfl (bY (yK _ Y3) rfl pX rfl) (zC 23 rfl (kX rfl rfl rfl trivial) (zI 24 rfl rfl (zC 25 rfl (RB rfl rfl rfl (by decide)) (zC 26 rfl (kX rfl rfl rfl trivial) (zC 27 rfl (kX rfl rfl rfl trivial) ?_)))))
 obtain⟨_,X7,m⟩:=aC m
 refine zC 28 rfl (eA (y:=q2) X7 rD rfl rfl) (zE 29 rfl (uZ (y:=q2) (v:=IntKind.wrap .u32 ((IntKind.wrap .u32 ((IntKind.wrap .u32 (x4+x5))+(cF .xor .u32 (cF .xor .u32 y1 y2) (x2.fdiv (2 ^ (min (3:Int).toNat (IntKind.bits .u32)))))))+(cF .xor .u32 (cF .xor .u32 y3 y4) (x3.fdiv (2 ^ (min (10:Int).toNat (IntKind.bits .u32))))))) 0 u X7 rfl rfl rfl KP λK6=>⟨⟨λe=>absurd e (by decide),trivial⟩, ?_⟩))
 exact zX (qk (f:=aA5 94 _ _ _ _ _ _ _ _ _ _ _ _ _ _ _ _ _ _ _ _ _ _ _ _ _ _ _ _ _ _) K6 rfl (A6 m))
 rintro _ j0 m
 exact v (A6 m)
 exact v (bq7 m)
 rintro _ ⟨r2,r3⟩ m
 refine v (vl 1 (.agg (eD q0)) VT rfl rfl rfl (ve λu=>bI (eD (T3 8)) u QC rfl rfl λk2413 K7=>qk K7 rfl (ve λu=>aJ 0 (eD q0) u rfl rfl rfl rfl KS rfl rfl λK8=>qk K8 rfl (v (jT m (σ:=(Ar 8)×Int) (λs=> [(some k2413,.obj 183 (eD s.1)),(some k1783,.obj 181 (dB r2)),(some k13,.obj 183 (eD q0)),(some k8,.obj 181 (dB y6)),(some k2,.obj 36 (bM jR))]) (λs=>.c 2 (.ptr k2 0) (.c 3 (.ptr k8 0) (.c 4 (.ptr k13 0) (.c 5 (.sl none 1 (List.map dG y0)) (.c 6 (nZ q1) (.c 7 (.ptr k1783 0) (.c 12 (.ptr k2413 0) (.c 13 (nZ s.2) .nil)))))))) (lx (.k8 .nil)) ?_ ?_)))))
 rintro _ ⟨q6,q7⟩ x m
 replace m:B4 w y6 r2 q6 q7=some x:=m
 unfold B4 at m
 refine v (v ?_)
 apply vi m <;> intro c4 m
 refine v (v (v (vq (by kernel_rfl) ?_)))
 obtain⟨x6,X8,m⟩:=aC m
 refine bU (eA (y:=q6) X8 jS rfl rfl) (vn (λu=>eL (y:=q6) 0 X8 hM rfl (a8 0 u rfl) (eM _)) ?_)
 obtain⟨x7,X9,m⟩:=aC m
 refine bU (eA (y:=q6) X9 jS rfl rfl) (vn (λu=>eL (y:=q6) 0 X9 hM rfl (a8 0 u rfl) (eM _)) (v (vq (by kernel_rfl) ?_)))
 obtain⟨x8,X10,m⟩:=aC m
 refine bU (eA (y:=q6) X10 jS rfl rfl) (vn (λu=>eL (y:=q6) 0 X10 hM rfl (a8 0 u rfl) (eM _)) (vk yK pX m rfl rfl λy5 m=>vk yK pX m rfl rfl λy7 m=>vk yK pX m rfl rfl λy8 m=> ?_))
 obtain⟨x9,X11,m⟩:=aC m
 refine bU (eA (y:=q6) X11 jS rfl rfl) (vn (λu=>eL (y:=q6) 0 X11 hM rfl (a8 0 u rfl) (eM _)) (bU (U6 rfl rfl) ?_))
 obtain⟨x10,X12,m⟩:=aC m
 refine bU (eA (y:=q6) X12 jS rfl rfl) (vn (λu=>eL (y:=q6) 0 X12 hM rfl (a8 0 u rfl) (eM _)) ?_)
 obtain⟨x11,X13,m⟩:=aC m
 refine bU (eA (y:=y6) X13 rD rfl rfl) (vn (λu=>eL (y:=y6) 0 X13 hM rfl (a8 3 u rfl) (eM _)) ?_)
 obtain⟨x12,X14,m⟩:=aC m
 refine bU (eA (y:=r2) X14 rD rfl rfl) (vn (λu=>eL (y:=r2) 0 X14 hM rfl (a8 1 u rfl) (eM _)) (v (vq (by kernel_rfl) (vk yK pX m rfl rfl λy9 m=>vk yK pX m rfl rfl λy10 m=>vk yK pX m rfl rfl λy11 m=> ?_))))
 obtain⟨x13,X15,m⟩:=aC m
 refine bU (eA (y:=q6) X15 jS rfl rfl) (vn (λu=>eL (y:=q6) 0 X15 hM rfl (a8 0 u rfl) (eM _)) ?_)
 obtain⟨x14,X16,m⟩:=aC m
 refine bU (eA (y:=q6) X16 jS rfl rfl) (vn (λu=>eL (y:=q6) 0 X16 hM rfl (a8 0 u rfl) (eM _)) ?_)
 obtain⟨x15,X17,m⟩:=aC m
 refine bU (eA (y:=q6) X17 jS rfl rfl) (vn (λu=>eL (y:=q6) 0 X17 hM rfl (a8 0 u rfl) (eM _)) ?_)
 obtain⟨x16,X18,m⟩:=aC m
 refine bU (eA (y:=q6) X18 jS rfl rfl) (vn (λu=>eL (y:=q6) 0 X18 hM rfl (a8 0 u rfl) (eM _)) (v ?_))
 obtain⟨x17,X19,m⟩:=aC m
 refine bU (eA (y:=q6) X19 jS rfl rfl) (vn (λu=>eL (y:=q6) 0 X19 hM rfl (a8 0 u rfl) (eM _)) ?_)
 obtain⟨x18,X20,m⟩:=aC m
 refine bU (eA (y:=q6) X20 jS rfl rfl) (vn (λu=>eL (y:=q6) 0 X20 hM rfl (a8 0 u rfl) (eM _)) ?_)
 obtain⟨x19,X21,m⟩:=aC m
 refine bU (eA (y:=q6) X21 jS rfl rfl) (vn (λu=>eL (y:=q6) 0 X21 hM rfl (a8 0 u rfl) (eM _)) ?_)
 obtain⟨x20,X22,m⟩:=aC m
 refine bU (eA (y:=q6) X22 jS rfl rfl) (vn (λu=>eL (y:=q6) 0 X22 hM rfl (a8 0 u rfl) (eM _)) ?_)
 obtain⟨x21,X23,m⟩:=aC m
 refine bU (eA (y:=q6) X23 jS rfl rfl) (vn (λu=>eL (y:=q6) 0 X23 hM rfl (a8 0 u rfl) (eM _)) ?_)
 obtain⟨x22,X24,m⟩:=aC m
 refine bU (eA (y:=q6) X24 jS rfl rfl) (vn (λu=>eL (y:=q6) 0 X24 hM rfl (a8 0 u rfl) (eM _)) ?_)
 obtain⟨x23,X25,m⟩:=aC m
 refine bU (eA (y:=q6) X25 jS rfl rfl) (vn (λu=>eL (y:=q6) 0 X25 hM rfl (a8 0 u rfl) (eM _)) (bU (A1 [IntKind.wrap .u32 ((IntKind.wrap .u32 ((IntKind.wrap .u32 ((IntKind.wrap .u32 ((IntKind.wrap .u32 (x8+(cF .xor .u32 (cF .xor .u32 y5 y7) y8)))+(cF .xor .u32 (cF .and .u32 x7 x9) (cF .and .u32 (cF .xor .u32 (IntKind.max .u32) x7) x10))))+x11))+x12))+(IntKind.wrap .u32 ((cF .xor .u32 (cF .xor .u32 y9 y10) y11)+(cF .xor .u32 (cF .xor .u32 (cF .and .u32 x6 x13) (cF .and .u32 x6 x14)) (cF .and .u32 x15 x16))))),x17,x18,x19,IntKind.wrap .u32 (x20+(IntKind.wrap .u32 ((IntKind.wrap .u32 ((IntKind.wrap .u32 ((IntKind.wrap .u32 (x8+(cF .xor .u32 (cF .xor .u32 y5 y7) y8)))+(cF .xor .u32 (cF .and .u32 x7 x9) (cF .and .u32 (cF .xor .u32 (IntKind.max .u32) x7) x10))))+x11))+x12))),x21,x22,x23] rfl KT rfl rfl rfl) (ve λu=>aJ 0 (eD (⟨[IntKind.wrap .u32 ((IntKind.wrap .u32 ((IntKind.wrap .u32 ((IntKind.wrap .u32 ((IntKind.wrap .u32 (x8+(cF .xor .u32 (cF .xor .u32 y5 y7) y8)))+(cF .xor .u32 (cF .and .u32 x7 x9) (cF .and .u32 (cF .xor .u32 (IntKind.max .u32) x7) x10))))+x11))+x12))+(IntKind.wrap .u32 ((cF .xor .u32 (cF .xor .u32 y9 y10) y11)+(cF .xor .u32 (cF .xor .u32 (cF .and .u32 x6 x13) (cF .and .u32 x6 x14)) (cF .and .u32 x15 x16))))),x17,x18,x19,IntKind.wrap .u32 (x20+(IntKind.wrap .u32 ((IntKind.wrap .u32 ((IntKind.wrap .u32 ((IntKind.wrap .u32 (x8+(cF .xor .u32 (cF .xor .u32 y5 y7) y8)))+(cF .xor .u32 (cF .and .u32 x7 x9) (cF .and .u32 (cF .xor .u32 (IntKind.max .u32) x7) x10))))+x11))+x12))),x21,x22,x23],rfl⟩:Ar 8)) u rfl rfl rfl rfl KS rfl rfl λK10=>qk K10 rfl ?_)))
 exact v (KC m)
 exact v (bq8 m)
 rintro _ ⟨r4,r5⟩ m
 refine v (jT m (σ:=(Ar 8)×Int) (λs=> [(some k2413,.obj 183 (eD r4)),(some k1783,.obj 181 (dB r2)),(some k13,.obj 183 (eD s.1)),(some k8,.obj 181 (dB y6)),(some k2,.obj 36 (bM jR))]) (λs=>.c 2 (.ptr k2 0) (.c 3 (.ptr k8 0) (.c 4 (.ptr k13 0) (.c 5 (.sl none 1 (List.map dG y0)) (.c 6 (nZ q1) (.c 12 (.ptr k2413 0) (.c 18 (nZ s.2) .nil))))))) (lx (.k7 .nil)) ?_ ?_)
 rintro _ ⟨q8,q9⟩ x m
 replace m:B5 w r4 q8 q9=some x:=m
 unfold B5 at m
 refine v (v ?_)
 apply vi m <;> intro c5 m
 refine v (v (v (vz [(8,some k13,.obj 183 (eD q8)),(1000000,some k2413,.obj 183 (eD r4))] mixed (λu=>⟨λ_=>aI 2 u rfl,λ_=>aI 0 u rfl,trivial⟩) λu=>zI 0 rfl rfl ?_)))
 obtain⟨x24,X26,m⟩:=aC m
 refine zC 1 rfl (eA (y:=q8) X26 jS rfl rfl) (uS 2 rfl (λ_ _ hi hB=>eL (y:=q8) 0 X26 hM rfl (At.s (fW.get 0 hi rfl (hB 8 (by kernel_rfl)))) (eM _)) (zI 3 rfl rfl ?_))
 obtain⟨x25,X27,m⟩:=aC m
 refine zC 4 rfl (eA (y:=r4) X27 jS rfl rfl) (uS 5 rfl (λ_ _ hi hB=>eL (y:=r4) 0 X27 hM rfl (At.s (fW.get 1 hi rfl (hB 1000000 (by kernel_rfl)))) (eM _)) (zC 6 rfl (kX rfl rfl rfl trivial) ?_))
 obtain⟨_,X28,m⟩:=aC m
 refine zC 7 rfl (eA (y:=q8) X28 jS rfl rfl) (zE 8 rfl (uZ (y:=q8) (v:=IntKind.wrap .u32 (x24+x25)) 2 u X28 rfl rfl rfl KP λK12=>⟨⟨λe=>absurd e (by decide),λ_=>aI 0 K12 rfl,trivial⟩, ?_⟩))
 exact zX (qk (f:=RO 189 _ _ _ _ _ _ _ _ _) K12 rfl (v (A6 m)))
 exact v (bq7 m)
 rintro _ ⟨r6,r7⟩ m
 exact v (A3 m (l4 [2,3,4] rfl rfl (.k5 .nil)))
 exact v (VB m)
 rintro _ ⟨r8,r9⟩ m
 refine v (ve λu=>bI (bM jR) u IK rfl rfl λk2657 K13=>qk K13 rfl (v (jT m (σ:=bP×Int) (λs=> [(some k2657,.obj 36 (bM s.1)),(some k13,.obj 183 (eD r8)),(some k8,.obj 181 (dB y6)),(some k2,.obj 36 (bM jR))]) (λs=>.c 2 (.ptr k2 0) (.c 4 (.ptr k13 0) (.c 19 (.ptr k2657 0) (.c 20 (nZ s.2) .nil)))) (lx (.k4 .nil)) ?_ ?_)))
 rintro _ ⟨q10,q11⟩ x m
 replace m:vP w r8 q10 q11=some x:=m
 unfold vP at m
 refine v (v ?_)
 apply vi m <;> intro c6 m
 refine v (v (v ?_))
 obtain⟨x26,X29,m⟩:=aC m
 refine bU (eA (y:=r8) X29 jS rfl rfl) (vn (λu=>eL (y:=r8) 0 X29 hM rfl (a8 1 u rfl) (eM _)) (RT m λ_ m=> ?_))
 obtain⟨_,X30,m⟩:=aC m
 exact bU (lT X30 rC rfl rfl) (ve λu=>uZ (y:=q10) (v:=IntKind.wrap .u8 (x26.fdiv (2 ^ (min ((IntKind.wrap .u64 (IntKind.wrap .i64 (24 - (IntKind.wrap .i64 (8*(q11.tmod 4)))))):Int).toNat (IntKind.bits .u32))))) 0 u X30 rfl rfl rfl sz5 λK15=>qk K15 rfl (v (hD m)))
 exact v (u0 m)
 rintro _ ⟨r10,r11⟩ m
 refine v (vl 0 (.agg (bM r10)) fZ rfl rfl rfl (ve λu=>aJ 3 (bM r10) u rfl rfl rfl rfl IJ rfl rfl λK17=>qk K17 rfl (v ?_)))
 obtain rfl:=eY m
 exact vr λu=>dV.of1 (.inl rfl) (pU (.agg (bM r10)) fZ rfl (a8 3 u rfl) rfl) (aR (List.nil_sublist _) u).1 (bE.refl _ _) ⟨rfl,rfl⟩
theorem ZF:aO Tryz.prog 87=true:=by kernel_rfl
open Go.Vm
def vQ (m:Nat) (p0:List dQ) (q0:Int):Option (Lp (Int) (Int)):=
 if (decide (q0 < (p0.length:Int)))=true then (after ((ix p0 q0).bind λx0=>(BJ m x0.Path).bind λy0=>if (!y0)=true then (some (.brk true)) else if (decide (0 < q0))=true then ((ix p0 q0).bind λx1=>(ix p0 (IntKind.wrap .i64 (q0 - 1))).bind λx2=>some (.brk (Op.bytesLess x1.Path.toList x2.Path.toList || x1.Path.toList==x2.Path.toList))) else some (.brk false):Option (Lp (Bool) (Lp (Int) (Int)))) λj0=>if j0=true then (some (.ret 1)) else some (.go (IntKind.wrap .i64 (q0+1)))) else some (.brk q0)
def MQ (m:Nat) (p0:List dQ):Option (Int):=
 (I8 m p0).bind λy4=>if y4=true then (some 2) else after (aW (λs=>vQ m p0 s) m 0) λr0=>some 0
theorem aEE {u:Nat} {p0:List dQ} {o:Int} (h:aE) (m:MQ u p0=some o):
 aL Tryz.prog 142 [.sl none 2 (List.map eQ p0)] h (λr h'=>r=nZ o∧h'=h):=by
 refine fY 37 [.tmp 2] Tryz.func142 rfl rfl rfl rfl ?_
 unfold MQ at m
 refine v (v (vk ZB Q0 m rfl rfl λ_ m=>v ?_))
 apply vi m <;> intro c6 m
 refine v (v ?_)
 obtain rfl:=eY m
 exact eK rfl
 refine v (v (jT m (σ:=Int) (λs=> []) (λs=>.c 0 (.sl none 2 (List.map eQ p0)) (.c 3 (nZ s) .nil)) (lx (.k2 .nil)) ?_ ?_))
 rintro _ q0 x m
 replace m:vQ u p0 q0=some x:=m
 unfold vQ at m
 refine v (dL yC rfl (v ?_))
 apply vi m <;> intro c0 m
 refine v (v (vs (fR m (σ:=Bool) (λs=> []) (λs=>.c 0 (.sl none 2 (List.map eQ p0)) (.c 3 (nZ q0) (.c 36 (.sc (.bool s)) .nil))) (λx m=> ?_) ?_)))
 refine v (vq (by kernel_rfl) (vx m oP rfl rfl λ_ _ m=>vk KZ DM m rfl rfl λ_ m=> ?_))
 apply vi m <;> intro b0 m
 rw[b0]
 exact gW m
 rw[b0]
 apply vi m <;> intro b1 m
 rw[b1]
 exact vx m oP rfl rfl λ_ _ m=>vx m oP rfl rfl λ_ _ m=>bU (AH rfl rfl rfl trivial) (gW m)
 rw[b1]
 exact gW m
 rintro _ j0 m
 refine v ?_
 apply vi m <;> intro c1 m
 refine v (v (gO m λm=> ?_))
 obtain rfl:=eY m
 exact eK rfl
 exact v (v (qA m))
 exact v (NN m)
 rintro _ r0 m
 refine v (v ?_)
 obtain rfl:=eY m
 exact eK rfl
theorem ZG:aO Tryz.prog 142=true:=by kernel_rfl
def vR (m:Nat) (p0:List Int) (q0:Int) (q1:Int):Option (Lp (Int×Int) (Int)):=
 if (decide (q1 < (p0.length:Int)))=true then ((ix p0 q1).bind λx0=>after (if (decide (8≤(IntKind.wrap .i64 (q1+1))))=true then (if (((IntKind.wrap .u32 ((IntKind.wrap .u32 (q0*2))+(IntKind.wrap .u32 ((IntKind.wrap .u32 ((IntKind.wrap .u32 x0)+1))*2654435761)))).fdiv (2 ^ (min (28:Int).toNat (IntKind.bits .u32))))==0)=true then (some (.brk true)) else some (.brk ((IntKind.wrap .i64 (q1+1))==64))) else some (.brk ((IntKind.wrap .i64 (q1+1))==64)):Option (Lp (Bool) (Lp (Int×Int) (Int)))) λj0=>if j0=true then (some (.ret (IntKind.wrap .i64 (q1+1)))) else some (.go (IntKind.wrap .u32 ((IntKind.wrap .u32 (q0*2))+(IntKind.wrap .u32 ((IntKind.wrap .u32 ((IntKind.wrap .u32 x0)+1))*2654435761))),IntKind.wrap .i64 (q1+1)))) else some (.brk (q0,q1))
def MR (m:Nat) (p0:List Int):Option (Int):=
 after (aW (λs=>vR m p0 s.1 s.2) m (0,0)) λ⟨r0,r1⟩=>some (p0.length:Int)
theorem aEF {u:Nat} {p0:List Int} {o:Int} (h:aE) (m:MR u p0=some o):
 aL Tryz.prog 184 [.sl none 1 (List.map dG p0)] h (λr h'=>r=nZ o∧h'=h):=by
 refine fY 38 [.tmp 2] Tryz.func184 rfl rfl rfl rfl ?_
 unfold MR at m
 refine v (v (v (jT m (σ:=Int×Int) (λs=> []) (λs=>.c 0 (.sl none 1 (List.map dG p0)) (.c 3 (.sc (.int .u32 s.1)) (.c 4 (nZ s.2) .nil))) (lx (.k3 .nil)) ?_ ?_)))
 rintro _ ⟨q0,q1⟩ x m
 replace m:vR u p0 q0 q1=some x:=m
 unfold vR at m
 refine v (dL lK rfl (v ?_))
 apply vi m <;> intro c0 m
 refine v (v (v (vx m KE rfl rfl λx0 _ m=>vs (fR m (σ:=Bool) (λs=> []) (λs=>.c 0 (.sl none 1 (List.map dG p0)) (.c 3 (.sc (.int .u32 (IntKind.wrap .u32 ((IntKind.wrap .u32 (q0*2))+(IntKind.wrap .u32 ((IntKind.wrap .u32 ((IntKind.wrap .u32 x0)+1))*2654435761)))))) (.c 4 (nZ q1) (.c 33 (.sc (.bool s)) .nil)))) (λx m=> ?_) ?_))))
 refine v ?_
 apply vi m <;> intro b0 m
 rw[b0]
 apply vi m <;> intro b1 m
 rw[b1]
 exact hD m
 rw[b1]
 exact hD m
 rw[b0]
 exact hD m
 rintro _ j0 m
 refine v ?_
 apply vi m <;> intro c1 m
 refine v (v (gO m λm=> ?_))
 cases m
 exact eK rfl
 exact v (v (gW m))
 exact v (G4 m)
 rintro _ ⟨r0,r1⟩ m
 refine v (dL lK rfl (v ?_))
 cases m
 exact eK rfl
theorem ZH:aO Tryz.prog 184=true:=by kernel_rfl
def vS (m:Nat) (q0:List (List Int)) (q1:List Int):Option (Lp ((List (List Int))×(List Int)) ((List (List Int)))):=
 if (decide (0 < (q1.length:Int)))=true then ((MR m q1).bind λy0=>(slc q1 0 y0).bind λx0=>(yJ m x0).bind λy1=>(app q0 ([y1]:List (List Int))).bind λz0=>(slc q1 y0 (q1).length).bind λx1=>some (.go (z0,x1))) else some (.brk (q0,q1))
def MS (m:Nat) (p0:List Int):Option ((List (List Int))):=
 after (aW (λs=>vS m s.1 s.2) m ([],p0)) λ⟨r0,r1⟩=>some r0
theorem aEG {w:Nat} {p0:List Int} {o:(List (List Int))} (h:aE) (m:MS w p0=some o):
 aL Tryz.prog 143 [.sl none 1 (List.map dG p0)] h (λr h'=>r= .sl none 1 (List.map gX o)∧h'=h):=by
 refine fY 21 [.tmp 2] Tryz.func143 rfl rfl rfl rfl ?_
 unfold MS at m
 refine v (v (vs (pJ (EN (.tok 41 1 (([]:List (List Int)).length*1)) 3 (ow none 1 (List.map gX [])) (iZ _ _)) (m5 m (σ:=(List (List Int))×(List Int)) (τ:=Option cB) (λg s=> [(g,.tok 41 1 ((s.1:List (List Int)).length*1))]) (λg s=>(g=none→s.1= [])) (λg s=>.c 0 (.sl none 1 (List.map dG s.2)) (.c 3 (ow g 1 (List.map gX s.1)) .nil)) none (λ_=>rfl) (lx (.k2 .nil)) ?_ ?_))))
 rintro tg0 ⟨q0,q1⟩ x t0 m
 replace m:vS w q0 q1=some x:=m
 unfold vS at m
 refine v (dL lK rfl (v ?_))
 apply vi m <;> intro c0 m
 refine v (v (v (vk aEF ZH m rfl rfl λ_ m=>v ?_)))
 obtain⟨_,X0,m⟩:=aC m
 refine bU (o0 X0 KE rfl rfl rfl rfl) (vk LK DT m rfl rfl λy0 m=>bU (eI (List.map gX ([y0]:List (List Int))) zK rfl rfl rfl rfl) ?_)
 obtain⟨z0,Z0,m⟩:=aC m
 refine ve λu=>fB (c:=gX) 0 Z0 zK rfl rfl rfl t0 u rfl λtg1 t1 K0=>qk K0 rfl (v ?_)
 obtain⟨_,X1,m⟩:=aC m
 exact bU (o0 X1 KE rfl rfl rfl rfl) (eR m tg1 t1 (lx (.k2 .nil)))
 exact v (kT m tg0 t0 (lx (.k2 .nil)))
 rintro tg2 ⟨r0,r1⟩ t2 m
 refine v (v ?_)
 obtain rfl:=eY m
 exact vr λu=>dV.of1 (.inl rfl) (fP _ _ (ow _ _ _) rfl) (aR (List.nil_sublist _) u).1 ((eS _ 0 t2 u rfl)) ⟨rfl,rfl⟩
theorem ZI:aO Tryz.prog 143=true:=by kernel_rfl
def B7 (m:Nat) (y0:(List (List Int))) (q0:List bP) (q1:List (List Int)) (q2:List bP) (q3:Int):Option (Lp ((List bP)×(List (List Int))×(List bP)×Int) (Lp ((List dH)×(List (List Int))×(List bP)×Int) (bF×(List (List Int))×Int))):=
 if (decide (q3 < (y0.length:Int)))=true then ((ix y0 q3).bind λx0=>(UF m x0).bind λy1=>(app q0 ([y1]:List bP)).bind λz0=>(DN m q2 y1).bind λy2=>after (if y2.2.2=true then ((slc q1 0 y2.2.1).bind λx1=>(ix y0 q3).bind λx2=>(app ([]:List (List Int)) x1).bind λz1=>(app z1 ([x2]:List (List Int))).bind λz2=>(slc q1 y2.2.1 (q1.length:Int)).bind λx3=>(app z2 x3).bind λz3=>some (.brk z3)) else some (.brk q1):Option (Lp ((List (List Int))) (Lp ((List bP)×(List (List Int))×(List bP)×Int) (Lp ((List dH)×(List (List Int))×(List bP)×Int) (bF×(List (List Int))×Int))))) λj0=>some (.go (z0,j0,y2.1,IntKind.wrap .i64 (q3+1)))) else some (.brk (q0,q1,q2,q3))
def B8 (m:Nat) (p1:List dQ) (q0:List dH) (q1:List (List Int)) (q2:List bP) (q3:Int):Option (Lp ((List dH)×(List (List Int))×(List bP)×Int) (bF×(List (List Int))×Int)):=
 if (decide (q3 < (p1.length:Int)))=true then ((ix p1 q3).bind λx0=>(ix p1 q3).bind λx1=>(ix p1 q3).bind λx2=>(MS m x2.Data).bind λy0=>after (aW (λs=>B7 m y0 s.1 s.2.1 s.2.2.1 s.2.2.2) m ([],q1,q2,0)) λ⟨r0,r1,r2,r3⟩=>(app q0 ([({ Path:=x0.Path,Size:=(x1.Data.length:Int),Ids:=r0}:dH)]:List dH)).bind λz0=>some (.go (z0,r1,r2,IntKind.wrap .i64 (q3+1)))) else some (.brk (q0,q1,q2,q3))
def ZJ (m:Nat) (p0:ByteArray) (p1:List dQ):Option (bF×(List (List Int))×Int):=
 (BJ m p0).bind λy7=>if (!y7)=true then (some (({ Name:=ByteArray.empty,Parts:= []}:bF), [],1)) else (MQ m p1).bind λy0=>if (y0 !=0)=true then (some (({ Name:=ByteArray.empty,Parts:= []}:bF), [],y0)) else after (aW (λs=>B8 m p1 s.1 s.2.1 s.2.2.1 s.2.2.2) m ([], [], [],0)) λ⟨r0,r1,r2,r3⟩=>some (({ Name:=p0,Parts:=r0}:bF),r1,0)
theorem W86 {w:Nat} {p0:ByteArray} {p1:List dQ} {o:bF×(List (List Int))×Int} (h:aE) (m:ZJ w p0 p1=some o):
 aL Tryz.prog 86 [.sc (.string p0),.sl none 2 (List.map eQ p1)] h (λr h'=>r= .tup [.agg (bH o.1),.sl none 1 (List.map gX o.2.1),nZ o.2.2]∧h'=h):=by
 refine fY 106 [.cell 4 58,.tmp 5,.tmp 6] Tryz.func86 rfl rfl rfl rfl ?_
 unfold ZJ at m
 refine v (ve λu=>bI ([.sc (.string ByteArray.empty),sZ]) u KH rfl rfl λk2 K3=>qk K3 rfl (v (vk KZ DM m rfl rfl λ_ m=>v ?_)))
 apply vi m <;> intro c9 m
 refine v (bU (fF ([.sc (.string ByteArray.empty),sZ]) OO rfl) (ve λu=>aJ 0 ([.sc (.string ByteArray.empty),sZ]) u rfl rfl rfl rfl yB rfl rfl λK0=>qk K0 rfl (v ?_)))
 cases m
 exact vr λu=>dV.of3 (.inl rfl) (pU (.agg ([.sc (.string ByteArray.empty),sZ])) m8 rfl (a8 0 u rfl) rfl) (fP _ _ (.sc (.slice _ _ _)) rfl) (fP _ _ (.sc (.int _ _)) rfl) (aR (List.nil_sublist _) u).1 (bE.agg (.cons (bE.refl _ _) (.cons (aV _) .nil))) (aV _) (bE.refl _ _) ⟨rfl,rfl⟩
 refine v (v (vk aEE ZG m rfl rfl λ_ m=>v (v ?_)))
 apply vi m <;> intro c0 m
 refine v (bU (fF ([.sc (.string ByteArray.empty),sZ]) OO rfl) (ve λu=>aJ 0 ([.sc (.string ByteArray.empty),sZ]) u rfl rfl rfl rfl yB rfl rfl λK1=>qk K1 rfl (v ?_)))
 cases m
 exact vr λu=>dV.of3 (.inl rfl) (pU (.agg ([.sc (.string ByteArray.empty),sZ])) m8 rfl (a8 0 u rfl) rfl) (fP _ _ (.sc (.slice _ _ _)) rfl) (fP _ _ (.sc (.int _ _)) rfl) (aR (List.nil_sublist _) u).1 (bE.agg (.cons (bE.refl _ _) (.cons (aV _) .nil))) (aV _) (bE.refl _ _) ⟨rfl,rfl⟩
 refine v (v (bU (fF ([.sc (.string p0),sZ]) OO rfl) (ve λu=>bI ([.sc (.string ByteArray.empty),sZ]) u KH rfl rfl λk21 K2=>qk K2 rfl (ve λu=>aJ 0 ([.sc (.string p0),sZ]) u rfl rfl rfl rfl yB rfl rfl λK4=>qk K4 rfl (v (v (v (pJ (EN (.tok 41 1 (([]:List (List Int)).length*1)) 10 (ow none 1 (List.map gX [])) (iZ _ _)) (pJ (VA (.tok 70 3 (([]:List dH).length*3)) 2 ([.sc (.string p0),ow none 3 (List.map bX [])]) rfl (.cons (bE.refl _ _) (.cons (iZ (c:=bX) _ 3) .nil))) (m5 m (σ:=(List dH)×(List (List Int))×(List bP)×Int) (τ:=Option cB×Option cB) (λg s=> [(g.1,.tok 70 3 ((s.1:List dH).length*3)),(g.2,.tok 41 1 ((s.2.1:List (List Int)).length*1)),(some k21,.obj 58 ([.sc (.string p0),ow g.1 3 (List.map bX s.1)])),(some k2,.obj 58 ([.sc (.string ByteArray.empty),sZ]))]) (λg s=>(g.1=none→s.1= [])∧(g.2=none→s.2.1= [])) (λg s=>.c 1 (.sl none 2 (List.map eQ p1)) (.c 4 (.ptr k2 0) (.c 8 (.ptr k21 0) (.c 9 (.sl none 32 (List.map bM s.2.2.1)) (.c 10 (ow g.2 1 (List.map gX s.2.1)) (.c 11 (nZ s.2.2.2) .nil)))))) (none,none) (⟨(λ_=>rfl),(λ_=>rfl)⟩) (lx (.k3 (.cons (aV _) (.k2 .nil)))) ?_ ?_))))))))))
 rintro⟨tg0,tg1⟩ ⟨q0,q1,q2,q3⟩ x ⟨t0,t1⟩ m
 replace m:B8 w p1 q0 q1 q2 q3=some x:=m
 unfold B8 at m
 refine v (dL yC rfl (v ?_))
 apply vi m <;> intro c1 m
 refine v (v (v (vz [] mixed (λu=>trivial) λu=>zC 0 rfl (eT (.sl _ _ _) rfl) (zI 1 rfl rfl ?_))))
 obtain⟨x0,X0,m⟩:=aC m
 refine zC 2 rfl (oJ X0 oP rfl rfl) (zC 3 rfl (oK KM rfl rfl) (zC 4 rfl (oY (.sc (.string x0.Path)) xX rfl rfl) (zC 5 rfl (eT (.sl _ _ _) rfl) (zI 6 rfl rfl ?_))))
 obtain⟨x1,X1,m⟩:=aC m
 refine zC 7 rfl (oJ X1 oP rfl rfl) (zC 8 rfl (oK KN rfl rfl) (zC 9 rfl (oY (.sl none 1 (List.map dG x1.Data)) lV rfl rfl) (zC 10 rfl (sY lK rfl) (zC 11 rfl (fF ([.sc (.string x0.Path),nZ (x1.Data.length:Int),sZ]) aBK rfl) (zE 12 rfl (bI (T1) u FN rfl rfl λk2233 K5=>⟨trivial, ?_⟩))))))
 refine zE 13 rfl (aJ 0 ([.sc (.string x0.Path),nZ (x1.Data.length:Int),sZ]) K5 rfl rfl rfl rfl IP rfl rfl λK6=>⟨trivial, ?_⟩)
 refine zX (qk (f:=.c 12 _ (IF 49 _ _ _ _ _ _ _ _ _ _ _ _ _)) K6 rfl (v (vx m oP rfl rfl λ_ _ m=>vk aEG ZI m rfl rfl λy0 m=>v (pJ (VA (.tok 36 32 (([]:List bP).length*32)) 1 ([.sc (.string x0.Path),nZ (x1.Data.length:Int),ow none 32 (List.map bM [])]) rfl (.k2 (.cons (iZ (c:=bM) _ 32) .nil))) (m5 m (σ:=(List bP)×(List (List Int))×(List bP)×Int) (τ:=Option cB×Option cB) (λg s=> [(g.1,.tok 36 32 ((s.1:List bP).length*32)),(some k2233,.obj 70 ([.sc (.string x0.Path),nZ (x1.Data.length:Int),ow g.1 32 (List.map bM s.1)])),(tg0,.tok 70 3 ((q0:List dH).length*3)),(g.2,.tok 41 1 ((s.2.1:List (List Int)).length*1)),(some k21,.obj 58 ([.sc (.string p0),ow tg0 3 (List.map bX q0)])),(some k2,.obj 58 ([.sc (.string ByteArray.empty),sZ]))]) (λg s=>(g.1=none→s.1= [])∧(g.2=none→s.2.1= [])) (λg s=>.c 1 (.sl none 2 (List.map eQ p1)) (.c 4 (.ptr k2 0) (.c 8 (.ptr k21 0) (.c 9 (.sl none 32 (List.map bM s.2.2.1)) (.c 10 (ow g.2 1 (List.map gX s.2.1)) (.c 11 (nZ q3) (.c 12 (.ptr k2233 0) (.c 13 (.sl none 1 (List.map gX y0)) (.c 14 (nZ s.2.2.2) .nil))))))))) (none,tg1) (⟨(λ_=>rfl),t1⟩) (lx (.k9 .nil)) ?_ ?_)))))
 rintro⟨tg2,tg3⟩ ⟨q4,q5,q6,q7⟩ x ⟨t2,t3⟩ m
 replace m:B7 w y0 q4 q5 q6 q7=some x:=m
 unfold B7 at m
 refine v (dL P8 rfl (v ?_))
 apply vi m <;> intro c2 m
 refine v (v (v (vx m zJ rfl rfl λ_ _ m=>vk W87 ZF m rfl rfl λy1 m=>ve λu=>bI (bM jR) u IK rfl rfl λk2604 K7=>qk K7 rfl (ve λu=>aJ 0 (bM y1) u rfl rfl rfl rfl IJ rfl rfl λK8=>qk K8 rfl (v (vl 2 (ow tg2 32 (List.map bM q4)) tL rfl rfl rfl (vl 0 (.agg (bM y1)) fZ rfl rfl rfl (bU (eI (List.map bM ([y1]:List bP)) BE rfl rfl rfl rfl) ?_))))))))
 obtain⟨z0,Z0,m⟩:=aC m
 refine ve λu=>fB (c:=bM) 1 Z0 BE rfl rfl rfl t2 u rfl λtg4 t4 K9=>qk K9 rfl (ve λu=>aJ 2 ([.sc (.string x0.Path),nZ (x1.Data.length:Int),ow tg4 32 (List.map bM z0)]) u rfl rfl (i6 rfl) (oZ _ _ _) SE rfl rfl λK10=>qk K10 rfl (v (vl 0 (.agg (bM y1)) fZ rfl rfl rfl (vk WD QJ m rfl rfl λy2 m=>v (oU m (σ:=(List (List Int))) (τ:=Option cB) (λg s=> [(some k2604,.obj 36 (bM y1)),(tg4,.tok 36 32 ((z0:List bP).length*32)),(some k2233,.obj 70 ([.sc (.string x0.Path),nZ (x1.Data.length:Int),ow tg4 32 (List.map bM z0)])),(tg0,.tok 70 3 ((q0:List dH).length*3)),(g,.tok 41 1 ((s:List (List Int)).length*1)),(some k21,.obj 58 ([.sc (.string p0),ow tg0 3 (List.map bX q0)])),(some k2,.obj 58 ([.sc (.string ByteArray.empty),sZ]))]) (λg s=>(g=none→s= [])) (λg s=>.c 1 (.sl none 2 (List.map eQ p1)) (.c 4 (.ptr k2 0) (.c 8 (.ptr k21 0) (.c 10 (ow g 1 (List.map gX s)) (.c 11 (nZ q3) (.c 12 (.ptr k2233 0) (.c 13 (.sl none 1 (List.map gX y0)) (.c 14 (nZ q7) (.c 16 (.sl none 32 (List.map bM y2.1)) .nil))))))))) (λx m=> ?_) ?_)))))
 refine v ?_
 apply vi m <;> intro c3 m
 refine v (v (vz [] mixed (λu=>trivial) λu=>zC 0 rfl (eT (.sc (.slice _ _ _)) rfl) (zC 1 rfl (eT (ow _ _ _) rfl) (zI 2 rfl rfl ?_))))
 obtain⟨_,X2,m⟩:=aC m
 refine zC 3 rfl (A0 X2 zJ rfl t3 rfl rfl rfl) (zC 5 rfl (eT (.sl _ _ _) rfl) (zI 6 rfl rfl ?_))
 obtain⟨x2,X3,m⟩:=aC m
 refine zC 7 rfl (oJ X3 zJ rfl rfl) (zC 8 rfl (oY (.sl none 1 (List.map dG x2)) lV rfl rfl) (zC 9 rfl (eI (List.map gX ([x2]:List (List Int))) zK rfl rfl rfl rfl) ?_))
 obtain⟨z1,Z1,m⟩:=aC m
 refine zE 4 rfl (nS (c:=gX) Z1 zK rfl rfl u nofun (nD (rA X2 t3)) λtg5 t5 K12=>⟨trivial, ?_⟩)
 obtain⟨z2,Z2,m⟩:=aC m
 refine zE 10 rfl (fB (c:=gX) 0 Z2 zK rfl rfl rfl t5 K12 rfl λtg6 t6 K13=>⟨trivial, ?_⟩)
 refine zC 11 rfl (hU (ow _ _ _) rfl) (zX (qk (f:=.c 19 _ (.c 91 _ (.c 85 _ (fq5 90 _ _ _ _ _ (OE 84 _ _ _ _ _))))) K13 rfl (v ?_)))
 obtain⟨_,X4,m⟩:=aC m
 refine bU (A0 X4 zJ rfl t3 rfl rfl rfl) ?_
 obtain⟨z3,Z3,m⟩:=aC m
 exact ve λu=>fB (c:=gX) 0 Z3 zK rfl rfl rfl t6 u (nD (rA X4 t3)) λtg7 t7 K14=>qk K14 rfl (eR m tg7 t7 (l4 [1,2,3,4,0,6,7] rfl rfl (.k9 .nil)))
 exact v (eR m tg3 t3 (lx (.k9 .nil)))
 rintro tg8 j0 t8 m
 exact v (v (eR m (tg4,tg8) ⟨t4,t8⟩ (l4 [1,2,3,4,5,6] rfl rfl (.k9 .nil))))
 exact v (kT m (tg2,tg3) ⟨t2,t3⟩ (lx (.k9 .nil)))
 rintro⟨tg9,tg10⟩ ⟨r0,r1,r2,r3⟩ ⟨t9,t10⟩ m
 refine v (vl 4 (ow tg0 3 (List.map bX q0)) mQ rfl rfl rfl (vl 1 (.agg ([.sc (.string x0.Path),nZ (x1.Data.length:Int),ow tg9 32 (List.map bM r0)])) BF rfl rfl rfl (ve λu=>A5 (t:=100) (.agg (bX ({ Path:=x0.Path,Size:=(x1.Data.length:Int),Ids:=r0}:dH))) (aR (.cons _ (.refl _)) u).1 (bE.agg (.k2 (.cons (mF _ 0 t9 u rfl (.refl _)) .nil))) (a_v (eI (List.map bX ([({ Path:=x0.Path,Size:=(x1.Data.length:Int),Ids:=r0}:dH)]:List dH)) IL rfl rfl rfl rfl) (qk ((aR (.cons _ (.refl _)) u).2) rfl ?_)))))
 obtain⟨z4,Z4,m⟩:=aC m
 exact ve λu=>fB (c:=bX) 1 Z4 IL rfl rfl rfl t0 u rfl λtg11 t11 K15=>qk K15 rfl (ve λu=>aJ 3 ([.sc (.string p0),ow tg11 3 (List.map bX z4)]) u rfl rfl (i6 rfl) (oZ _ _ _) R0 rfl rfl λK16=>qk K16 rfl (v (eR m (tg11,tg10) ⟨t11,t10⟩ (l4 [1,2,3,4] rfl rfl (.k6 .nil)))))
 exact v (kT m (tg0,tg1) ⟨t0,t1⟩ (lx (.k6 .nil)))
 rintro⟨tg12,tg13⟩ ⟨r4,r5,r6,r7⟩ ⟨t12,t13⟩ m
 refine v (vl 2 (.agg ([.sc (.string p0),ow tg12 3 (List.map bX r4)])) m8 rfl rfl rfl (ve λu=>aJ 3 ([.sc (.string p0),ow tg12 3 (List.map bX r4)]) u rfl rfl rfl (by repeat (first | exact rfl | refine cC (iC _ _ _) ?_ | refine cC (bW _ _ _) ?_ | refine cC (f0 _ _ _ _) ?_ | refine cC rfl ?_)) yB rfl rfl λK17=>qk K17 rfl ?_))
 refine v ?_
 cases m
 exact vr λu=>dV.of3 (.inl rfl) (pU (.agg ([.sc (.string p0),ow tg12 3 (List.map bX r4)])) m8 rfl (a8 3 u rfl) rfl) (fP _ _ (ow _ _ _) rfl) (fP _ _ (.sc (.int _ _)) rfl) (aR (List.nil_sublist _) u).1 (bE.agg (.cons (bE.refl _ _) (.cons ((eS _ 0 t12 u rfl)) .nil))) ((eS _ 1 t13 u rfl)) (bE.refl _ _) ⟨rfl,rfl⟩
theorem aEH:aO Tryz.prog 86=true:=by kernel_rfl
def B9 (m:Nat) (p0:aB) (y0:bF×(List (List Int))×Int) (q0:List aA) (q1:Int):Option (Lp ((List aA)×Int) (aS×Bool)):=
 if (decide (q1 < (y0.2.1.length:Int)))=true then ((ix y0.2.1 q1).bind λx0=>(UF m x0).bind λy1=>(NP m p0 y1).bind λy2=>after (if (decide (y2 < 0))=true then ((ix y0.2.1 q1).bind λx1=>(app q0 ([({ Id:=y1,Staged:=true,Data:=x1,Locs:= []}:aA)]:List aA)).bind λz0=>some (.brk z0)) else some (.brk q0):Option (Lp ((List aA)) (Lp ((List aA)×Int) (aS×Bool)))) λj0=>some (.go (j0,IntKind.wrap .i64 (q1+1)))) else some (.brk (q0,q1))
def CA (m:Nat) (p0:aB) (p1:lI) (q0:List bC) (q1:Int) (q2:Int):Option (Lp ((List bC)×Int×Int) (aS×Bool)):=
 after (if (decide (q2 < (IntKind.wrap .i64 ((IntKind.wrap .i64 ((p0.Chunks.length:Int)+(p0.Snaps.length:Int)))+(p0.Exps.length:Int)))))=true then (some (.brk (decide ((q0.length:Int) < 64)))) else some (.brk false):Option (Lp (Bool) (Lp ((List bC)×Int×Int) (aS×Bool)))) λj0=>if j0=true then (after (after (if (decide (q2 < (p1.Pick.length:Int)))=true then ((ix p1.Pick q2).bind λx0=>some (.brk (!x0))) else some (.brk false):Option (Lp (Bool) (Lp ((List bC)×Int) (Lp ((List bC)×Int×Int) (aS×Bool))))) λj1=>if j1=true then (some (.brk (q0,q1))) else after (if (decide (q2 < (p0.Chunks.length:Int)))=true then ((ix p0.Chunks q2).bind λx1=>some (.brk { { ({ Kind:=0,Id:=jR,Seq:=0,Of:=0,Off:=q1,Len:=20}:bC) with Kind:=1} with Id:=x1.Id})) else after (if (decide (q2 < (IntKind.wrap .i64 ((p0.Chunks.length:Int)+(p0.Snaps.length:Int)))))=true then ((ix p0.Snaps (IntKind.wrap .i64 (q2 - (p0.Chunks.length:Int)))).bind λx2=>some (.brk { { ({ Kind:=0,Id:=jR,Seq:=0,Of:=0,Off:=q1,Len:=20}:bC) with Kind:=2} with Seq:=x2.Seq})) else (ix p0.Exps (IntKind.wrap .i64 ((IntKind.wrap .i64 (q2 - (p0.Chunks.length:Int))) - (p0.Snaps.length:Int)))).bind λx3=>some (.brk { { { ({ Kind:=0,Id:=jR,Seq:=0,Of:=0,Off:=q1,Len:=20}:bC) with Kind:=3} with Seq:=x3.Seq} with Of:=x3.Of}):Option (Lp (bC) (Lp (bC) (Lp ((List bC)×Int) (Lp ((List bC)×Int×Int) (aS×Bool)))))) λj2=>some (.brk j2):Option (Lp (bC) (Lp ((List bC)×Int) (Lp ((List bC)×Int×Int) (aS×Bool))))) λj3=>(app q0 ([j3]:List bC)).bind λz0=>some (.brk (z0,IntKind.wrap .i64 (q1+20))):Option (Lp ((List bC)×Int) (Lp ((List bC)×Int×Int) (aS×Bool)))) λ⟨j4,j5⟩=>some (.go (j4,j5,IntKind.wrap .i64 (q2+1)))) else some (.brk (q0,q1,q2))
def UG (m:Nat) (p0:aB) (p1:lI):Option (aS×Bool):=
 (KA ([IntKind.wrap .u8 (IntKind.wrap .u64 (97+((IntKind.wrap .u64 p1.N).tmod 5)))]:List Int)).bind λst0=>grd (decide ((ByteArray.mk #[110]).size+st0.size≤9223372036854775807)) <| after (if (decide (0 < (p0.Vols.length:Int)))=true then (grd ((IntKind.wrap .u64 (p0.Vols.length:Int)) !=0) <| some (.brk (IntKind.wrap .i64 ((IntKind.wrap .u64 p1.Vol).tmod (IntKind.wrap .u64 (p0.Vols.length:Int)))))) else some (.brk 0):Option (Lp (Int) (aS×Bool))) λj0=>after (if (((IntKind.wrap .u64 p1.Do).tmod 8)==0)=true then (some (.brk (((IntKind.wrap .u64 p1.Do).tmod 8)==0))) else some (.brk (((IntKind.wrap .u64 p1.Do).tmod 8)==1)):Option (Lp (Bool) (aS×Bool))) λj1=>if j1=true then ((ZC m p1.Tree).bind λy0=>if (y0.2 !=0)=true then (some (({ Kind:=0,Snap:=({ Seq:=0,Man:=({ Name:=ByteArray.empty,Parts:= []}:bF),Locs:= []}:aG),Chunks:= [],Seq:=0,Vol:=0,Items:= []}:aS),false)) else (ZJ m ((ByteArray.mk #[110])++st0) y0.1).bind λy1=>after (aW (λs=>B9 m p0 y1 s.1 s.2) m ([],0)) λ⟨r0,r1⟩=>some (({ Kind:=1,Snap:=({ Seq:=p0.Seq,Man:=y1.1,Locs:= []}:aG),Chunks:=r0,Seq:=0,Vol:=0,Items:= []}:aS),true)) else after (if (((IntKind.wrap .u64 p1.Do).tmod 8)==2)=true then (some (.brk (((IntKind.wrap .u64 p1.Do).tmod 8)==2))) else some (.brk (((IntKind.wrap .u64 p1.Do).tmod 8)==5)):Option (Lp (Bool) (aS×Bool))) λj2=>if j2=true then (if ((p0.Snaps.length:Int)==0)=true then (some (({ Kind:=0,Snap:=({ Seq:=0,Man:=({ Name:=ByteArray.empty,Parts:= []}:bF),Locs:= []}:aG),Chunks:= [],Seq:=0,Vol:=0,Items:= []}:aS),false)) else grd ((IntKind.wrap .u64 (p0.Snaps.length:Int)) !=0) <| (ix p0.Snaps (IntKind.wrap .i64 ((IntKind.wrap .u64 p1.N).tmod (IntKind.wrap .u64 (p0.Snaps.length:Int))))).bind λx0=>if (((IntKind.wrap .u64 p1.Do).tmod 8)==2)=true then (some (({ Kind:=2,Snap:=({ Seq:=0,Man:=({ Name:=ByteArray.empty,Parts:= []}:bF),Locs:= []}:aG),Chunks:= [],Seq:=x0.Seq,Vol:=0,Items:= []}:aS),true)) else some (({ Kind:=3,Snap:=({ Seq:=0,Man:=({ Name:=ByteArray.empty,Parts:= []}:bF),Locs:= []}:aG),Chunks:= [],Seq:=0,Vol:=j0,Items:=([({ Kind:=3,Id:=jR,Seq:=p0.Seq,Of:=x0.Seq,Off:=13,Len:=17}:bC)]:List bC)}:aS),true)) else after (if (((IntKind.wrap .u64 p1.Do).tmod 8)==3)=true then (some (.brk (((IntKind.wrap .u64 p1.Do).tmod 8)==3))) else some (.brk (((IntKind.wrap .u64 p1.Do).tmod 8)==4)):Option (Lp (Bool) (aS×Bool))) λj3=>if j3=true then (after (aW (λs=>CA m p0 p1 s.1 s.2.1 s.2.2) m ([],13,0)) λ⟨r2,r3,r4⟩=>some (({ Kind:=3,Snap:=({ Seq:=0,Man:=({ Name:=ByteArray.empty,Parts:= []}:bF),Locs:= []}:aG),Chunks:= [],Seq:=0,Vol:=j0,Items:=r2}:aS),decide (0 < (r2.length:Int)))) else if (((IntKind.wrap .u64 p1.Do).tmod 8)==6)=true then (some (({ Kind:=4,Snap:=({ Seq:=0,Man:=({ Name:=ByteArray.empty,Parts:= []}:bF),Locs:= []}:aG),Chunks:= [],Seq:=0,Vol:=j0,Items:= []}:aS),true)) else some (({ Kind:=5,Snap:=({ Seq:=0,Man:=({ Name:=ByteArray.empty,Parts:= []}:bF),Locs:= []}:aG),Chunks:= [],Seq:=0,Vol:=j0,Items:= []}:aS),true)
theorem W35 {w:Nat} {p0:aB} {p1:lI} {o:aS×Bool} (h:aE) (m:UG w p0 p1=some o):
 aL Tryz.prog 35 [.agg (aF p0),.agg (eP p1)] h (λr h'=>r= .tup [.agg (aD o.1),.sc (.bool o.2)]∧h'=h):=by
 refine fY 248 [.cell 4 62,.tmp 5] Tryz.func35 rfl rfl rfl rfl ?_
 unfold UG at m
 refine v (gZ rfl rfl λk2 K3=>gZ rfl rfl λk5 K6=>ve λu=>bI (uY) u IN rfl rfl λk8 K9=>qk K9 rfl (v (vl 1 _ cE rfl rfl rfl (bU (eI (List.map dG ([IntKind.wrap .u8 (IntKind.wrap .u64 (97+((IntKind.wrap .u64 p1.N).tmod 5)))]:List Int)) i9 rfl rfl rfl rfl) ?_))))
 obtain⟨st0,hs0,m⟩:=aC m
 refine bU (RI (c:=dG) hs0 (λ_=>rfl) u41 u5 u9 rfl) ?_
 obtain⟨Z0,m⟩:=mG m
 refine bU (AH rfl rfl rfl (of_decide_eq_true Z0)) (v (v (vl 2 _ gH rfl rfl rfl (dL o6 rfl (fR m (σ:=Int) (λs=> [(some k8,.obj 62 (uY)),(some k5,.obj 67 (eP p1)),(some k2,.obj 30 (aF p0))]) (λs=>.c 2 (.ptr k2 0) (.c 3 (.ptr k5 0) (.c 4 (.ptr k8 0) (.c 6 (.sc (.string ((ByteArray.mk #[110])++st0))) (.c 7 (nZ s) .nil))))) (λx m=> ?_) ?_)))))
 refine v ?_
 apply vi m <;> intro c0 m
 exact v (vl 1 _ cE rfl rfl rfl (vl 2 _ gH rfl rfl rfl (dL o6 rfl (RT m λ_ m=>mO m))))
 exact v (mO m)
 rintro _ j0 m
 refine v (vl 1 _ cE rfl rfl rfl (v (v (fR m (σ:=Bool) (λs=> [(some k8,.obj 62 (uY)),(some k5,.obj 67 (eP p1)),(some k2,.obj 30 (aF p0))]) (λs=>.c 2 (.ptr k2 0) (.c 3 (.ptr k5 0) (.c 4 (.ptr k8 0) (.c 6 (.sc (.string ((ByteArray.mk #[110])++st0))) (.c 7 (nZ j0) (.c 47 (.sc (.int .u64 ((IntKind.wrap .u64 p1.Do).tmod 8))) (.c 48 (.sc (.bool s)) .nil))))))) (λx m=> ?_) ?_))))
 refine v ?_
 apply vi m <;> intro c1 m
 exact v (A6 m)
 exact v (A6 m)
 rintro _ j1 m
 refine v ?_
 apply vi m <;> intro c2 m
 refine v (vl 1 _ aBI rfl rfl rfl (vk W85 aEB m rfl rfl λ_ m=>v (v ?_)))
 apply vi m <;> intro c3 m
 refine v (bU (fF (uY) BD rfl) (ve λu=>aJ 0 (uY) u rfl rfl rfl rfl tK rfl rfl λK0=>qk K0 rfl (v ?_)))
 cases m
 exact vr λu=>dV.of2 (.inl rfl) (pU (.agg (uY)) nF rfl (a8 0 u rfl) rfl) (fP _ _ (.sc (.bool _)) rfl) (aR (List.nil_sublist _) u).1 (bE.agg (.k3 (.cons (aV _) (.cons (aV _) (.cons (aV _) (.k2 (.cons (aV _) .nil))))))) (bE.refl _ _) ⟨rfl,rfl⟩
 refine v (v (vk W86 aEH m rfl rfl λy0 m=>ve λu=>bI ([.sc (.string ByteArray.empty),sZ]) u KH rfl rfl λk44 K1=>qk K1 rfl (ve λu=>aJ 0 (bH y0.1) u rfl rfl rfl rfl yB rfl rfl λK2=>qk K2 rfl (v (vl 3 _ cE rfl rfl rfl (vl 0 (.agg (bH y0.1)) m8 rfl rfl rfl (bU (fF (([nZ p0.Seq]:List AV)++bH y0.1++([sZ]:List AV)) R4 rfl) (bU (fF (([nZ 1,nZ p0.Seq]:List AV)++bH y0.1++(zq6:List AV)) BD rfl) (ve λu=>bI (uY) u IN rfl rfl λk49 K4=>qk K4 rfl (ve λu=>aJ 0 (([nZ 1,nZ p0.Seq]:List AV)++bH y0.1++(zq6:List AV)) u rfl rfl rfl rfl tK rfl rfl λK5=>qk K5 rfl (v (pJ (VA (.tok 44 35 (([]:List aA).length*35)) 1 (([nZ 1,nZ p0.Seq]:List AV)++bH y0.1++([sZ,ow none 35 (List.map aH []),nZ 0,nZ 0,sZ]:List AV)) rfl (.k2 (cT.app 2 rfl (.cons (bE.refl _ _) (.cons (iZ (c:=aH) _ 35) (.k3 .nil)))))) (m5 m (σ:=(List aA)×Int) (τ:=Option cB) (λg s=> [(g,.tok 44 35 ((s.1:List aA).length*35)),(some k49,.obj 62 (([nZ 1,nZ p0.Seq]:List AV)++bH y0.1++([sZ,ow g 35 (List.map aH s.1),nZ 0,nZ 0,sZ]:List AV))),(some k44,.obj 58 (bH y0.1)),(some k8,.obj 62 (uY)),(some k5,.obj 67 (eP p1)),(some k2,.obj 30 (aF p0))]) (λg s=>(g=none→s.1= [])) (λg s=>.c 2 (.ptr k2 0) (.c 4 (.ptr k8 0) (.c 11 (.sl none 1 (List.map gX y0.2.1)) (.c 13 (.ptr k49 0) (.c 14 (nZ s.2) .nil))))) none (λ_=>rfl) (lx (.k5 .nil)) ?_ ?_)))))))))))))
 rintro tg0 ⟨q0,q1⟩ x t0 m
 replace m:B9 w p0 y0 q0 q1=some x:=m
 unfold B9 at m
 refine v (dL P8 rfl (v ?_))
 apply vi m <;> intro c4 m
 refine v (v (v (vx m zJ rfl rfl λ_ _ m=>vk W87 ZF m rfl rfl λy1 m=>ve λu=>bI (bM jR) u IK rfl rfl λk255 K7=>qk K7 rfl (ve λu=>aJ 0 (bM y1) u rfl rfl rfl rfl IJ rfl rfl λK8=>qk K8 rfl (v (vl 6 (.agg (aF p0)) eV rfl rfl rfl (vl 0 (.agg (bM y1)) fZ rfl rfl rfl (vk W88 OV m rfl rfl λ_ m=>oU m (σ:=(List aA)) (τ:=Option cB) (λg s=> [(some k255,.obj 36 (bM y1)),(g,.tok 44 35 ((s:List aA).length*35)),(some k49,.obj 62 (([nZ 1,nZ p0.Seq]:List AV)++bH y0.1++([sZ,ow g 35 (List.map aH s),nZ 0,nZ 0,sZ]:List AV))),(some k44,.obj 58 (bH y0.1)),(some k8,.obj 62 (uY)),(some k5,.obj 67 (eP p1)),(some k2,.obj 30 (aF p0))]) (λg s=>(g=none→s= [])) (λg s=>.c 2 (.ptr k2 0) (.c 4 (.ptr k8 0) (.c 11 (.sl none 1 (List.map gX y0.2.1)) (.c 13 (.ptr k49 0) (.c 14 (nZ q1) .nil))))) (λx m=> ?_) ?_))))))))
 refine v ?_
 apply vi m <;> intro c5 m
 refine v (vz [(11,some k49,.obj 62 (([nZ 1,nZ p0.Seq]:List AV)++bH y0.1++([sZ,ow tg0 35 (List.map aH q0),nZ 0,nZ 0,sZ]:List AV))),(1000000,some k255,.obj 36 (bM y1))] mixed (λu=>⟨λ_=>aI 2 u rfl,λ_=>aI 0 u rfl,trivial⟩) λu=>zF 0 rfl mJ rfl (zL 1 0 (ow tg0 35 (List.map aH q0)) rfl eU rfl rfl rfl (zL 2 1 (.agg (bM y1)) rfl fZ rfl rfl rfl (zC 3 rfl (eT (.sl _ _ _) rfl) (zI 4 rfl rfl ?_)))))
 obtain⟨x0,X0,m⟩:=aC m
 refine zC 5 rfl (oJ X0 zJ rfl rfl) (zC 6 rfl (oY (.sl none 1 (List.map dG x0)) lV rfl rfl) (zC 7 rfl (eZ (y:=.agg (aH ({ Id:=y1,Staged:=true,Data:=x0,Locs:= []}:aA))) (fF (bM y1++([.sc (.bool true),.sl none 1 (List.map dG x0),sZ]:List AV)) VG rfl) (bE.agg (cT.app 32 rfl (.k2 (.cons (aV _) .nil))))) (zC 8 rfl (eI (List.map aH ([({ Id:=y1,Staged:=true,Data:=x0,Locs:= []}:aA)]:List aA)) kY rfl rfl rfl rfl) ?_)))
 obtain⟨z0,Z1,m⟩:=aC m
 refine zE 9 rfl (fB (c:=aH) 1 Z1 kY rfl rfl rfl t0 u rfl λtg1 t1 K10=>⟨⟨λ_=>aI 2 K10 rfl,λ_=>aI 0 K10 rfl,trivial⟩, ?_⟩)
 refine zF 10 rfl mJ rfl (zE 11 rfl (aJ 2 (([nZ 1,nZ p0.Seq]:List AV)++bH y0.1++([sZ,ow tg1 35 (List.map aH z0),nZ 0,nZ 0,sZ]:List AV)) K10 rfl rfl (i6 rfl) (oZ _ _ _) yA rfl rfl λK11=>⟨⟨λe=>absurd e (by decide),λ_=>aI 0 K11 rfl,trivial⟩, ?_⟩))
 exact zX (qk (f:=RP 97 _ _ _ _ _ _ _ _ _ _ _ _) K11 rfl (eR m tg1 t1 (lx (.k5 .nil))))
 exact v (eR m tg0 t0 (lx (.k5 .nil)))
 rintro tg2 j2 t2 m
 exact v (eR m tg2 t2 (l4 [1,2,3,4,5,6] rfl rfl (.k5 .nil)))
 exact v (kT m tg0 t0 (lx (.k5 .nil)))
 rintro tg3 ⟨r0,r1⟩ t3 m
 refine v (vl 1 (.agg (([nZ 1,nZ p0.Seq]:List AV)++bH y0.1++([sZ,ow tg3 35 (List.map aH r0),nZ 0,nZ 0,sZ]:List AV))) nF rfl rfl rfl (ve λu=>aJ 3 (([nZ 1,nZ p0.Seq]:List AV)++bH y0.1++([sZ,ow tg3 35 (List.map aH r0),nZ 0,nZ 0,sZ]:List AV)) u rfl rfl rfl (by repeat (first | exact rfl | refine cC (iC _ _ _) ?_ | refine cC (bW _ _ _) ?_ | refine cC (f0 _ _ _ _) ?_ | refine cC rfl ?_)) tK rfl rfl λK12=>qk K12 rfl ?_))
 refine v ?_
 cases m
 exact vr λu=>dV.of2 (.inl rfl) (pU (.agg (([nZ 1,nZ p0.Seq]:List AV)++bH y0.1++([sZ,ow tg3 35 (List.map aH r0),nZ 0,nZ 0,sZ]:List AV))) nF rfl (a8 3 u rfl) rfl) (fP _ _ (.sc (.bool _)) rfl) (aR (List.nil_sublist _) u).1 (bE.agg (.k2 (cT.app 2 rfl (.cons (aV _) (.cons ((eS _ 0 t3 u rfl)) (.k2 (.cons (aV _) .nil))))))) (bE.refl _ _) ⟨rfl,rfl⟩
 refine v (fR m (σ:=Bool) (λs=> [(some k8,.obj 62 (uY)),(some k5,.obj 67 (eP p1)),(some k2,.obj 30 (aF p0))]) (λs=>.c 2 (.ptr k2 0) (.c 3 (.ptr k5 0) (.c 4 (.ptr k8 0) (.c 7 (nZ j0) (.c 47 (.sc (.int .u64 ((IntKind.wrap .u64 p1.Do).tmod 8))) (.c 99 (.sc (.bool s)) .nil)))))) (λx m=> ?_) ?_)
 refine v ?_
 apply vi m <;> intro c6 m
 exact v (qB m)
 exact v (qB m)
 rintro _ j3 m
 refine v ?_
 apply vi m <;> intro c7 m
 refine v (vl 2 _ fM rfl rfl rfl (dL jU rfl (v ?_)))
 apply vi m <;> intro c8 m
 refine v (bU (fF (uY) BD rfl) (ve λu=>aJ 0 (uY) u rfl rfl rfl rfl tK rfl rfl λK13=>qk K13 rfl (v ?_)))
 cases m
 exact vr λu=>dV.of2 (.inl rfl) (pU (.agg (uY)) nF rfl (a8 0 u rfl) rfl) (fP _ _ (.sc (.bool _)) rfl) (aR (List.nil_sublist _) u).1 (bE.agg (.k3 (.cons (aV _) (.cons (aV _) (.cons (aV _) (.k2 (.cons (aV _) .nil))))))) (bE.refl _ _) ⟨rfl,rfl⟩
 refine v (v (vz [(1000000,some k2,.obj 30 (aF p0)),(1000000,some k5,.obj 67 (eP p1))] mixed (λu=>⟨λ_=>aI 2 u rfl,λ_=>aI 1 u rfl,trivial⟩) λu=>zF 0 rfl dU rfl (zL 1 0 (.sl none 4 (List.map bR p0.Snaps)) rfl fM rfl rfl rfl (zF 2 rfl R9 rfl (zL 3 1 (nZ p1.N) rfl cE rfl rfl rfl (zC 4 rfl (IB VE R6 rfl) (zF 5 rfl dU rfl (zL 6 0 (.sl none 4 (List.map bR p0.Snaps)) rfl fM rfl rfl rfl (zC 7 rfl (sY jU rfl) (zC 8 rfl (IB VE R6 rfl) ?_))))))))))
 obtain⟨Z2,m⟩:=mG m
 refine zC 9 rfl (kX rfl rfl rfl (UX Z2)) (zC 10 rfl (IB R6 VE rfl) ?_)
 obtain⟨x1,X1,m⟩:=aC m
 refine zC 11 rfl (oJ X1 iN rfl rfl) (zC 12 rfl (oY (.agg (bR x1)) tH rfl rfl) (zE 13 rfl (bI (UJ) u tJ rfl rfl λk329 K14=>⟨⟨λ_=>aI 3 K14 rfl,λ_=>aI 2 K14 rfl,trivial⟩, ?_⟩)))
 refine zE 14 rfl (aJ 0 (bR x1) K14 rfl rfl rfl rfl IM rfl rfl λK15=>⟨⟨λ_=>aI 3 K15 rfl,λ_=>aI 2 K15 rfl,trivial⟩, ?_⟩)
 refine zX (qk (f:=.c 16 _ (RQ 119 _ _ _ _ _ _ _ _ _ _ _ _ _ _)) K15 rfl (v (vl 2 _ cE rfl rfl rfl (v ?_))))
 apply vi m <;> intro c9 m
 refine v (vl 0 _ cE rfl rfl rfl (bU (fF ([nZ 2,nZ 0,.sc (.string ByteArray.empty),sZ,sZ,sZ,nZ x1.Seq,nZ 0,sZ]) BD rfl) (ve λu=>aJ 1 ([nZ 2,nZ 0,.sc (.string ByteArray.empty),sZ,sZ,sZ,nZ x1.Seq,nZ 0,sZ]) u rfl rfl rfl rfl tK rfl rfl λK16=>qk K16 rfl (v ?_))))
 cases m
 exact vr λu=>dV.of2 (.inl rfl) (pU (.agg ([nZ 2,nZ 0,.sc (.string ByteArray.empty),sZ,sZ,sZ,nZ x1.Seq,nZ 0,sZ])) nF rfl (a8 1 u rfl) rfl) (fP _ _ (.sc (.bool _)) rfl) (aR (List.nil_sublist _) u).1 (bE.agg (.k3 (.cons (aV _) (.cons (aV _) (.cons (aV _) (.k2 (.cons (aV _) .nil))))))) (bE.refl _ _) ⟨rfl,rfl⟩
 refine v (v (vl 3 _ cE rfl rfl rfl (vl 0 _ cE rfl rfl rfl (bU (fF (aX ({ Kind:=3,Id:=jR,Seq:=p0.Seq,Of:=x1.Seq,Off:=13,Len:=17}:bC)) VF rfl) (bU (eI (List.map aX ([({ Kind:=3,Id:=jR,Seq:=p0.Seq,Of:=x1.Seq,Off:=13,Len:=17}:bC)]:List bC)) OM rfl rfl rfl rfl) (bU (fF ([nZ 3,nZ 0,.sc (.string ByteArray.empty),sZ,sZ,sZ,nZ 0,nZ j0,.sl none 37 (List.map aX ([({ Kind:=3,Id:=jR,Seq:=p0.Seq,Of:=x1.Seq,Off:=13,Len:=17}:bC)]:List bC))]) BD rfl) (ve λu=>aJ 1 ([nZ 3,nZ 0,.sc (.string ByteArray.empty),sZ,sZ,sZ,nZ 0,nZ j0,.sl none 37 (List.map aX ([({ Kind:=3,Id:=jR,Seq:=p0.Seq,Of:=x1.Seq,Off:=13,Len:=17}:bC)]:List bC))]) u rfl rfl rfl rfl tK rfl rfl λK17=>qk K17 rfl (v ?_))))))))
 cases m
 exact vr λu=>dV.of2 (.inl rfl) (pU (.agg ([nZ 3,nZ 0,.sc (.string ByteArray.empty),sZ,sZ,sZ,nZ 0,nZ j0,.sl none 37 (List.map aX ([({ Kind:=3,Id:=jR,Seq:=p0.Seq,Of:=x1.Seq,Off:=13,Len:=17}:bC)]:List bC))])) nF rfl (a8 1 u rfl) rfl) (fP _ _ (.sc (.bool _)) rfl) (aR (List.nil_sublist _) u).1 (bE.agg (.k3 (.cons (aV _) (.cons (aV _) (.cons (aV _) (.k3 .nil)))))) (bE.refl _ _) ⟨rfl,rfl⟩
 refine v (fR m (σ:=Bool) (λs=> [(some k8,.obj 62 (uY)),(some k5,.obj 67 (eP p1)),(some k2,.obj 30 (aF p0))]) (λs=>.c 2 (.ptr k2 0) (.c 3 (.ptr k5 0) (.c 4 (.ptr k8 0) (.c 7 (nZ j0) (.c 47 (.sc (.int .u64 ((IntKind.wrap .u64 p1.Do).tmod 8))) (.c 136 (.sc (.bool s)) .nil)))))) (λx m=> ?_) ?_)
 refine v ?_
 apply vi m <;> intro c10 m
 exact v (qB m)
 exact v (qB m)
 rintro _ j4 m
 refine v ?_
 apply vi m <;> intro c11 m
 refine v (v (v (pJ (EN (.tok 38 37 (([]:List bC).length*37)) 17 (ow none 37 (List.map aX [])) (iZ _ _)) (m5 m (σ:=(List bC)×Int×Int) (τ:=Option cB) (λg s=> [(g,.tok 38 37 ((s.1:List bC).length*37)),(some k8,.obj 62 (uY)),(some k5,.obj 67 (eP p1)),(some k2,.obj 30 (aF p0))]) (λg s=>(g=none→s.1= [])) (λg s=>.c 2 (.ptr k2 0) (.c 3 (.ptr k5 0) (.c 4 (.ptr k8 0) (.c 7 (nZ j0) (.c 17 (ow g 37 (List.map aX s.1)) (.c 18 (nZ s.2.1) (.c 19 (nZ s.2.2) .nil))))))) none (λ_=>rfl) (lx (.k7 .nil)) ?_ ?_))))
 rintro tg4 ⟨q2,q3,q4⟩ x t4 m
 replace m:CA w p0 p1 q2 q3 q4=some x:=m
 unfold CA at m
 refine vs (vs (fR m (σ:=Bool) (λs=> [(tg4,.tok 38 37 ((q2:List bC).length*37)),(some k8,.obj 62 (uY)),(some k5,.obj 67 (eP p1)),(some k2,.obj 30 (aF p0))]) (λs=>.c 2 (.ptr k2 0) (.c 3 (.ptr k5 0) (.c 4 (.ptr k8 0) (.c 7 (nZ j0) (.c 17 (ow tg4 37 (List.map aX q2)) (.c 18 (nZ q3) (.c 19 (nZ q4) (.c 156 (.sc (.bool s)) .nil)))))))) (λx m=> ?_) ?_))
 refine v (vl 3 _ eU rfl rfl rfl (dL jE rfl (vl 3 _ fM rfl rfl rfl (dL jU rfl (vl 3 _ i8 rfl rfl rfl (dL o5 rfl ?_))))))
 apply vi m <;> intro b0 m
 rw[b0]
 exact bU (s9 oN t4 rfl) (KC m)
 rw[b0]
 exact KC m
 rintro _ j5 m
 refine v ?_
 apply vi m <;> intro c12 m
 refine v (vs (oU m (σ:=(List bC)×Int) (τ:=Option cB) (λg s=> [(g,.tok 38 37 ((s.1:List bC).length*37)),(some k8,.obj 62 (uY)),(some k5,.obj 67 (eP p1)),(some k2,.obj 30 (aF p0))]) (λg s=>(g=none→s.1= [])) (λg s=>.c 2 (.ptr k2 0) (.c 3 (.ptr k5 0) (.c 4 (.ptr k8 0) (.c 7 (nZ j0) (.c 17 (ow g 37 (List.map aX s.1)) (.c 18 (nZ s.2) (.c 19 (nZ q4) .nil))))))) (λx m=> ?_) ?_))
 refine v (vs (vs (fR m (σ:=Bool) (λs=> [(tg4,.tok 38 37 ((q2:List bC).length*37)),(some k8,.obj 62 (uY)),(some k5,.obj 67 (eP p1)),(some k2,.obj 30 (aF p0))]) (λs=>.c 2 (.ptr k2 0) (.c 3 (.ptr k5 0) (.c 4 (.ptr k8 0) (.c 7 (nZ j0) (.c 17 (ow tg4 37 (List.map aX q2)) (.c 18 (nZ q3) (.c 19 (nZ q4) (.c 171 (.sc (.bool s)) .nil)))))))) (λx m=> ?_) ?_)))
 refine v (vl 2 _ VL rfl rfl rfl (dL VK rfl ?_))
 apply vi m <;> intro b1 m
 rw[b1]
 exact vl 2 _ VL rfl rfl rfl (vx m aBJ rfl rfl λ_ _ m=>KC m)
 rw[b1]
 exact KC m
 rintro _ j6 m
 refine v ?_
 apply vi m <;> intro c13 m
 exact v (eR m tg4 t4 (lx (.k7 .nil)))
 refine v (v (bU (fF (aX ({ Kind:=0,Id:=jR,Seq:=0,Of:=0,Off:=q3,Len:=20}:bC)) VF rfl) (ve λu=>bI (([nZ 0]:List AV)++bM jR++(NT:List AV)) u RZ rfl rfl λk1523 K18=>qk K18 rfl (ve λu=>aJ 0 (aX ({ Kind:=0,Id:=jR,Seq:=0,Of:=0,Off:=q3,Len:=20}:bC)) u rfl rfl rfl rfl RY rfl rfl λK19=>qk K19 rfl (v (v (vl 4 _ eU rfl rfl rfl (dL jE rfl (fR m (σ:=bC) (λs=> [(some k1523,.obj 38 (aX s)),(tg4,.tok 38 37 ((q2:List bC).length*37)),(some k8,.obj 62 (uY)),(some k5,.obj 67 (eP p1)),(some k2,.obj 30 (aF p0))]) (λs=>.c 2 (.ptr k2 0) (.c 3 (.ptr k5 0) (.c 4 (.ptr k8 0) (.c 7 (nZ j0) (.c 17 (ow tg4 37 (List.map aX q2)) (.c 18 (nZ q3) (.c 19 (nZ q4) (.c 20 (.ptr k1523 0) .nil)))))))) (λx m=> ?_) ?_)))))))))
 refine v ?_
 apply vi m <;> intro c14 m
 refine v (vz [(1000000,some k2,.obj 30 (aF p0)),(7,some k1523,.obj 38 (aX ({ Kind:=0,Id:=jR,Seq:=0,Of:=0,Off:=q3,Len:=20}:bC)))] mixed (λu=>⟨λ_=>aI 4 u rfl,λ_=>aI 0 u rfl,trivial⟩) λu=>zF 0 rfl dX rfl (zL 1 0 (.sl none 35 (List.map aH p0.Chunks)) rfl eU rfl rfl rfl (zI 2 rfl rfl ?_)))
 obtain⟨x2,X2,m⟩:=aC m
 refine zC 3 rfl (oJ X2 fI rfl rfl) (zC 4 rfl (oK nU rfl rfl) (zC 5 rfl (oY (.agg (bM x2.Id)) fZ rfl rfl) (zF 6 rfl lJ rfl (zE 7 rfl (aJ 0 (aX { ({ Kind:=0,Id:=jR,Seq:=0,Of:=0,Off:=q3,Len:=20}:bC) with Kind:=1}) u rfl rfl rfl rfl xW rfl rfl λK20=>⟨⟨λ_=>aI 4 K20 rfl,λe=>absurd e (by decide),trivial⟩, ?_⟩)))))
 refine zF 8 rfl tE rfl (zE 9 rfl (aJ 0 (aX { { ({ Kind:=0,Id:=jR,Seq:=0,Of:=0,Off:=q3,Len:=20}:bC) with Kind:=1} with Id:=x2.Id}) K20 rfl rfl rfl rfl IJ rfl rfl λK21=>⟨⟨λ_=>aI 4 K21 rfl,λe=>absurd e (by decide),trivial⟩, ?_⟩))
 exact zX (qk (f:=RO 207 _ _ _ _ _ _ _ _ _) K21 rfl (KC m))
 refine v (vl 4 _ eU rfl rfl rfl (dL jE rfl (vl 4 _ fM rfl rfl rfl (dL jU rfl (fR m (σ:=bC) (λs=> [(some k1523,.obj 38 (aX s)),(tg4,.tok 38 37 ((q2:List bC).length*37)),(some k8,.obj 62 (uY)),(some k5,.obj 67 (eP p1)),(some k2,.obj 30 (aF p0))]) (λs=>.c 2 (.ptr k2 0) (.c 3 (.ptr k5 0) (.c 4 (.ptr k8 0) (.c 7 (nZ j0) (.c 17 (ow tg4 37 (List.map aX q2)) (.c 18 (nZ q3) (.c 19 (nZ q4) (.c 20 (.ptr k1523 0) .nil)))))))) (λx m=> ?_) ?_)))))
 refine v ?_
 apply vi m <;> intro c15 m
 refine v (vz [(1000000,some k2,.obj 30 (aF p0)),(11,some k1523,.obj 38 (aX ({ Kind:=0,Id:=jR,Seq:=0,Of:=0,Off:=q3,Len:=20}:bC)))] mixed (λu=>⟨λ_=>aI 4 u rfl,λ_=>aI 0 u rfl,trivial⟩) λu=>zF 0 rfl dU rfl (zL 1 0 (.sl none 4 (List.map bR p0.Snaps)) rfl fM rfl rfl rfl (zI 2 rfl rfl (zF 3 rfl dX rfl (zL 4 0 (.sl none 35 (List.map aH p0.Chunks)) rfl eU rfl rfl rfl (zC 5 rfl (sY jE rfl) (zC 6 rfl (kX rfl rfl rfl trivial) ?_)))))))
 obtain⟨x3,X3,m⟩:=aC m
 refine zC 7 rfl (oJ X3 iN rfl rfl) (zC 8 rfl (oK tI rfl rfl) (zC 9 rfl (oY (nZ x3.Seq) cE rfl rfl) (zF 10 rfl lJ rfl (zE 11 rfl (aJ 0 (aX { ({ Kind:=0,Id:=jR,Seq:=0,Of:=0,Off:=q3,Len:=20}:bC) with Kind:=2}) u rfl rfl rfl rfl xW rfl rfl λK22=>⟨⟨λ_=>aI 4 K22 rfl,λe=>absurd e (by decide),trivial⟩, ?_⟩)))))
 refine zF 12 rfl kL rfl (zE 13 rfl (aJ 0 (aX { { ({ Kind:=0,Id:=jR,Seq:=0,Of:=0,Off:=q3,Len:=20}:bC) with Kind:=2} with Seq:=x3.Seq}) K22 rfl rfl rfl rfl xW rfl rfl λK23=>⟨⟨λ_=>aI 4 K23 rfl,λe=>absurd e (by decide),trivial⟩, ?_⟩))
 exact zX (qk (f:=IF 229 _ _ _ _ _ _ _ _ _ _ _ _ _) K23 rfl (KC m))
 refine v (vl 4 _ i8 rfl rfl rfl (vl 4 _ eU rfl rfl rfl (dL jE rfl (vl 4 _ fM rfl rfl rfl (dL jU rfl (vx m iE rfl rfl λx4 _ m=>va (.agg (cL x4)) tM rfl rfl (ve λu=>bI ([nZ 0,nZ 0,sZ]) u qE rfl rfl λk1631 K24=>qk K24 rfl (ve λu=>aJ 0 (cL x4) u rfl rfl rfl rfl FO rfl rfl λK25=>qk K25 rfl (v (vz [(1000000,some k1631,.obj 99 (cL x4)),(5,some k1523,.obj 38 (aX ({ Kind:=0,Id:=jR,Seq:=0,Of:=0,Off:=q3,Len:=20}:bC)))] mixed (λu=>⟨λ_=>aI 0 u rfl,λ_=>aI 1 u rfl,trivial⟩) λu=>zF 0 rfl FP rfl (zL 1 0 (nZ x4.Seq) rfl cE rfl rfl rfl (zF 2 rfl SH rfl (zL 3 0 (nZ x4.Of) rfl cE rfl rfl rfl (zF 4 rfl lJ rfl (zE 5 rfl (aJ 1 (aX { ({ Kind:=0,Id:=jR,Seq:=0,Of:=0,Off:=q3,Len:=20}:bC) with Kind:=3}) u rfl rfl rfl rfl xW rfl rfl λK26=>⟨⟨λ_=>aI 0 K26 rfl,λe=>absurd e (by decide),trivial⟩, ?_⟩))))))))))))))))
 refine zF 6 rfl kL rfl (zE 7 rfl (aJ 1 (aX { { ({ Kind:=0,Id:=jR,Seq:=0,Of:=0,Off:=q3,Len:=20}:bC) with Kind:=3} with Seq:=x4.Seq}) K26 rfl rfl rfl rfl xW rfl rfl λK27=>⟨⟨λ_=>aI 0 K27 rfl,λe=>absurd e (by decide),trivial⟩, ?_⟩))
 refine zF 8 rfl tF rfl (zE 9 rfl (aJ 1 (aX { { { ({ Kind:=0,Id:=jR,Seq:=0,Of:=0,Off:=q3,Len:=20}:bC) with Kind:=3} with Seq:=x4.Seq} with Of:=x4.Of}) K27 rfl rfl rfl rfl xW rfl rfl λK28=>⟨⟨λ_=>aI 0 K28 rfl,λe=>absurd e (by decide),trivial⟩, ?_⟩))
 exact zX (qk (f:=fq7 193 _ _ _ _ _ _ _ _) K28 rfl (A3 m (l4 [1,2,3,4,5] rfl rfl (.k8 .nil))))
 rintro _ j7 m
 exact KC m
 rintro _ j8 m
 refine v (vl 0 (.agg (aX j8)) FK rfl rfl rfl (bU (eI (List.map aX ([j8]:List bC)) OM rfl rfl rfl rfl) ?_))
 obtain⟨z1,Z3,m⟩:=aC m
 exact ve λu=>fB (c:=aX) 1 Z3 OM rfl rfl rfl t4 u rfl λtg5 t5 K29=>qk K29 rfl (eR m tg5 t5 (l4 [1,2,3,4] rfl rfl (.k7 .nil)))
 rintro tg6 ⟨j9,j10⟩ t6 m
 exact v (eR m tg6 t6 (lx (.k7 .nil)))
 exact v (kT m tg4 t4 (lx (.k7 .nil)))
 rintro tg7 ⟨r2,r3,r4⟩ t7 m
 refine v (bU (fF ([nZ 3,nZ 0,.sc (.string ByteArray.empty),sZ,sZ,sZ,nZ 0,nZ j0,ow tg7 37 (List.map aX r2)]) BD (by cases tg7 <;> rfl)) (bU (s9 oN t7 rfl) (ve λu=>aJ 1 ([nZ 3,nZ 0,.sc (.string ByteArray.empty),sZ,sZ,sZ,nZ 0,nZ j0,ow tg7 37 (List.map aX r2)]) u rfl rfl rfl (by repeat (first | exact rfl | refine cC (iC _ _ _) ?_ | refine cC (bW _ _ _) ?_ | refine cC (f0 _ _ _ _) ?_ | refine cC rfl ?_)) tK rfl rfl λK30=>qk K30 rfl ?_)))
 refine v ?_
 cases m
 exact vr λu=>dV.of2 (.inl rfl) (pU (.agg ([nZ 3,nZ 0,.sc (.string ByteArray.empty),sZ,sZ,sZ,nZ 0,nZ j0,ow tg7 37 (List.map aX r2)])) nF rfl (a8 1 u rfl) rfl) (fP _ _ (.sc (.bool _)) rfl) (aR (List.nil_sublist _) u).1 (bE.agg (.k3 (.cons (aV _) (.cons (aV _) (.cons (aV _) (.k2 (.cons ((eS _ 0 t7 u rfl)) .nil))))))) (bE.refl _ _) ⟨rfl,rfl⟩
 refine v (v ?_)
 apply vi m <;> intro c16 m
 refine v (bU (fF ([nZ 4,nZ 0,.sc (.string ByteArray.empty),sZ,sZ,sZ,nZ 0,nZ j0,sZ]) BD rfl) (ve λu=>aJ 0 ([nZ 4,nZ 0,.sc (.string ByteArray.empty),sZ,sZ,sZ,nZ 0,nZ j0,sZ]) u rfl rfl rfl rfl tK rfl rfl λK31=>qk K31 rfl (v ?_)))
 cases m
 exact vr λu=>dV.of2 (.inl rfl) (pU (.agg ([nZ 4,nZ 0,.sc (.string ByteArray.empty),sZ,sZ,sZ,nZ 0,nZ j0,sZ])) nF rfl (a8 0 u rfl) rfl) (fP _ _ (.sc (.bool _)) rfl) (aR (List.nil_sublist _) u).1 (bE.agg (.k3 (.cons (aV _) (.cons (aV _) (.cons (aV _) (.k2 (.cons (aV _) .nil))))))) (bE.refl _ _) ⟨rfl,rfl⟩
 refine v (v (bU (fF ([nZ 5,nZ 0,.sc (.string ByteArray.empty),sZ,sZ,sZ,nZ 0,nZ j0,sZ]) BD rfl) (ve λu=>aJ 0 ([nZ 5,nZ 0,.sc (.string ByteArray.empty),sZ,sZ,sZ,nZ 0,nZ j0,sZ]) u rfl rfl rfl rfl tK rfl rfl λK32=>qk K32 rfl (v ?_))))
 cases m
 exact vr λu=>dV.of2 (.inl rfl) (pU (.agg ([nZ 5,nZ 0,.sc (.string ByteArray.empty),sZ,sZ,sZ,nZ 0,nZ j0,sZ])) nF rfl (a8 0 u rfl) rfl) (fP _ _ (.sc (.bool _)) rfl) (aR (List.nil_sublist _) u).1 (bE.agg (.k3 (.cons (aV _) (.cons (aV _) (.cons (aV _) (.k2 (.cons (aV _) .nil))))))) (bE.refl _ _) ⟨rfl,rfl⟩
theorem ZK:aO Tryz.prog 35=true:=by kernel_rfl
open Go.Vm
def CB (m:Nat) (p0:List lI) (q0:Int) (q1:Int):Option (Lp (Int) (Lp (Int) (Bool))):=
 (ix p0 q0).bind λx0=>if (decide (q1 < (x0.Tree.length:Int)))=true then (after ((ix p0 q0).bind λx1=>(ix x1.Tree q1).bind λx2=>if (decide (300 < (x2.Data.length:Int)))=true then (some (.brk true)) else (ix p0 q0).bind λx3=>(ix x3.Tree q1).bind λx4=>some (.brk (decide (50 < (x4.Path.size:Int)))):Option (Lp (Bool) (Lp (Int) (Lp (Int) (Bool))))) λj0=>if j0=true then (some (.ret (.ret true))) else some (.go (IntKind.wrap .i64 (q1+1)))) else some (.brk q1)
def CC (m:Nat) (p0:List lI) (q0:Int):Option (Lp (Int) (Bool)):=
 after (if (decide (q0 < (p0.length:Int)))=true then (some (.brk (decide (q0 < 30)))) else some (.brk false):Option (Lp (Bool) (Lp (Int) (Bool)))) λj0=>if j0=true then (after ((ix p0 q0).bind λx0=>if (decide (300 < (x0.Pick.length:Int)))=true then (some (.brk true)) else (ix p0 q0).bind λx1=>some (.brk (decide (10 < (x1.Tree.length:Int)))):Option (Lp (Bool) (Lp (Int) (Bool)))) λj1=>if j1=true then (some (.ret true)) else after (aW (λs=>CB m p0 q0 s) m 0) λr0=>some (.go (IntKind.wrap .i64 (q0+1)))) else some (.brk q0)
def UH (m:Nat) (p0:List lI):Option (Bool):=
 if (decide (120 < (p0.length:Int)))=true then (some true) else after (aW (λs=>CC m p0 s) m 0) λr0=>some false
theorem W14 {u:Nat} {p0:List lI} {o:Bool} (h:aE) (m:UH u p0=some o):
 aL Tryz.prog 14 [.sl none 5 (List.map eP p0)] h (λr h'=>r= .sc (.bool o)∧h'=h):=by
 refine fY 68 [.tmp 2] Tryz.func14 rfl rfl rfl rfl ?_
 unfold UH at m
 refine v (v (dL RW rfl (v ?_)))
 apply vi m <;> intro c4 m
 refine v (v ?_)
 obtain rfl:=eY m
 exact eK rfl
 refine v (v (jT m (σ:=Int) (λs=> []) (λs=>.c 0 (.sl none 5 (List.map eP p0)) (.c 3 (nZ s) .nil)) (lx (.k2 .nil)) ?_ ?_))
 rintro _ q0 x m
 replace m:CC u p0 q0=some x:=m
 unfold CC at m
 refine vs (vs (fR m (σ:=Bool) (λs=> []) (λs=>.c 0 (.sl none 5 (List.map eP p0)) (.c 3 (nZ q0) (.c 15 (.sc (.bool s)) .nil))) (λx m=> ?_) ?_))
 refine v (dL RW rfl ?_)
 apply vi m <;> intro b0 m
 rw[b0]
 exact gW m
 rw[b0]
 exact gW m
 rintro _ j0 m
 refine v ?_
 apply vi m <;> intro c0 m
 refine v (v (vs (vs (fR m (σ:=Bool) (λs=> []) (λs=>.c 0 (.sl none 5 (List.map eP p0)) (.c 3 (nZ q0) (.c 33 (.sc (.bool s)) .nil))) (λx m=> ?_) ?_))))
 refine v (vx m IH rfl rfl λ_ _ m=>dL VK rfl ?_)
 apply vi m <;> intro b1 m
 rw[b1]
 exact gW m
 rw[b1]
 exact vx m IH rfl rfl λ_ _ m=>dL yC rfl (gW m)
 rintro _ j1 m
 refine v ?_
 apply vi m <;> intro c1 m
 refine v (v (gO m λm=> ?_))
 obtain rfl:=eY m
 exact eK rfl
 refine v (v (jT m (σ:=Int) (λs=> []) (λs=>.c 0 (.sl none 5 (List.map eP p0)) (.c 3 (nZ q0) (.c 4 (nZ s) .nil))) (lx (.k3 .nil)) ?_ ?_))
 rintro _ q1 x m
 replace m:CB u p0 q0 q1=some x:=m
 unfold CB at m
 refine v (vx m IH rfl rfl λ_ _ m=>dL yC rfl (v ?_))
 apply vi m <;> intro c2 m
 refine v (v (vs (fR m (σ:=Bool) (λs=> []) (λs=>.c 0 (.sl none 5 (List.map eP p0)) (.c 3 (nZ q0) (.c 4 (nZ q1) (.c 67 (.sc (.bool s)) .nil)))) (λx m=> ?_) ?_)))
 refine v (vx m IH rfl rfl λ_ _ m=>vx m oP rfl rfl λ_ _ m=>dL lK rfl ?_)
 apply vi m <;> intro b2 m
 rw[b2]
 exact hD m
 rw[b2]
 exact vx m IH rfl rfl λ_ _ m=>vx m oP rfl rfl λ_ _ m=>bU (nR OI rfl) (hD m)
 rintro _ j2 m
 refine v ?_
 apply vi m <;> intro c3 m
 refine v (v (gO m λm=>gO m λm=> ?_))
 obtain rfl:=eY m
 exact eK rfl
 exact v (v (gW m))
 exact v (G4 m)
 rintro _ r0 m
 exact v (qA m)
 exact v (NN m)
 rintro _ r1 m
 refine v (v ?_)
 obtain rfl:=eY m
 exact eK rfl
theorem ZL:aO Tryz.prog 14=true:=by kernel_rfl
def CD (m:Nat) (p0:List Int) (q0:List Int) (q1:Int):Option (Lp ((List Int)×Int) ((List Int))):=
 after (if (decide (q1 < (p0.length:Int)))=true then (some (.brk (decide (q1 < 8)))) else some (.brk false):Option (Lp (Bool) (Lp ((List Int)×Int) ((List Int))))) λj0=>if j0=true then ((ix p0 q1).bind λx0=>(app q0 ([cF .and .i64 x0 1]:List Int)).bind λz0=>some (.go (z0,IntKind.wrap .i64 (q1+1)))) else some (.brk (q0,q1))
def ZM (m:Nat) (p0:List Int):Option ((List Int)):=
 after (aW (λs=>CD m p0 s.1 s.2) m ([],0)) λ⟨r0,r1⟩=>after (if ((r0.length:Int)==0)=true then (some (.brk ([0]:List Int))) else some (.brk r0):Option (Lp ((List Int)) ((List Int)))) λj0=>some j0
theorem W16 {w:Nat} {p0:List Int} {o:(List Int)} (h:aE) (m:ZM w p0=some o):
 aL Tryz.prog 16 [.sl none 1 (List.map iQ p0)] h (λr h'=>r= .sl none 1 (List.map iQ o)∧h'=h):=by
 refine fY 28 [.tmp 2] Tryz.func16 rfl rfl rfl rfl ?_
 unfold ZM at m
 refine v (v (v (pJ (EN (.tok 3 1 (([]:List Int).length*1)) 3 (ow none 1 (List.map iQ [])) (iZ _ _)) (m5 m (σ:=(List Int)×Int) (τ:=Option cB) (λg s=> [(g,.tok 3 1 ((s.1:List Int).length*1))]) (λg s=>(g=none→s.1= [])) (λg s=>.c 0 (.sl none 1 (List.map iQ p0)) (.c 3 (ow g 1 (List.map iQ s.1)) (.c 4 (nZ s.2) .nil))) none (λ_=>rfl) (lx (.k3 .nil)) ?_ ?_))))
 rintro tg0 ⟨q0,q1⟩ x t0 m
 replace m:CD w p0 q0 q1=some x:=m
 unfold CD at m
 refine vs (vs (fR m (σ:=Bool) (λs=> [(tg0,.tok 3 1 ((q0:List Int).length*1))]) (λs=>.c 0 (.sl none 1 (List.map iQ p0)) (.c 3 (ow tg0 1 (List.map iQ q0)) (.c 4 (nZ q1) (.c 12 (.sc (.bool s)) .nil)))) (λx m=> ?_) ?_))
 refine v (dL IG rfl ?_)
 apply vi m <;> intro b0 m
 rw[b0]
 exact hD m
 rw[b0]
 exact hD m
 rintro _ j0 m
 refine v ?_
 apply vi m <;> intro c0 m
 refine v (v (v (vx m RU rfl rfl λx0 _ m=>bU (eI (List.map iQ ([cF .and .i64 x0 1]:List Int)) OJ rfl rfl rfl rfl) ?_)))
 obtain⟨z0,Z0,m⟩:=aC m
 exact ve λu=>fB (c:=iQ) 0 Z0 OJ rfl rfl rfl t0 u rfl λtg1 t1 K0=>qk K0 rfl (v (eR m tg1 t1 (lx (.k3 .nil))))
 exact v (kT m tg0 t0 (lx (.k3 .nil)))
 rintro tg2 ⟨r0,r1⟩ t2 m
 refine v (bU (s9 IG t2 rfl) (oU m (σ:=(List Int)) (τ:=Option cB) (λg s=> [(g,.tok 3 1 ((s:List Int).length*1))]) (λg s=>(g=none→s= [])) (λg s=>.c 3 (ow g 1 (List.map iQ s)) .nil) (λx m=> ?_) ?_))
 refine v ?_
 apply vi m <;> intro c1 m
 exact v (ve λu=>E2 (c:=iQ) ([0]:List Int) u OJ rfl rfl rfl rfl λtg3 t3 K1=>qk K1 rfl (eR m tg3 t3 (l4 [0] rfl rfl (.cons (bE.refl _ _) .nil))))
 exact v (eR m tg2 t2 (lx (.cons (bE.refl _ _) .nil)))
 rintro tg4 j1 t4 m
 refine v (v ?_)
 obtain rfl:=eY m
 exact vr λu=>dV.of1 (.inl rfl) (fP _ _ (ow _ _ _) rfl) (aR (List.nil_sublist _) u).1 ((eS _ 0 t4 u rfl)) ⟨rfl,rfl⟩
theorem aEI:aO Tryz.prog 16=true:=by kernel_rfl
def CE (m:Nat) (p1:List lI) (q0:aB) (q1:Int):Option (Lp (aB×Int) (aB)):=
 after (if (decide (q1 < (p1.length:Int)))=true then (some (.brk (decide (q1 < 30)))) else some (.brk false):Option (Lp (Bool) (Lp (aB×Int) (aB)))) λj0=>if j0=true then ((ix p1 q1).bind λx0=>(UG m q0 x0).bind λy0=>after (if y0.2=true then ((ZA m q0 y0.1).bind λy1=>after (if (y1.2==0)=true then (some (.brk y1.1)) else some (.brk q0):Option (Lp (aB) (Lp (aB) (Lp (aB×Int) (aB))))) λj1=>some (.brk j1)) else some (.brk q0):Option (Lp (aB) (Lp (aB×Int) (aB)))) λj2=>some (.go (j2,IntKind.wrap .i64 (q1+1)))) else some (.brk (q0,q1))
def ZN (m:Nat) (p0:List Int) (p1:List lI):Option (aB):=
 (W2 m p0).bind λy6=>after (aW (λs=>CE m p1 s.1 s.2) m (y6,0)) λ⟨r0,r1⟩=>some r0
theorem W15 {w:Nat} {p0:List Int} {p1:List lI} {o:aB} (h:aE) (m:ZN w p0 p1=some o):
 aL Tryz.prog 15 [.sl none 1 (List.map iQ p0),.sl none 5 (List.map eP p1)] h (λr h'=>r= .agg (aF o)∧h'=h):=by
 refine fY 43 [.cell 4 30] Tryz.func15 rfl rfl rfl rfl ?_
 unfold ZN at m
 refine v (ve λu=>bI (gQ) u oM rfl rfl λk2 K3=>qk K3 rfl (v (vk W33 aC0 m rfl rfl λy6 m=>ve λu=>bI (gQ) u oM rfl rfl λk8 K9=>qk K9 rfl (ve λu=>aJ 0 (aF y6) u rfl rfl rfl rfl lA rfl rfl λK0=>qk K0 rfl (v (jT m (σ:=aB×Int) (λs=> [(some k8,.obj 30 (aF s.1)),(some k2,.obj 30 (gQ))]) (λs=>.c 1 (.sl none 5 (List.map eP p1)) (.c 4 (.ptr k2 0) (.c 5 (.ptr k8 0) (.c 6 (nZ s.2) .nil)))) (lx (.k4 .nil)) ?_ ?_))))))
 rintro _ ⟨q0,q1⟩ x m
 replace m:CE w p1 q0 q1=some x:=m
 unfold CE at m
 refine vs (vs (fR m (σ:=Bool) (λs=> [(some k8,.obj 30 (aF q0)),(some k2,.obj 30 (gQ))]) (λs=>.c 1 (.sl none 5 (List.map eP p1)) (.c 4 (.ptr k2 0) (.c 5 (.ptr k8 0) (.c 6 (nZ q1) (.c 20 (.sc (.bool s)) .nil))))) (λx m=> ?_) ?_))
 refine v (dL RW rfl ?_)
 apply vi m <;> intro b0 m
 rw[b0]
 exact mO m
 rw[b0]
 exact mO m
 rintro _ j0 m
 refine v ?_
 apply vi m <;> intro c0 m
 refine v (v (v (vz [(1000000,some k8,.obj 30 (aF q0))] mixed (λu=>⟨λ_=>aI 0 u rfl,trivial⟩) λu=>zL 0 0 (.agg (aF q0)) rfl eV rfl rfl rfl (zC 1 rfl (eT (.sl _ _ _) rfl) (zI 2 rfl rfl ?_)))))
 obtain⟨x0,X0,m⟩:=aC m
 refine zC 3 rfl (oJ X0 IH rfl rfl) (zC 4 rfl (oY (.agg (eP x0)) R7 rfl rfl) ?_)
 obtain⟨y0,Y0,m⟩:=aC m
 refine zC 5 rfl (bY (W35 _ Y0) rfl ZK rfl) (zC 6 rfl (eT (.tup _) rfl) (zC 7 rfl (UV (.agg _) rfl rfl) (zC 8 rfl (UV (.sc (.bool _)) rfl rfl) (zE 9 rfl (bI (uY) u IN rfl rfl λk155 K1=>⟨⟨λ_=>aI 1 K1 rfl,trivial⟩, ?_⟩)))))
 refine zE 10 rfl (aJ 0 (aD y0.1) K1 rfl rfl rfl rfl tK rfl rfl λK2=>⟨⟨λ_=>aI 1 K2 rfl,trivial⟩, ?_⟩)
 refine zC 11 rfl (hU (.sc (.bool _)) rfl) (zX (qk (f:=.c 8 _ (.c 7 _ (.c 31 _ (.c 30 _ (.c 23 _ (fq6 29 _ _ _ _ _ _ _)))))) K2 rfl (v (fR m (σ:=aB) (λs=> [(some k155,.obj 62 (aD y0.1)),(some k8,.obj 30 (aF s)),(some k2,.obj 30 (gQ))]) (λs=>.c 1 (.sl none 5 (List.map eP p1)) (.c 4 (.ptr k2 0) (.c 5 (.ptr k8 0) (.c 6 (nZ q1) .nil)))) (λx m=> ?_) ?_))))
 refine v ?_
 apply vi m <;> intro c1 m
 refine v (vl 1 (.agg (aF q0)) eV rfl rfl rfl (vl 0 (.agg (aD y0.1)) nF rfl rfl rfl (vk W36 aEA m rfl rfl λy1 m=>ve λu=>bI (gQ) u oM rfl rfl λk180 K4=>qk K4 rfl (ve λu=>aJ 0 (aF y1.1) u rfl rfl rfl rfl lA rfl rfl λK5=>qk K5 rfl (v (fR m (σ:=aB) (λs=> [(some k180,.obj 30 (aF y1.1)),(some k155,.obj 62 (aD y0.1)),(some k8,.obj 30 (aF s)),(some k2,.obj 30 (gQ))]) (λs=>.c 1 (.sl none 5 (List.map eP p1)) (.c 4 (.ptr k2 0) (.c 5 (.ptr k8 0) (.c 6 (nZ q1) .nil)))) (λx m=> ?_) ?_))))))
 refine v ?_
 apply vi m <;> intro c2 m
 exact v (vl 0 (.agg (aF y1.1)) eV rfl rfl rfl (ve λu=>aJ 2 (aF y1.1) u rfl rfl rfl rfl lA rfl rfl λK6=>qk K6 rfl (hD m)))
 exact v (hD m)
 rintro _ j1 m
 exact A3 m (l4 [1,2,3] rfl rfl (.k4 .nil))
 exact v (hD m)
 rintro _ j2 m
 exact v (A3 m (l4 [1,2] rfl rfl (.k4 .nil)))
 exact v (u0 m)
 rintro _ ⟨r0,r1⟩ m
 refine v (vl 0 (.agg (aF r0)) eV rfl rfl rfl (ve λu=>aJ 1 (aF r0) u rfl rfl rfl rfl lA rfl rfl λK7=>qk K7 rfl (v ?_)))
 obtain rfl:=eY m
 exact vr λu=>dV.of1 (.inl rfl) (pU (.agg (aF r0)) eV rfl (a8 1 u rfl) rfl) (aR (List.nil_sublist _) u).1 (bE.refl _ _) ⟨rfl,rfl⟩
theorem aEJ:aO Tryz.prog 15=true:=by kernel_rfl
end Go.Proofs.YtbbifdfldpfphaaGreat
namespace Go.Vm
def T {α:Type} (m:Option α) (Q:α→Prop):Prop:=∃a,m=some a∧Q a
def L3 {σ ρ:Type} (G B:σ→Prop) (R:ρ→Prop):Lp σ ρ→Prop
 | .go s=>G s
 | .brk s=>B s
 | .ret r=>R r
section
variable {α β σ ρ:Type} {Q:β→Prop}
theorem T.some {a:β} (h:Q a):T (some a) Q:=⟨a,rfl,h⟩
theorem T.mono {P:β→Prop} {m:Option β} (h:T m P) (k:∀a,P a→Q a):T m Q:=by obtain⟨a,e,p⟩:=h; exact⟨a,e,k a p⟩
theorem T.of {m:Option β} {a:β} (h:m= .some a) (hq:Q a):T m Q:=⟨a,h,hq⟩
theorem T.bind {m:Option α} {k:α→Option β} (P:α→Prop) (h:T m P) (hk:∀a,P a→T (k a) Q):T (m.bind k) Q:=by
 obtain⟨a,e,p⟩:=h
 rw[e]; exact hk a p
theorem T.bindEq {m:Option α} {k:α→Option β} {a:α} (h:m= .some a) (hk:T (k a) Q):T (m.bind k) Q:=by rw[h]; exact hk
theorem T.ite {c:Prop} [Decidable c] {a b:Option β} (h1:c→T a Q) (h2:¬c→T b Q):T (if c then a else b) Q:=by
 by_cases h:c
 ·rw[if_pos h]; exact h1 h
 ·rw[if_neg h]; exact h2 h
theorem T.grd {b:Bool} {k:Option β} (hb:b=true) (h:T k Q):T (grd b k) Q:=by unfold Go.Vm.grd; rw[if_pos hb]; exact h
theorem T.ix {l:List α} {i:Int} {k:α→Option β} (h0:0≤i) (h1:i < l.length) (hk:∀x,l[i.toNat]? =Option.some x→x∈l→T (k x) Q):T ((ix l i).bind k) Q:=by
 have hx:l[i.toNat]? =Option.some l[i.toNat]:=List.getElem?_eq_getElem (by omega)
 rw[qF l h0,hx]
 exact hk _ hx (List.getElem_mem _)
theorem T.app {xs ys:List α} {k:List α→Option β} (h:xs.length+ys.length≤1000000000) (hk:T (k (xs++ys)) Q):T ((app xs ys).bind k) Q:=by rw[dS h]; exact hk
theorem T.slc {l:List α} {a b:Int} {k:List α→Option β} (h:0≤a∧a≤b∧b≤l.length) (hk:T (k ((l.take b.toNat).drop a.toNat)) Q):T ((slc l a b).bind k) Q:=by unfold Go.Vm.slc; rw[if_pos h]; exact hk
variable {R:ρ→Prop} {G B:σ→Prop}
theorem T.go {s:σ} (h:G s):T (.some (Lp.go s)) (L3 G B R):=⟨_,rfl,h⟩
theorem T.brk {s:σ} (h:B s):T (.some (Lp.brk s)) (L3 G B R):=⟨_,rfl,h⟩
theorem T.ret {r:ρ} (h:R r):T (.some (Lp.ret r)) (L3 G B R):=⟨_,rfl,h⟩
theorem T.after {m:Option (Lp σ ρ)} {k:σ→Option ρ} (h:T m (L3 (λ_=>False) (λs=>T (k s) R) R)):T (after m k) R:=by
 obtain⟨a,e,p⟩:=h
 rw[e]
 cases a with
 | go s=>exact p.elim
 | brk s=>exact p
 | ret r=>exact⟨_,rfl,p⟩
theorem T.loopAt {step:σ→Option (Lp σ ρ)} (I:σ→Prop) (μ:σ→Nat) (hs:∀s,I s→T (step s) (L3 (λs'=>I s'∧μ s' < μ s) B R)):∀(F:Nat) (s:σ),I s→μ s < F→T (aW step F s) (L3 (λ_=>False) B R)
 | 0,_,_,h=>by omega
 | F+1,s,hi,hm=>by
  obtain⟨a,e,p⟩:=hs s hi
  unfold aW
  rw[e]
  cases a with
  | go s'=>exact T.loopAt I μ hs F s' p.1 (by have:=p.2; omega)
  | brk s'=>exact⟨_,rfl,p⟩
  | ret r=>exact⟨_,rfl,p⟩
theorem T.loop {step:σ→Option (Lp σ ρ)} {F:Nat} {s0:σ} {k:σ→Option ρ} (I:σ→Prop) (μ:σ→Nat) (B:σ→Prop) (hm:μ s0 < F) (h0:I s0) (hs:∀s,I s→T (step s) (L3 (λs'=>I s'∧μ s' < μ s) B R)) (hk:∀s,B s→T (k s) R):
    T (Go.Vm.after (aW step F s0) k) R:=T.after ((T.loopAt I μ hs F s0 h0 hm).mono λa=>by
      cases a with
      | go s=>exact λh=>h.elim
      | brk s=>exact hk s
      | ret r=>exact id)
end
theorem I9 {n:Nat} (x:Ar n):x.1.length=n:=x.2
theorem ZO (n:Int):0≤IntKind.wrap .u8 n∧IntKind.wrap .u8 n < 256:=by rw[C5]; omega
theorem wrI (n:Int): -9223372036854775808≤IntKind.wrap .i64 n∧IntKind.wrap .i64 n < 9223372036854775808:=by
 have e:IntKind.wrap .i64 n=(if decide (n % 18446744073709551616≥9223372036854775808)=true then n % 18446744073709551616 - 18446744073709551616 else n % 18446744073709551616):=rfl
 rw[e]
 simp only[decide_eq_true_eq]
 split <;> omega
end Go.Vm
namespace Go.Proofs.YtbbifdfldpfphaaGreat
open Go.Vm
theorem MT {F:Nat} {a b:Int} (hb:0≤b):T (sJ F a b) λ_=>True:=by
 unfold sJ
 refine .grd (by simpa using hb) (.grd (by simpa using PQ _) (.some trivial))
theorem aEK {F:Nat} {l:List Int} (hF:1000≤F) (hl:l.length≤300):T (MP F l) λr=>r.length % 64=0∧r.length≤l.length+80:=by
 unfold MP
 refine .app (by simp; omega) (.app (by simp; omega) ?_)
 refine .loop (λq=>l.length+1≤q.length∧q.length≤(l.length+72) / 64*64 - 8+0∧l.length+9≤(l.length+72) / 64*64) (λq=>(l.length+72) / 64*64 - 8 - q.length) (λq=>(q.length+8) % 64=0∧q.length≤l.length+64) (by simp; omega) (by simp; omega) (λq hq=> ?_) (λq hq=> ?_)
 ·unfold vN
  rw[wr (by omega) (by omega),Int.tmod_eq_emod_of_nonneg (by omega)]
  refine .ite (λhc=> ?_) λhc=> ?_
  ·have:((q.length:Int)+8) % 64≠0:=by simpa using hc
   refine .app (by simp; omega) (.go ?_)
   simp only[List.length_append,List.length_singleton]
   omega
  ·have:((q.length:Int)+8) % 64=0:=by simpa using hc
   exact .brk (by omega)
 ·refine .loop (λs=> -1≤s.2∧s.2≤7∧(s.1.length:Int)+s.2=q.length+7) (λs=>(s.2+1).toNat) (λs=>s.1.length=q.length+8) (by simp; omega) (by simp) (λs hs=> ?_) (λs hs=>.some (by omega))
  obtain⟨a,i⟩:=s
  unfold vO
  simp only at hs ⊢
  refine .ite (λhc=> ?_) λhc=> ?_
  ·have hc:=of_decide_eq_true hc
   rw[wr (n:=i - 1) (by omega) (by omega)]
   refine .grd (by simpa using PQ _) (.app (by simp; omega) (.go ?_))
   simp only[List.length_append,List.length_singleton]
   omega
  ·exact .brk (by simp only[decide_eq_true_eq] at hc; show a.length=_; omega)
theorem ZP {F:Nat} {d:List Int} (hF:1000≤F) (hl:d.length≤300):T (UF F d) mK:=by
 unfold UF
 refine .bind (λ_=>True) ⟨_,rfl,trivial⟩ λy6 _=> ?_
 refine .bind _ (aEK hF hl) λy hy=> ?_
 refine .loop (λs=>0≤s.2∧s.2 % 64=0∧s.2≤y.length) (λs=>(y.length - s.2).toNat) (λ_=>True) (by simp; omega) (by simp) (λs hs=> ?_) (λs _=> ?_)
 ·obtain⟨h,i⟩:=s
  unfold B6
  simp only at hs ⊢
  refine .ite (λhc=> ?_) λhc=>.brk trivial
  have hc:=of_decide_eq_true hc
  refine .loop (λs=>0≤s.2∧s.2≤64) (λs=>(64 - s.2).toNat) (λ_=>True) (by simp; omega) (by simp) (λs hs2=> ?_) (λs _=> ?_)
  ·obtain⟨w,j⟩:=s
   unfold B3
   simp only at hs2 ⊢
   refine .ite (λhc2=> ?_) λhc2=>.brk trivial
   have hc2:=of_decide_eq_true hc2
   have fin:IntKind.wrap .i64 (j+1)=j+1:=wr (by omega) (by omega)
   refine .after (.ite (λhc3=> ?_) λhc3=> ?_)
   ·have hc3:=of_decide_eq_true hc3
    refine .loop (λs=>0≤s.2∧s.2≤4) (λs=>(4 - s.2).toNat) (λ_=>True) (by simp; omega) (by simp) (λs hs4=> ?_) (λs _=>.brk (.go (by rw[fin]; simp only; omega)))
    obtain⟨w,k⟩:=s
    unfold B2
    simp only at hs4 ⊢
    refine .ite (λhc4=> ?_) λhc4=>.brk trivial
    have hc4:=of_decide_eq_true hc4
    rw[wr (n:=4*j) (by omega) (by omega),wr (n:=i+4*j) (by omega) (by omega),wr (n:=i+4*j+k) (by omega) (by omega),wr (n:=k+1) (by omega) (by omega)]
    refine .ix (by omega) (by rw[I9]; omega) λ_ _ _=>.ix (by omega) (by omega) λ_ _ _=>.ix (by omega) (by rw[I9]; omega) λ_ _ _=>.go ?_
    simp only
    omega
   ·have hc3:¬j < 16:=by simpa using hc3
    rw[wr (n:=j - 15) (by omega) (by omega),wr (n:=j - 2) (by omega) (by omega),wr (n:=j - 16) (by omega) (by omega),wr (n:=j - 7) (by omega) (by omega)]
    refine .ix (by omega) (by rw[I9]; omega) λ_ _ _=>.ix (by omega) (by rw[I9]; omega) λ_ _ _=>.ix (by omega) (by rw[I9]; omega) λ_ _ _=>.ix (by omega) (by rw[I9]; omega) λ_ _ _=> ?_
    refine .bind _ (MT (by omega)) λ_ _=>.bind _ (MT (by omega)) λ_ _=>.bind _ (MT (by omega)) λ_ _=>.bind _ (MT (by omega)) λ_ _=> ?_
    refine .ix (by omega) (by rw[I9]; omega) λ_ _ _=>.brk (.go ?_)
    rw[fin]; simp only; omega
  ·refine .loop (λs=>0≤s.2∧s.2≤64) (λs=>(64 - s.2).toNat) (λ_=>True) (by simp; omega) (by simp) (λs hs2=> ?_) (λs _=> ?_)
   ·obtain⟨w,j⟩:=s
    unfold B4
    simp only at hs2 ⊢
    refine .ite (λhc2=> ?_) λhc2=>.brk trivial
    have hc2:=of_decide_eq_true hc2
    have fin:IntKind.wrap .i64 (j+1)=j+1:=wr (by omega) (by omega)
    rw[fin]
    repeat' (first | exact trivial | refine T.bind _ (MT (by omega)) λ_ _=> ?_ | refine T.ix (by omega) (by rw[I9]; omega) λ_ _ _=> ?_)
    refine .go ?_
    simp only; omega
   ·refine .loop (λs=>0≤s.2∧s.2≤8) (λs=>(8 - s.2).toNat) (λ_=>True) (by simp; omega) (by simp) (λs hs2=> ?_) (λs _=> ?_)
    ·obtain⟨w,j⟩:=s
     unfold B5
     simp only at hs2 ⊢
     refine .ite (λhc2=> ?_) λhc2=>.brk trivial
     have hc2:=of_decide_eq_true hc2
     rw[wr (n:=j+1) (by omega) (by omega)]
     refine .ix (by omega) (by rw[I9]; omega) λ_ _ _=>.ix (by omega) (by rw[I9]; omega) λ_ _ _=>.ix (by omega) (by rw[I9]; omega) λ_ _ _=>.go ?_
     simp only; omega
    ·rw[wr (n:=i+64) (by omega) (by omega)]
     refine .go ?_
     simp only; omega
 ·refine .loop (λs=>0≤s.2∧s.2≤32∧mK s.1) (λs=>(32 - s.2).toNat) (λs=>mK s.1) (by simp; omega) ⟨by simp,by simp, ?_⟩ (λs hs2=> ?_) (λs hs=>.some hs)
  ·intro x hx
   have:x=0:=List.eq_of_mem_replicate hx
   subst this
   exact⟨by omega,by omega⟩
  ·obtain⟨w,j⟩:=s
   unfold vP
   simp only at hs2 ⊢
   refine .ite (λhc2=> ?_) λhc2=>.brk hs2.2.2
   have hc2:=of_decide_eq_true hc2
   rw[wr (n:=j+1) (by omega) (by omega),Int.tdiv_eq_ediv_of_nonneg (by omega),wr (n:=j / 4) (by omega) (by omega)]
   refine .ix (by omega) (by rw[I9]; omega) λ_ _ _=>.grd (by simpa using PQ _) (.ix (by omega) (by rw[I9]; omega) λ_ _ _=>.go ⟨⟨?_, ?_, ?_⟩, ?_⟩)
   ·simp only; omega
   ·simp only; omega
   ·intro x hx
    rcases List.mem_or_eq_of_mem_set hx with h | rfl
    ·exact hs2.2.2 x h
    ·exact ZO _
   ·simp only; omega
end Go.Proofs.YtbbifdfldpfphaaGreat
namespace Go.Vm
section
variable {α β ρ:Type} {Q:β→Prop}
theorem T.ins {l:List α} {r:Int} {y:α} {k:List α→Option β} (h:0≤r∧r≤l.length) (hl:l.length≤1000000) (hk:∀z:List α,z.length=l.length+1→(∀x∈z,x∈l∨x=y)→T (k z) Q):
    T ((Go.Vm.slc l 0 r).bind λx=>(Go.Vm.app ([]:List α) x).bind λz=>(Go.Vm.app z ([y]:List α)).bind λz2=>(Go.Vm.slc l r l.length).bind λx2=>(Go.Vm.app z2 x2).bind k) Q:=by
  refine .slc (by omega) (.app (by simp; omega) (.app (by simp; omega) (.slc (by omega) (.app (by simp; omega) (hk _ (by simp; omega) λx hx=> ?_)))))
  simp only[List.mem_append,List.mem_singleton] at hx
  rcases hx with ((h | h) | h) | h
  · simp at h
  · exact .inl (List.mem_of_mem_take (List.mem_of_mem_drop h))
  · exact .inr h
  · exact .inl (List.mem_of_mem_take (List.mem_of_mem_drop h))
theorem T.scan {Q:ρ→Prop} {l:List α} {F:Nat} {body:Int→Option (Lp Int ρ)} {g:α→Option (Lp Bool (Lp Int ρ))} {k:Int→Option ρ} (hF:l.length < F) (hl:l.length < 1000000)
    (hb:∀i,body i=Go.Vm.after (if decide (i < (l.length:Int))=true then (Go.Vm.ix l i).bind g else Option.some (.brk false)) λj=>if j=true then Option.some (.go (IntKind.wrap .i64 (i+1))) else Option.some (.brk i))
    (hg:∀x∈l,T (g x) (L3 (λ_=>False) (λ_=>True) (λ_=>False))) (hk:∀r:Int,0≤r∧r≤l.length→T (k r) Q):T (Go.Vm.after (aW body F 0) k) Q:=by
  refine .loop (λi=>0≤i∧i≤l.length) (λi=>(l.length - i).toNat) (λi=>0≤i∧i≤l.length) (by omega) (by omega) (λi hi=> ?_) (λi hi=>hk i hi)
  rw[hb]
  refine .after (.ite (λhc=> ?_) λhc=>.brk ?_)
  · have hc:=of_decide_eq_true hc
    refine .ix (by omega) (by omega) λx _ hx=>(hg x hx).mono λa ha=> ?_
    cases a with
    | go s=>exact ha
    | ret s=>exact ha.elim
    | brk s=>
      refine T.ite (λ_=>.go ?_) λ_=>.brk hi
      rw[wr (by omega) (by omega)]
      omega
  · exact T.ite (λh=>by cases h) λ_=>.brk hi
end
end Go.Vm
namespace Go.Proofs.YtbbifdfldpfphaaGreat
open Go.Vm
def fOk (f:dQ):Prop:=f.Path.size≤100∧gL gB f.Data
def TL (f:dQ):Prop:=fOk f∧f.Data.length≤200
theorem ZQ {F:Nat} {l:List dQ} (hF:1000≤F):T (I8 F l) λb=>b=false→l.length≤6∧∀x∈l,x.Data.length≤200:=by
 unfold I8
 refine .ite (λhc=>.some λh=>by cases h) λhc=> ?_
 have hc:l.length≤6:=by simp at hc; omega
 rw[rT (l:=l) (λx=>decide (200 < (x.Data.length:Int))) true (by omega) (λi x hx _ hi=>by
  unfold sI
  rw[jA (by omega)]
  simp only[bS,hx,Option.bind_some,Int.ofNat_lt,hi,decide_true,if_true]
  split <;> rfl) (by unfold sI; simp)]
 cases h:l.any λx=>decide (200 < (x.Data.length:Int))
 ·refine .some λ_=>⟨hc,λx hx=> ?_⟩
  have:=List.any_eq_false.1 h x hx
  simp at this
  omega
 ·exact .some λh=>by cases h
theorem aEL {F:Nat} {l:List dQ} (hF:1000≤F) (ho:∀f∈l,fOk f):T (ZC F l) λr=>r.2=0→r.1.length≤6∧∀f∈r.1,TL f:=by
  unfold ZC
  refine .bind _ (ZQ hF) λb hb=>.ite (λ_=>.some λh=>by simp at h) λhc=> ?_
  obtain⟨hn,hd⟩:=hb (by simpa using hc)
  refine .loop (λi=>0≤i∧i≤l.length) (λi=>(l.length - i).toNat) (λ_=>True) (by omega) (by omega) (λi hi=> ?_) (λi _=> ?_)
  · unfold BZ
    refine .ite (λhc=> ?_) λhc=>.brk trivial
    have hc:=of_decide_eq_true hc
    refine .ix (by omega) (by omega) λx _ hx=>.bindEq (LG hF (ho x hx).1) (.ite (λ_=>.ret λh=>by simp at h) λ_=>.go ?_)
    rw[wr (by omega) (by omega)]
    omega
  · refine .loop (λs=>0≤s.2∧s.2≤l.length∧(s.1.length:Int)=s.2∧∀f∈s.1,TL f) (λs=>(l.length - s.2).toNat) (λs=>s.1.length≤6∧∀f∈s.1,TL f) (by simp; omega) (by simp) (λs hs=> ?_) (λs hs=>.some λ_=>hs)
    obtain⟨q,i⟩:=s
    simp only at hs
    unfold B1
    refine .ite (λhc=> ?_) λhc=>.brk ⟨by simp only; omega,hs.2.2.2⟩
    have hc:=of_decide_eq_true hc
    simp only at hc
    refine .loop (λj=>0≤j∧j≤q.length) (λj=>(q.length - j).toNat) (λj=>0≤j∧j≤q.length) (by omega) (by omega) (λj hj=> ?_) (λj hj=> ?_)
    · unfold B0
      have fin:j < q.length→0≤IntKind.wrap .i64 (j+1)∧IntKind.wrap .i64 (j+1)≤q.length∧(q.length - IntKind.wrap .i64 (j+1)).toNat < (q.length - j).toNat:=λh=>by
        rw[wr (by omega) (by omega)]; omega
      refine .after (.ite (λhc2=> ?_) λhc2=>.brk (T.ite (λh=>by cases h) λ_=>.brk hj))
      have hc2:=of_decide_eq_true hc2
      have:=fin hc2
      refine .ix (by omega) (by omega) λx _ hx=>.ix (by omega) (by omega) λy _ hy=>.brk (T.ite (λ_=>.go (by omega)) λ_=>.brk hj)
    · have rest:T (if (false:Bool)=true then some (.ret ([],9)) else (slc q 0 j).bind λx494=>(ix l i).bind λx496=>(ix l i).bind λx498=>(app ([]:List dQ) x494).bind λz500=>(yJ F x498.Data).bind λy506=>(app z500 ([({ Path:=x496.Path,Data:=y506}:dQ)]:List dQ)).bind λz508=>(slc q j (q.length:Int)).bind λx513=>(app z508 x513).bind λz515=>some (.go (z515,IntKind.wrap .i64 (i+1))))
          (L3 (λs':List dQ×Int=>(0≤s'.2∧s'.2≤l.length∧(s'.1.length:Int)=s'.2∧∀f∈s'.1,TL f)∧(l.length - s'.2).toNat < (l.length - i).toNat) (λs=>s.1.length≤6∧∀f∈s.1,TL f) (λr:List dQ×Int=>r.2=0→r.1.length≤6∧∀f∈r.1,TL f)):=by
        refine T.ite (λh=>by cases h) λ_=> ?_
        rw[wr (n:=i+1) (by omega) (by omega)]
        refine .slc (by omega) (.ix (by omega) (by omega) λx _ hx=>.ix (by omega) (by omega) λy _ hy=>.app (by simp; omega) (.bindEq (PB (by have:=hd y hy; omega)) (.app (by simp; omega) (.slc (by omega) (.app (by simp; omega) (.go ?_))))))
        refine⟨⟨by simp only; omega,by simp only; omega,by simp; omega,λf hf=> ?_⟩,by simp only; omega⟩
        simp only[List.mem_append,List.mem_singleton] at hf
        rcases hf with ((h | h) | h) | h
        · simp at h
        · exact hs.2.2.2 f (List.mem_of_mem_take (List.mem_of_mem_drop h))
        · subst h
          exact⟨⟨(ho x hx).1,(ho y hy).2⟩,hd y hy⟩
        · exact hs.2.2.2 f (List.mem_of_mem_take (List.mem_of_mem_drop h))
      refine .after (.ite (λhc2=> ?_) λhc2=>.brk rest)
      have hc2:=of_decide_eq_true hc2
      refine .ix (by omega) (by omega) λx _ hx=>.ix (by omega) (by omega) λy _ hy=>.brk ?_
      cases x.Path.toList==y.Path.toList
      · exact rest
      · exact .ret λh=>by simp at h
theorem aEM {F:Nat} {l:List Int} (hF:1000≤F) (h0:0 < l.length) (hl:l.length≤300):T (MR F l) λk=>0 < k∧k≤l.length∧(8≤k∨k=l.length):=by
 unfold MR
 refine .loop (λs=>0≤s.2∧s.2≤l.length) (λs=>(l.length - s.2).toNat) (λ_=>True) (by simp; omega) (by simp) (λs hs=> ?_) (λs _=>.some (by omega))
 obtain⟨h,i⟩:=s
 simp only at hs
 unfold vR
 refine .ite (λhc=> ?_) λhc=>.brk trivial
 have hc:=of_decide_eq_true hc
 simp only at hc
 rw[wr (n:=i+1) (by omega) (by omega)]
 have k2:(8≤i+1)∨¬(8≤i+1):=by omega
 have e64:(i+1==64)=decide (i+1=64):=rfl
 refine .ix (by omega) (by omega) λx _ hx=>.after (.ite (λhc2=> ?_) λhc2=> ?_)
 ·have hc2:=of_decide_eq_true hc2
  refine .ite (λ_=>.brk (T.ite (λ_=>.ret (by omega)) λh=>absurd rfl h)) λ_=>.brk (T.ite (λ_=>.ret (by omega)) λ_=>.go (by simp only; omega))
 ·refine .brk (T.ite (λh=>.ret ?_) λ_=>.go (by simp only; omega))
  have:i+1=64:=by simpa using h
  omega
theorem aEN {F:Nat} {l:List Int} (hF:1000≤F) (hl:l.length≤200) (gl:gL gB l):T (MS F l) λr=>r.length≤25∧∀x∈r,x.length≤300∧gL gB x:=by
 unfold MS
 refine .loop (λs=>s.2.length≤l.length∧gL gB s.2∧(8*s.1.length+s.2.length≤l.length∨(s.2.length=0∧8*s.1.length≤l.length+7))∧∀x∈s.1,x.length≤300∧gL gB x) (λs=>s.2.length) (λs=>s.1.length≤25∧∀x∈s.1,x.length≤300∧gL gB x) (by simp; omega) (by simp[gl]) (λs hs=> ?_) (λs hs=>.some hs)
 obtain⟨q,d⟩:=s
 simp only at hs
 obtain⟨s1,s2,s3,s4⟩:=hs
 unfold vS
 refine .ite (λhc=> ?_) λhc=>.brk ⟨by simp only; omega,s4⟩
 have hc:=of_decide_eq_true hc
 simp only at hc
 refine .bind _ (aEM hF (by simp only; omega) (by simp only; omega)) λk hk=>.slc (by omega) (.bindEq (PB (by simp; omega)) (.app (by simp; omega) (.slc (by simp only at hk ⊢; omega) (.go ?_))))
 simp only at hk ⊢
 refine⟨⟨by simp; omega,λx hx=>s2 x (List.mem_of_mem_take (List.mem_of_mem_drop hx)),by simp; omega,λx hx=> ?_⟩,by simp; omega⟩
 rcases List.mem_append.1 hx with h | h
 ·exact s4 x h
 ·rw[List.mem_singleton] at h
  subst h
  exact⟨by simp; omega,λy hy=>s2 y (List.mem_of_mem_take (List.mem_of_mem_drop hy))⟩
theorem aEO {F:Nat} {l:List dQ} (hF:1000≤F) (ho:∀f∈l,fOk f):T (MQ F l) λ_=>True:=by
 unfold MQ
 refine .bind _ (ZQ hF) λb hb=>.ite (λ_=>.some trivial) λhc=> ?_
 obtain⟨hn,hd⟩:=hb (by simpa using hc)
 refine .loop (λi=>0≤i∧i≤l.length) (λi=>(l.length - i).toNat) (λ_=>True) (by omega) (by omega) (λi hi=> ?_) (λi _=>.some trivial)
 unfold vQ
 refine .ite (λhc=> ?_) λhc=>.brk trivial
 have hc:=of_decide_eq_true hc
 rw[wr (n:=i+1) (by omega) (by omega)]
 have fin:∀b:Bool,T (if b=true then (some (.ret 1):Option (Lp Int Int)) else some (.go (i+1))) (L3 (λs'=>(0≤s'∧s'≤l.length)∧(l.length - s').toNat < (l.length - i).toNat) (λ_=>True) (λ_=>True)):=λb=>T.ite (λ_=>.ret trivial) λ_=>.go (by omega)
 refine .after (.ix (by omega) (by omega) λx _ hx=>.bindEq (LG hF (ho x hx).1) (.ite (λ_=>.brk (fin _)) λ_=>.ite (λh=> ?_) λ_=>.brk (fin _)))
 have h:=of_decide_eq_true h
 rw[wr (by omega) (by omega)]
 exact .ix (by omega) (by omega) λ_ _ _=>.ix (by omega) (by omega) λ_ _ _=>.brk (fin _)
theorem aEP {F:Nat} {l:List bP} {d:bP} (hF:1000≤F) (hl:l.length < 900) (gl:∀x∈l,mK x) (hd:mK d):
    T (DN F l d) λr=>0≤r.2.1∧r.2.1≤l.length∧r.1.length=l.length+(if r.2.2=true then 1 else 0)∧∀x∈r.1,mK x:=by
  unfold DN
  refine T.scan (by omega) (by omega) (λ_=>rfl) (λx hx=>.bindEq (WW hF (gl x hx) hd) (.brk trivial)) λr hr=> ?_
  have rest:T ((slc l 0 r).bind λx84=>(app ([]:List bP) x84).bind λz86=>(app z86 ([d]:List bP)).bind λz92=>(slc l r (l).length).bind λx98=>(app z92 x98).bind λz100=>some (z100,r,true))
      λr=>0≤r.2.1∧r.2.1≤l.length∧r.1.length=l.length+(if r.2.2=true then 1 else 0)∧∀x∈r.1,mK x:=by
    refine .ins hr (by omega) λz h1 h2=>.some ⟨hr.1,hr.2,h1,λx hx=> ?_⟩
    rcases h2 x hx with h | rfl
    · exact gl x h
    · exact hd
  refine .after (.ite (λhc=> ?_) λ_=>.brk (T.ite (λh=>by cases h) λ_=>rest))
  have hc:=of_decide_eq_true hc
  refine .ix (by omega) (by omega) λx _ hx=>.brk ?_
  refine T.ite (λ_=>.some ?_) λ_=>rest
  exact⟨hr.1,hr.2,rfl,gl⟩
open Go.Vm
def HO (m:bF):Prop:=m.Name.size≤100∧m.Parts.length≤10∧(∀p∈m.Parts,p.Path.size≤100∧p.Ids.length≤40)∧wY m
def MU (l:List (List Int)) (n:Nat):Prop:=l.length≤n∧∀x∈l,x.length≤300∧gL gB x
structure MV (c:aS):Prop where
 seq:gI c.Snap.Seq
 man:HO c.Snap.Man
 locs:c.Snap.Locs= []
 cn:c.Chunks.length≤160
 ch:∀x∈c.Chunks,mK x.Id∧x.Data.length≤300∧gL gB x.Data∧x.Locs= []
 sq:gI c.Seq
 vol:gI c.Vol
 it:c.Items.length≤64
 iti:∀x∈c.Items,gI x.Seq∧gI x.Of∧gI x.Off∧gI x.Len
theorem TM:HO { Name:=ByteArray.empty,Parts:= []}:=⟨by decide,by simp,by simp,trivial,λ_ h=>by simp at h⟩
theorem aEQ {F:Nat} {nm:ByteArray} {fs:List dQ} (hF:1000≤F) (hn:nm.size≤100) (h6:fs.length≤6) (ho:∀f∈fs,TL f):T (ZJ F nm fs) λr=>HO r.1∧MU r.2.1 150:=by
 unfold ZJ
 refine .bindEq (LG hF hn) (.ite (λ_=>.some ⟨TM,by simp,by simp⟩) λ_=>.bind _ (aEO hF λf hf=>(ho f hf).1) λy _=>.ite (λ_=>.some ⟨TM,by simp,by simp⟩) λ_=> ?_)
 refine .loop (λs=>0≤s.2.2.2∧s.2.2.2≤fs.length∧(s.1.length:Int)=s.2.2.2∧(∀p∈s.1,(p.Path.size≤100∧p.Ids.length≤40)∧FW p)∧(s.2.1.length:Int)≤25*s.2.2.2∧(∀x∈s.2.1,x.length≤300∧gL gB x)∧s.2.2.1.length=s.2.1.length∧∀x∈s.2.2.1,mK x)
  (λs=>(fs.length - s.2.2.2).toNat) (λs=>(s.1.length≤6∧∀p∈s.1,(p.Path.size≤100∧p.Ids.length≤40)∧FW p)∧MU s.2.1 150) (by simp; omega) (by simp) (λs hs=> ?_) (λs hs=> ?_)
 ·obtain⟨ps,ds,ids,i⟩:=s
  simp only at hs
  obtain⟨s1,s2,s3,s4,s5,s6,s7,s8⟩:=hs
  unfold B8
  refine .ite (λhc=> ?_) λhc=>.brk ⟨⟨by simp only; omega,s4⟩,by simp only; omega,s6⟩
  have hc:=of_decide_eq_true hc
  simp only at hc
  rw[wr (n:=i+1) (by omega) (by omega)]
  refine .ix (by omega) (by omega) λx e hx=>.ix (by omega) (by omega) λx2 e2 hx2=>.ix (by omega) (by omega) λx3 e3 hx3=>.bind _ (aEN hF (ho x3 hx3).2 (ho x3 hx3).1.2) λy hy=> ?_
  obtain⟨y1,y2⟩:=hy
  refine .loop (λs=>0≤s.2.2.2∧s.2.2.2≤y.length∧(s.1.length:Int)=s.2.2.2∧(∀d∈s.1,mK d)∧(s.2.1.length:Int)≤25*i+s.2.2.2∧(∀x∈s.2.1,x.length≤300∧gL gB x)∧s.2.2.1.length=s.2.1.length∧∀x∈s.2.2.1,mK x)
   (λs=>(y.length - s.2.2.2).toNat) (λs=>(s.1.length≤25∧(∀d∈s.1,mK d))∧(s.2.1.length:Int)≤25*i+25∧(∀x∈s.2.1,x.length≤300∧gL gB x)∧s.2.2.1.length=s.2.1.length∧∀x∈s.2.2.1,mK x) (by simp; omega) ⟨by simp,by simp,by simp,by simp,by simp only; omega,s6,s7,s8⟩ (λs hs=> ?_) (λs hs=> ?_)
  ·obtain⟨q,ds,ids,j⟩:=s
   simp only at hs
   obtain⟨r1,r2,r3,r4,r5,r6,r7,r8⟩:=hs
   unfold B7
   refine .ite (λhc2=> ?_) λhc2=>.brk ⟨⟨by simp only; omega,r4⟩,by simp only; omega,r6,r7,r8⟩
   have hc2:=of_decide_eq_true hc2
   simp only at hc2
   rw[wr (n:=j+1) (by omega) (by omega)]
   refine .ix (by omega) (by omega) λz _ hz=>.bind _ (ZP hF (y2 z hz).1) λd hd=>.app (by simp; omega) (.bind _ (aEP hF (by simp only; omega) r8 hd) λr hr=> ?_)
   obtain⟨q1,q2,q3,q4⟩:=hr
   simp only at q2 q3
   have hq:∀a∈q++ [d],mK a:=λa ha=>by
    rcases List.mem_append.1 ha with h | h
    ·exact r4 a h
    ·rw[List.mem_singleton] at h; exact h ▸ hd
   refine .after (.ite (λhi=> ?_) λhi=>.brk (.go ?_))
   ·rw[if_pos hi] at q3
    refine .slc (by simp only; omega) (.ix (by omega) (by omega) λz2 _ hz2=>.app (by simp; omega) (.app (by simp; omega) (.slc (by simp only; omega) (.app (by simp; omega) (.brk (.go ?_))))))
    refine⟨⟨by simp only; omega,by simp only; omega,by simp; omega,hq,by simp; omega,λa ha=> ?_,by simp; omega,q4⟩,by simp only; omega⟩
    simp only[List.mem_append,List.mem_singleton] at ha
    rcases ha with ((h | h) | h) | h
    ·simp at h
    ·exact r6 a (List.mem_of_mem_take (List.mem_of_mem_drop h))
    ·exact h ▸ y2 z2 hz2
    ·exact r6 a (List.mem_of_mem_take (List.mem_of_mem_drop h))
   ·rw[if_neg hi] at q3
    exact⟨⟨by simp only; omega,by simp only; omega,by simp; omega,hq,by simp only; omega,r6,by simp only; omega,q4⟩,by simp only; omega⟩
  ·obtain⟨q,ds2,ids2,j⟩:=s
   simp only at hs
   obtain⟨⟨a1,a2⟩,a3,a4,a5,a6⟩:=hs
   refine .app (by simp; omega) (.go ?_)
   refine⟨⟨by simp only; omega,by simp only; omega,by simp; omega,λp hp=> ?_,by simp only; omega,a4,a5,a6⟩,by simp only; omega⟩
   rcases List.mem_append.1 hp with h | h
   ·exact s4 p h
   ·rw[List.mem_singleton] at h
    subst h
    have:=(ho x2 hx2).2
    exact⟨⟨(ho x hx).1.1,by simp only; omega⟩,trivial,by simp only[gI]; omega,a2⟩
 ·obtain⟨ps,ds,ids,i⟩:=s
  exact .some ⟨⟨hn,by have:=hs.1.1; simp only at this ⊢; omega,λp hp=>(hs.1.2 p hp).1,trivial,λp hp=>(hs.1.2 p hp).2⟩,hs.2⟩
theorem ZR (n:Int):∃b,KA [IntKind.wrap .u8 n]=some b∧b.size=1:=by
 have h:=ZO n
 refine⟨_,by unfold KA; rw[if_pos (by simp; omega)], ?_⟩
 rfl
structure Ok (c:aB):Prop where
 sm:Sm c
 rg:Rng c
theorem xM (n:Int):gI (IntKind.wrap .i64 n):=wrI n
theorem GI {k s:Int} {v:Int} (hs:gI s) (hv:gI v) {l:List bC} (h6:l.length≤64) (hl:∀x∈l,gI x.Seq∧gI x.Of∧gI x.Off∧gI x.Len):
    MV { Kind:=k,Snap:= { Seq:=0,Man:= { Name:=ByteArray.empty,Parts:= []},Locs:= []},Chunks:= [],Seq:=s,Vol:=v,Items:=l}:=
  ⟨by simp[gI],TM,rfl,by simp,by simp,hs,hv,h6,hl⟩
structure Q1 (c:aB) (n:Int) (x:bC):Prop where
 id:mK x.Id
 q:0≤x.Seq∧x.Seq≤1073741824
 of:gI x.Of
 off:gI x.Off
 len:gI x.Len
 w:(x.Kind=1∧x.Seq=0∧∃j:Nat,(j:Int) < n∧∃y,c.Chunks[j]? =some y∧y.Id=x.Id)∨(x.Kind=2∧x.Id=jR∧∃j:Nat,(c.Chunks.length:Int)+j < n∧∃y,c.Snaps[j]? =some y∧y.Seq=x.Seq)∨
  (x.Kind=3∧x.Id=jR∧∃j:Nat,(c.Chunks.length:Int)+c.Snaps.length+j < n∧∃y,c.Exps[j]? =some y∧y.Seq=x.Seq∧y.Of=x.Of)
def Nd (q:List bC):Prop:=q.Pairwise λa b=>a.Kind=b.Kind→a.Id=b.Id→a.Seq≠b.Seq
structure JA (c:aB) (n:Int) (q:List bC):Prop where
 a:∀x∈q,Q1 c n x
 d:Nd q
theorem Q1.mono {c:aB} {n m:Int} {x:bC} (h:Q1 c n x) (hm:n≤m):Q1 c m x:=⟨h.id,h.q,h.of,h.off,h.len,by
 rcases h.w with⟨a,b,j,k,e⟩ | ⟨a,b,j,k,e⟩ | ⟨a,b,j,k,e⟩
 ·exact .inl ⟨a,b,j,by omega,e⟩
 ·exact .inr (.inl ⟨a,b,j,by omega,e⟩)
 ·exact .inr (.inr ⟨a,b,j,by omega,e⟩)⟩
theorem ZS {α:Type} {R:α→α→Prop} {l:List α} (h:l.Pairwise R) {i j:Nat} {x y:α} (hx:l[i]? =some x) (hy:l[j]? =some y) (hij:i < j):R x y:=by
 obtain⟨h1,rfl⟩:=List.getElem?_eq_some_iff.1 hx
 obtain⟨h2,rfl⟩:=List.getElem?_eq_some_iff.1 hy
 exact List.pairwise_iff_getElem.1 h i j h1 h2 hij
theorem MW:mK jR:=by
 intro x hx
 have:x=0:=List.eq_of_mem_replicate (n:=32) hx
 subst this
 exact⟨by omega,by omega⟩
theorem JA.put {c:aB} {n:Int} {q:List bC} {y:bC} (hG:Gd c) (h:JA c n q) (hy:Q1 c (n+1) y) (hn:¬Q1 c n y):JA c (n+1) (q++ [y]):=by
 refine⟨λx hx=> ?_,List.pairwise_append.2 ⟨h.d,List.pairwise_singleton _ _,λx hx z hz e1 e2 e3=> ?_⟩⟩
 ·rcases List.mem_append.1 hx with h1 | h1
  ·exact(h.a x h1).mono (by omega)
  ·rw[List.mem_singleton.1 h1]; exact hy
 ·rw[List.mem_singleton.1 hz] at e1 e2 e3
  refine hn ⟨hy.id,hy.q,hy.of,hy.off,hy.len, ?_⟩
  rcases(h.a x hx).w with⟨a,b,j,k,u,u1,u2⟩ | ⟨a,b,j,k,u,u1,u2⟩ | ⟨a,b,j,k,u,u1,u2,u3⟩
  ·exact .inl ⟨by omega,by omega,j,k,u,u1,by rw[u2,e2]⟩
  ·exact .inr (.inl ⟨by omega,by rw[← e2,b],j,k,u,u1,by omega⟩)
  ·rcases hy.w with⟨a',_⟩ | ⟨a',_⟩ | ⟨a',b',j',k',v,v1,v2,v3⟩
   ·omega
   ·omega
   ·rcases Nat.lt_trichotomy j j' with w | w | w
    ·have:=ZS hG.eo u1 v1 w; omega
    ·subst w
     exact .inr (.inr ⟨a',b',j,k,v,v1,v2,v3⟩)
    ·have:=ZS hG.eo v1 u1 w; omega
structure Mk (c:aB) (d:aS):Prop where
 k:0≤d.Kind∧d.Kind≤5
 v:0≤d.Vol∧d.Vol < c.Vols.length
 e:d.Kind≠3→d.Items= []
 it:JA c 1000 d.Items∨∃s∈c.Snaps,d.Items= [{ Kind:=3,Id:=jR,Seq:=c.Seq,Of:=s.Seq,Off:=13,Len:=17}]
theorem GJ (c:aB) (n:Int):JA c n []:=⟨by simp,.nil⟩
theorem TN {c:aB} {k s v:Int} {p:aG} {l:List bC} {m:List aA} (hk:0≤k∧k≤5) (hv:0≤v∧v < c.Vols.length) (he:k≠3→l= []) (h:JA c 1000 l):Mk c { Kind:=k,Snap:=p,Chunks:=m,Seq:=s,Vol:=v,Items:=l}:=⟨hk,hv,he,.inl h⟩
theorem t66 {F:Nat} {c:aB} {a:lI} (hF:1000≤F) (hc:Ok c) (hG:Gd c) (ho:∀f∈a.Tree,fOk f):T (UG F c a) λr=>MV r.1∧Mk c r.1:=by
  have g0:gI 0:=by simp[gI]
  have c1:=hc.rg.ch
  have c2:=hc.rg.sn
  have c3:=hc.rg.ex
  have c4:=hc.rg.vo
  have gq:=hc.sm.g.1
  unfold UG
  obtain⟨b,hb,hb1⟩:=ZR (IntKind.wrap .u64 (97+((IntKind.wrap .u64 a.N).tmod 5)))
  rw[hb]
  have e1:(ByteArray.mk #[110]).size=1:=rfl
  have e2:((ByteArray.mk #[110])++b).size=2:=by rw[ByteArray.size_append,e1,hb1]
  have hvn:=hG.vn
  simp only[gP,Bool.and_eq_true,decide_eq_true_eq] at hvn
  have v0:(0:Int)≤0∧(0:Int) < c.Vols.length:=by omega
  have hq:=hG.q
  simp only[gP,Bool.and_eq_true,decide_eq_true_eq] at hq
  refine .bindEq rfl (.grd (by rw[e1,hb1]; rfl) ?_)
  refine .after (T.mono (P:=L3 (λ_=>False) (λv=>gI v∧0≤v∧v < c.Vols.length) (λ_=>False)) (.ite (λh=> ?_) λ_=>.brk ⟨g0,v0⟩) λj hj=> ?_)
  · have h:=of_decide_eq_true h
    obtain⟨w,hw1,hw⟩:=YX a.Vol (n:=c.Vols.length) (by omega) (by omega)
    rw[← wru (n:=c.Vols.length) (by omega)] at hw
    refine .grd ?_ (.brk ⟨xM _,by rw[hw]; omega⟩)
    rw[wru (by omega)]
    simp
    intro h2
    rw[h2] at h
    simp at h
  cases j with
  | go s=>exact hj
  | ret s=>exact hj.elim
  | brk v=>
  replace hj:gI v∧0≤v∧v < c.Vols.length:=hj
  refine T.after (T.mono (P:=L3 (λ_=>False) (λ_=>True) (λ_=>False)) (.ite (λ_=>.brk trivial) λ_=>.brk trivial) λj hj2=> ?_)
  cases j with
  | go s=>exact hj2
  | ret s=>exact hj2.elim
  | brk v2=>
  refine T.ite (λ_=> ?_) λ_=> ?_
  · refine .bind _ (aEL hF ho) λy hy=>.ite (λ_=>.some ⟨GI g0 g0 (by simp) (by simp),TN (by decide) v0 (λ_=>rfl) (GJ _ _)⟩) λh0=> ?_
    obtain⟨y1,y2⟩:=hy (by simpa using h0)
    refine .bind _ (aEQ hF (by omega) y1 y2) λm hm=> ?_
    obtain⟨m1,m2,m3⟩:=hm
    refine .loop (λs=>0≤s.2∧s.2≤m.2.1.length∧(s.1.length:Int)≤s.2∧∀x∈s.1,mK x.Id∧x.Data.length≤300∧gL gB x.Data∧x.Locs= []) (λs=>(m.2.1.length - s.2).toNat) (λs=>s.1.length≤160∧∀x∈s.1,mK x.Id∧x.Data.length≤300∧gL gB x.Data∧x.Locs= []) (by simp; omega) (by simp) (λs hs=> ?_) (λs hs=> ?_)
    · obtain⟨q,i⟩:=s
      simp only at hs
      unfold B9
      refine .ite (λh=> ?_) λ_=>.brk ⟨by simp only; omega,hs.2.2.2⟩
      have h:=of_decide_eq_true h
      simp only at h
      rw[wr (n:=i+1) (by omega) (by omega)]
      obtain⟨n,hn,_⟩:=m64 (F:=F) (c:=c) (d:=jR) hF (by omega)
      refine .ix (by omega) (by omega) λx _ hx=>.bind _ (ZP hF (m3 x hx).1) λd hd=> ?_
      obtain⟨n,hn,_⟩:=m64 (F:=F) (c:=c) (d:=d) hF (by omega)
      refine .bindEq hn (.after (.ite (λ_=>.ix (by omega) (by omega) λx2 _ hx2=>.app (by simp; omega) (.brk (.go ?_))) λ_=>.brk (.go ⟨⟨by simp only; omega,by simp only; omega,by simp only; omega,hs.2.2.2⟩,by simp only; omega⟩)))
      refine⟨⟨by simp only; omega,by simp only; omega,by simp; omega,λy hy=> ?_⟩,by simp only; omega⟩
      rcases List.mem_append.1 hy with h | h
      · exact hs.2.2.2 y h
      · rw[List.mem_singleton] at h
        subst h
        exact⟨hd,(m3 x2 hx2).1,(m3 x2 hx2).2,rfl⟩
    · obtain⟨q,i⟩:=s
      exact .some ⟨⟨gq,m1,rfl,hs.1,hs.2,g0,g0,by simp,by simp⟩,TN (by decide) v0 (λ_=>rfl) (GJ _ _)⟩
  · refine T.after (T.mono (P:=L3 (λ_=>False) (λ_=>True) (λ_=>False)) (.ite (λ_=>.brk trivial) λ_=>.brk trivial) λj hj2=> ?_)
    cases j with
    | go s=>exact hj2
    | ret s=>exact hj2.elim
    | brk v3=>
    refine T.ite (λ_=> ?_) λ_=> ?_
    · refine .ite (λ_=>.some ⟨GI g0 g0 (by simp) (by simp),TN (by decide) v0 (λ_=>rfl) (GJ _ _)⟩) λh0=> ?_
      have h0:0 < c.Snaps.length:=by
        have:¬((c.Snaps.length:Int)=0):=by simpa using h0
        omega
      obtain⟨k,hk,ek⟩:=YX a.N h0 (by omega)
      rw[wru (by omega),ek]
      refine .grd (by simp; intro h; rw[h] at h0; simp at h0) (.ix (by omega) (by omega) λx _ hx=> ?_)
      have gx:=hc.sm.g.2.1 x hx
      refine .ite (λ_=>.some ⟨GI gx.1 g0 (by simp) (by simp),TN (by decide) v0 (λ_=>rfl) (GJ _ _)⟩) λ_=>.some ⟨GI g0 hj.1 (by simp) λy hy=> ?_,(show (0:Int)≤3∧(3:Int)≤5 by decide),hj.2,λh=>absurd rfl h,.inr ⟨x,hx,rfl⟩⟩
      rw[List.mem_singleton] at hy
      subst hy
      exact⟨gq,gx.1,by simp[gI],by simp[gI]⟩
    · refine T.after (T.mono (P:=L3 (λ_=>False) (λ_=>True) (λ_=>False)) (.ite (λ_=>.brk trivial) λ_=>.brk trivial) λj hj2=> ?_)
      cases j with
      | go s=>exact hj2
      | ret s=>exact hj2.elim
      | brk v4=>
      refine T.ite (λ_=> ?_) λ_=>.ite (λ_=>.some ⟨GI g0 hj.1 (by simp) (by simp),TN (by decide) hj.2 (λ_=>rfl) (GJ _ _)⟩) λ_=>.some ⟨GI g0 hj.1 (by simp) (by simp),TN (by decide) hj.2 (λ_=>rfl) (GJ _ _)⟩
      have w1:IntKind.wrap .i64 ((c.Chunks.length:Int)+(c.Snaps.length:Int))=(c.Chunks.length:Int)+(c.Snaps.length:Int):=wr (by omega) (by omega)
      have w2:IntKind.wrap .i64 ((c.Chunks.length:Int)+(c.Snaps.length:Int)+(c.Exps.length:Int))=(c.Chunks.length:Int)+(c.Snaps.length:Int)+(c.Exps.length:Int):=wr (by omega) (by omega)
      refine .loop (λs=>0≤s.2.2∧s.2.2≤420∧s.1.length≤64∧JA c s.2.2 s.1∧gI s.2.1) (λs=>(420 - s.2.2).toNat) (λs=>s.1.length≤64∧JA c 1000 s.1) (by simp; omega) ⟨by simp,by simp,by simp,GJ _ _,by simp[gI]⟩ (λs hs=> ?_) (λs hs=> ?_)
      · obtain⟨q,o,i⟩:=s
        simp only at hs
        obtain⟨s1,s2,s3,s4,s5⟩:=hs
        unfold CA
        simp only[w1,w2]
        have fin:JA c 1000 q:=⟨λx hx=>(s4.a x hx).mono (by omega),s4.d⟩
        have s4':JA c (i+1) q:=⟨λx hx=>(s4.a x hx).mono (by omega),s4.d⟩
        refine .after (.ite (λh=>.brk (T.ite (λh2=> ?_) λ_=>.brk ⟨s3,fin⟩)) λ_=>.brk (T.ite (λh=>by cases h) λ_=>.brk ⟨s3,fin⟩))
        have h:=of_decide_eq_true h
        have h2:=of_decide_eq_true h2
        rw[wr (n:=i+1) (by omega) (by omega)]
        have put:∀y:bC,Q1 c (i+1) y→¬Q1 c i y→T ((app q ([y]:List bC)).bind λz1648=>some (.brk (z1648,IntKind.wrap .i64 (o+20))):Option (Lp (List bC×Int) (Lp (List bC×Int×Int) (aS×Bool))))
            (L3 (λ_=>False) (λs=>s.1.length≤64∧JA c (i+1) s.1∧gI s.2) (λ_=>False)):=λy hy hy2=>.app (by simp; omega) (.brk ⟨by simp; omega,s4.put hG hy hy2,xM _⟩)
        have g20:gI 20:=by simp[gI]
        refine .after (T.mono (P:=L3 (λ_=>False) (λs=>s.1.length≤64∧JA c (i+1) s.1∧gI s.2) (λ_=>False)) (.after ?_) λj hj3=> ?_)
        · have mid:T (after (if (decide (i < (c.Chunks.length:Int)))=true then ((ix c.Chunks i).bind λx1596=>some (.brk { { ({ Kind:=0,Id:=jR,Seq:=0,Of:=0,Off:=o,Len:=20}:bC) with Kind:=1} with Id:=x1596.Id})) else after (if (decide (i < (c.Chunks.length:Int)+(c.Snaps.length:Int)))=true then ((ix c.Snaps (IntKind.wrap .i64 (i - (c.Chunks.length:Int)))).bind λx1629=>some (.brk { { ({ Kind:=0,Id:=jR,Seq:=0,Of:=0,Off:=o,Len:=20}:bC) with Kind:=2} with Seq:=x1629.Seq})) else (ix c.Exps (IntKind.wrap .i64 ((IntKind.wrap .i64 (i - (c.Chunks.length:Int))) - (c.Snaps.length:Int)))).bind λx1634=>some (.brk { { { ({ Kind:=0,Id:=jR,Seq:=0,Of:=0,Off:=o,Len:=20}:bC) with Kind:=3} with Seq:=x1634.Seq} with Of:=x1634.Of}):Option (Lp (bC) (Lp (bC) (Lp ((List bC)×Int) (Lp ((List bC)×Int×Int) (aS×Bool)))))) λj1623=>some (.brk j1623):Option (Lp (bC) (Lp ((List bC)×Int) (Lp ((List bC)×Int×Int) (aS×Bool))))) λj1590=>(app q ([j1590]:List bC)).bind λz1648=>some (.brk (z1648,IntKind.wrap .i64 (o+20))):Option (Lp ((List bC)×Int) (Lp ((List bC)×Int×Int) (aS×Bool))))
              (L3 (λ_=>False) (λs=>s.1.length≤64∧JA c (i+1) s.1∧gI s.2) (λ_=>False)):=by
            refine .after (.ite (λh3=> ?_) λh3=>.after (.ite (λh4=> ?_) λh4=> ?_))
            · have h3:=of_decide_eq_true h3
              refine .ix (by omega) (by omega) λx ex hx=>.brk (put _ ⟨(hc.sm.g.2.2.1 x hx).1,by simp,g0,s5,g20,.inl ⟨rfl,rfl,i.toNat,by omega,x,ex,rfl⟩⟩ λh=> ?_)
              rcases h.w with⟨_,_,j,k,u,u1,u2⟩ | ⟨a,_⟩ | ⟨a,_⟩
              · have:=ZS hG.co u1 ex (by omega)
                rw[u2] at this
                simp only at this; omega
              · exact absurd (show (1:Int)=2 from a) (by decide)
              · exact absurd (show (1:Int)=3 from a) (by decide)
            · have h4:=of_decide_eq_true h4
              have h3:¬(i < (c.Chunks.length:Int)):=by simpa using h3
              rw[wr (n:=i - (c.Chunks.length:Int)) (by omega) (by omega)]
              refine .ix (by omega) (by omega) λx ex hx=>.brk (.brk (put _ ⟨MW,by have:=hc.rg.s x hx; simp only; omega,g0,s5,g20,.inr (.inl ⟨rfl,rfl,(i - (c.Chunks.length:Int)).toNat,by omega,x,ex,rfl⟩)⟩ λh=> ?_))
              rcases h.w with⟨a,_⟩ | ⟨_,_,j,k,u,u1,u2⟩ | ⟨a,_⟩
              · exact absurd (show (2:Int)=1 from a) (by decide)
              · have:=ZS hG.so u1 ex (by omega)
                simp only at u2; omega
              · exact absurd (show (2:Int)=3 from a) (by decide)
            · have h4:¬(i < (c.Chunks.length:Int)+(c.Snaps.length:Int)):=by simpa using h4
              rw[wr (n:=i - (c.Chunks.length:Int)) (by omega) (by omega),wr (n:=i - (c.Chunks.length:Int) - (c.Snaps.length:Int)) (by omega) (by omega)]
              refine .ix (by omega) (by omega) λx ex hx=>.brk (.brk (put _ ⟨MW,by have:=hc.rg.e x hx; simp only; omega,(hc.sm.g.2.2.2.1 x hx).2.1,s5,g20,.inr (.inr ⟨rfl,rfl,(i - (c.Chunks.length:Int) - (c.Snaps.length:Int)).toNat,by omega,x,ex,rfl,rfl⟩)⟩ λh=> ?_))
              rcases h.w with⟨a,_⟩ | ⟨a,_⟩ | ⟨_,_,j,k,u,u1,u2,u3⟩
              · exact absurd (show (3:Int)=1 from a) (by decide)
              · exact absurd (show (3:Int)=2 from a) (by decide)
              · have:=ZS hG.eo u1 ex (by omega)
                simp only at u2; omega
          refine .ite (λh3=> ?_) λ_=>.brk (T.ite (λh=>by cases h) λ_=>mid)
          have h3:=of_decide_eq_true h3
          exact .ix (by omega) (by omega) λx _ _=>.brk (T.ite (λ_=>.brk ⟨s3,s4',s5⟩) λ_=>mid)
        · cases j with
          | go s=>exact hj3
          | ret s=>exact hj3.elim
          | brk s=>
            obtain⟨q2,o2⟩:=s
            exact .go ⟨⟨by simp only; omega,by simp only; omega,hj3.1,hj3.2.1,hj3.2.2⟩,by simp only; omega⟩
      · obtain⟨q,o,i⟩:=s
        exact .some ⟨GI g0 hj.1 hs.1 λx hx=>⟨by have:=(hs.2.a x hx).q; exact⟨by omega,by omega⟩,(hs.2.a x hx).of,(hs.2.a x hx).off,(hs.2.a x hx).len⟩,TN (by decide) hj.2 (λh=>absurd rfl h) hs.2⟩
open Go.Vm
def MX (l:List aA) (d:bP):List aA:=l.filter λx=>decide (ky x.Id < ky d)
def GK (l:List aA) (d:bP):List aA:=l.filter λx=>decide (ky d < ky x.Id)
def xN (l:List aA) (n:aA):List aA:=MX l n.Id++ { (match l.find? λx=>decide (x.Id=n.Id) with | some x=>x | none=> { Id:=n.Id,Staged:=false,Data:= [],Locs:= []}) with Staged:=true,Data:=n.Data}::GK l n.Id
theorem MY {l:List aA} {d:bP} {p:Nat} (ha:At l d p):l.take p=MX l d:=by
 unfold MX
 have e:l.filter (λx=>decide (ky x.Id < ky d))=(l.take p++l.drop p).filter λx=>decide (ky x.Id < ky d):=by rw[List.take_append_drop]
 rw[e,List.filter_append,List.filter_eq_self.2 λy hy=>decide_eq_true (ha.lo y hy),List.filter_eq_nil_iff.2 λy hy=>by
  have:=ha.hi y hy
  simp; omega]
 simp
theorem TO {l:List aA} {d:bP} {p:Nat} (ha:At l d p) (hr:vD l) (hd:mK d) (hn:kG l d=false):l.drop p=GK l d:=by
 unfold GK
 have e:l.filter (λx=>decide (ky d < ky x.Id))=(l.take p++l.drop p).filter λx=>decide (ky d < ky x.Id):=by rw[List.take_append_drop]
 rw[e,List.filter_append,List.filter_eq_nil_iff.2 λy hy=>by
  have:=ha.lo y hy
  simp; omega,List.filter_eq_self.2 λy hy=>by
   have hm:=List.mem_of_mem_drop hy
   have h1:=ha.hi y hy
   have h2:ky d≠ky y.Id:=λe=>by
    have:=List.any_eq_false.1 hn y hm
    simp[LC hd (hr.1 y hm) e] at this
   exact decide_eq_true (by omega)]
 simp
theorem PR {l:List aA} {d:bP} {p:Nat} {x:aA} (ha:At l d p) (hr:vD l) (hx:l[p]? =some x) (hd:x.Id=d):l.drop (p+1)=GK l d:=by
 obtain⟨hp,e0⟩:=List.getElem?_eq_some_iff.1 hx
 unfold GK
 have e:l.filter (λx=>decide (ky d < ky x.Id))=(l.take p++l[p]::l.drop (p+1)).filter λx=>decide (ky d < ky x.Id):=by
  rw[← List.drop_eq_getElem_cons hp,List.take_append_drop]
 rw[e,List.filter_append,List.filter_eq_nil_iff.2 λy hy=>by
  have:=ha.lo y hy
  simp; omega,List.filter_cons_of_neg (by rw[e0,hd]; simp),List.filter_eq_self.2 λy hy=>by
   obtain⟨j,hj,rfl⟩:=List.getElem_of_mem hy
   simp only[List.length_drop] at hj
   rw[List.getElem_drop]
   have:=hr.2 p (p+1+j) _ _ hx (List.getElem?_eq_getElem (by omega)) (by omega)
   rw[hd] at this
   exact decide_eq_true this]
 simp
theorem PS {l:List aA} {p:Nat} {x:aA} (hr:vD l) (hx:l[p]? =some x):(l.find? λy=>decide (y.Id=x.Id))=some x:=by
 cases e:l.find? λy=>decide (y.Id=x.Id) with
 | none=>
  have:=List.find?_eq_none.1 e x (List.mem_of_getElem? hx)
  simp at this
 | some y=>
  have h1:=List.find?_some e
  have h1:y.Id=x.Id:=by simpa using h1
  obtain⟨j,hj,rfl⟩:=List.getElem_of_mem (List.mem_of_find?_eq_some e)
  rcases Nat.lt_trichotomy j p with h | h | h
  ·have:=hr.2 j p _ _ (List.getElem?_eq_getElem hj) hx h
   rw[h1] at this; omega
  ·subst h
   rw[List.getElem?_eq_getElem hj] at hx
   exact hx
  ·have:=hr.2 p j _ _ hx (List.getElem?_eq_getElem hj) h
   rw[h1] at this; omega
theorem MZ {l:List aA} {n:aA}:(xN l n).length≤l.length+1:=by
 have:∀m:List aA,(m.filter λx=>decide (ky x.Id < ky n.Id)).length+(m.filter λx=>decide (ky n.Id < ky x.Id)).length≤m.length:=by
  intro m
  induction m with
  | nil=>simp
  | cons a m ih=>
   by_cases h1:ky a.Id < ky n.Id
   ·have h2:¬ky n.Id < ky a.Id:=by omega
    simp[List.filter_cons,h1,h2]; omega
   ·by_cases h2:ky n.Id < ky a.Id <;> simp[List.filter_cons,h1,h2] <;> omega
 unfold xN MX GK
 have:=this l
 simp only[List.length_append,List.length_cons]
 omega
theorem M0 {F:Nat} {d:aS} {l:List aA} {n:aA} {i:Nat} (hF:1000≤F) (hr:vD l) (hn:mK n.Id) (hl:l.length < 900) (hi:i < d.Chunks.length) (hx:d.Chunks[i]? =some n) (hd:d.Chunks.length≤400) (hdl:n.Data.length≤1000):
    qJ F d l (i:Int)=some (.go (xN l n,((i+1:Nat):Int))):=by
  obtain⟨p,ha,e⟩:=TE hF hr hn (by omega)
  have hp:=ha.le
  unfold qJ QF
  rw[jA (by omega)]
  have ea:app [] n.Data=some n.Data:=by rw[dS (by simp; omega)]; rfl
  simp only[bS,hx,Int.ofNat_lt,hi,decide_true,if_true,Option.bind_some,e,ea]
  cases hh:kG l n.Id with
  | false=>
    have g0:(l.take p++({ Id:=n.Id,Staged:=false,Data:= [],Locs:= []}:aA)::l.drop p)[p]? =some { Id:=n.Id,Staged:=false,Data:= [],Locs:= []}:=by
      rw[List.getElem?_append_right (by simp; omega)]
      simp[Nat.min_eq_left hp]
    simp only[Bool.not_false,if_true,BR hp (show l.length < 1000 by omega),Option.bind_some,aK,g0,Int.toNat_natCast]
    rw[List.getElem?_set_self (by simp; omega)]
    simp only[Option.bind_some,List.set_set]
    have hf:(l.find? λx=>decide (x.Id=n.Id))=none:=List.find?_eq_none.2 λx hx=>by
      have:=List.any_eq_false.1 hh x hx
      simpa using this
    unfold xN
    rw[hf,← MY ha,← TO ha hr hn hh,List.set_append_right _ _ (by simp; omega)]
    simp[Nat.min_eq_left hp]
  | true=>
    obtain⟨x,h1,h2⟩:=GD hr ha hn hh
    obtain⟨hpl,e0⟩:=List.getElem?_eq_some_iff.1 h1
    simp only[Bool.not_true,Bool.false_eq_true,if_false,aK,h1,Option.bind_some,Int.toNat_natCast]
    rw[List.getElem?_set_self hpl]
    simp only[Option.bind_some,List.set_set]
    have hf:=PS hr h1
    rw[h2] at hf
    unfold xN
    rw[hf,← MY ha,← PR ha hr h1 h2]
    simp only
    rw[List.set_eq_take_append_cons_drop,if_pos hpl]
open Go.Vm
def JC (l:List aA) (d:bP):aA:=match l.find? λx=>decide (x.Id=d) with | some x=>x | none=> { Id:=d,Staged:=false,Data:= [],Locs:= []}
theorem PT (l:List aA) (d:bP):(JC l d).Id=d:=by
 unfold JC
 cases e:l.find? λx=>decide (x.Id=d) with
 | none=>rfl
 | some x=>simpa using List.find?_some e
theorem HP (l:List aA) (n:aA):xN l n=MX l n.Id++ { JC l n.Id with Staged:=true,Data:=n.Data}::GK l n.Id:=rfl
theorem M2 {l:List aA} {n:aA} (hr:vD l) (hn:mK n.Id):vD (xN l n):=by
 rw[BQ] at*
 obtain⟨h1,h2⟩:=hr
 rw[HP]
 have hid:({ JC l n.Id with Staged:=true,Data:=n.Data}:aA).Id=n.Id:=PT l n.Id
 generalize ({ JC l n.Id with Staged:=true,Data:=n.Data}:aA)=z at hid
 refine⟨λy hy=> ?_,List.pairwise_append.2 ⟨h2.sublist List.filter_sublist,List.pairwise_cons.2 ⟨λy hy=> ?_,h2.sublist List.filter_sublist⟩,λa ha b hb=> ?_⟩⟩
 ·rcases List.mem_append.1 hy with h | h
  ·exact h1 y (List.mem_filter.1 h).1
  ·rcases List.mem_cons.1 h with rfl | h
   ·rw[hid]; exact hn
   ·exact h1 y (List.mem_filter.1 h).1
 ·rw[hid]
  exact of_decide_eq_true (List.mem_filter.1 hy).2
 ·have ha':=of_decide_eq_true (List.mem_filter.1 ha).2
  rcases List.mem_cons.1 hb with rfl | hb
  ·rw[hid]; exact ha'
  ·have:=of_decide_eq_true (List.mem_filter.1 hb).2
   omega
def nA (l ns:List aA):List aA:=ns.foldl xN l
theorem xO:∀ {ns l:List aA},vD l→(∀n∈ns,mK n.Id)→vD (nA l ns)
 | [],_,h,_=>h
 | n::ns,_,h,hn=>xO (ns:=ns) (M2 h (hn n List.mem_cons_self)) λm hm=>hn m (List.mem_cons_of_mem _ hm)
theorem qL:∀ {ns l:List aA},(nA l ns).length≤l.length+ns.length
 | [],_=>by simp[nA]
 | n::ns,l=>by
  have h1:=qL (ns:=ns) (l:=xN l n)
  have h2:=MZ (l:=l) (n:=n)
  have:nA l (n::ns)=nA (xN l n) ns:=rfl
  rw[this,List.length_cons]
  omega
def pH (l:List aA):Bool:= !l.any λx=> !x.Staged || decide (0 < (x.Locs.length:Int))
theorem aER {F:Nat} {l:List aA} (hF:1000≤F) (hl:l.length≤400):I5 F l=some (pH l):=by
 unfold I5 MD pH
 rw[m98 (f:=λx0=>MC F x0) (λx=> !x.Staged || decide (0 < (x.Locs.length:Int))) (by omega) (by omega) (λx _=>by
  unfold MC
  cases x.Staged <;> rfl)]
 simp only[Option.bind_some]
 cases ha:l.any (λx=> !x.Staged || decide (0 < (x.Locs.length:Int))) with
 | false=>rw[jG ha]; rfl
 | true=>
  obtain⟨i,x,h1, -⟩:=jF ha
  rw[h1]
  simp
def ad (c:aB) (d:aS):aB:= { c with Seq:=c.Seq+1,Snaps:=c.Snaps++ [{ Seq:=d.Snap.Seq,Man:=d.Snap.Man,Locs:= []}],Chunks:=nA c.Chunks d.Chunks}
theorem n72 {F:Nat} {c:aB} {d:aS} (hF:1000≤F) (h:Sm c) (hg:Gd c) (hd:MV d):
    UC F c d=some (if d.Snap.Seq=c.Seq∧pH d.Chunks=true then (if c.Snaps.any (λs=>s.Man.Name.toList==d.Snap.Man.Name.toList) then (9,c.Seq,c.Snaps,c.Chunks) else (0,(ad c d).Seq,(ad c d).Snaps,(ad c d).Chunks)) else (1,c.Seq,c.Snaps,c.Chunks)):=by
  have hsn:=h.sn
  have hcn:=hg.cn
  have hdn:=hd.cn
  have hq:=hg.q
  unfold gP at hq
  simp only[Bool.and_eq_true,decide_eq_true_eq] at hq
  have hr:vD c.Chunks:=BQ.2 ⟨λx hx=>(h.g.2.2.1 x hx).1,hg.co⟩
  unfold UC
  rw[hd.locs,aER hF (by omega)]
  by_cases e1:d.Snap.Seq=c.Seq
  · rw[if_neg (by simp[e1])]
    simp only[List.length_nil,show decide ((0:Int) < ((0:Nat):Int))=false from rfl,Bool.false_eq_true,if_false,Option.bind_some,aK]
    cases e2:pH d.Chunks with
    | false=>simp[e1]
    | true=>
      simp only[Bool.not_true,Bool.false_eq_true,if_false,e1,and_self,if_true]
      rw[m47 hF (by show c.Snaps.length < 1000; omega)]
      simp only[Option.bind_some]
      cases ha:c.Snaps.any (λs=>s.Man.Name.toList==d.Snap.Man.Name.toList) with
      | true=>
        obtain⟨i,x,h1, -⟩:=jF ha
        rw[h1]
        simp
      | false=>
        rw[jG ha]
        simp only[show decide ((0:Int)≤ -1)=false from rfl,Bool.false_eq_true,if_false]
        rw[zV hF hd.man.2.1 (λp hp=>(hd.man.2.2.1 p hp).2)]
        simp only[Option.bind_some]
        rw[dS (by simp; omega)]
        simp only[Option.bind_some]
        have:=rU (body:=λs:List aA×Int=>qJ F d s.1 s.2) (s0:=(c.Chunks,(0:Int))) (n:=d.Chunks.length) (F:=F) (λi:Nat=>(nA c.Chunks (d.Chunks.take i),(i:Int))) (by omega) rfl (λi hi=>by
          have hx:d.Chunks[i]? =some d.Chunks[i]:=List.getElem?_eq_getElem hi
          have hm:=List.getElem_mem hi
          have ht:d.Chunks.take (i+1)=d.Chunks.take i++ [d.Chunks[i]]:=List.take_succ_eq_append_getElem hi
          have hR:=xO (ns:=d.Chunks.take i) hr λn hn=>(hd.ch n (List.mem_of_mem_take hn)).1
          have hL:=qL (ns:=d.Chunks.take i) (l:=c.Chunks)
          rw[List.length_take] at hL
          rw[ht]
          generalize d.Chunks[i]=n at hx hm
          rw[M0 hF hR (hd.ch n hm).1 (by omega) hi hx (by omega) (by have:=(hd.ch n hm).2.1; omega)]
          unfold nA
          rw[List.foldl_append]
          rfl) (by unfold qJ; simp)
        rw[this]
        simp only[aK,List.take_length,wr (n:=c.Seq+1) (by omega) (by omega)]
        rw[show (ad c d).Snaps=c.Snaps++ [{ Seq:=d.Snap.Seq,Man:=d.Snap.Man,Locs:= []}] from rfl,e1]
        rfl
  · rw[if_pos (by simpa using e1)]
    simp[aK,e1]
end Go.Proofs.YtbbifdfldpfphaaGreat
