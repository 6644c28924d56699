import Derived.Test.YtbbifdfldpfphaaGreatK6P6
import Derived.Test.YtbbifdfldpfphaaGreatK6P7
import Derived.Test.YtbbifdfldpfphaaGreatK6P3
import Derived.Test.YtbbifdfldpfphaaGreatK6P5
import Derived.Test.YtbbifdfldpfphaaGreatK6P4
import Derived.Test.YtbbifdfldpfphaaGreatK6P9
set_option linter.unusedSimpArgs false
set_option linter.unusedVariables false
set_option maxHeartbeats 4000000
set_option maxRecDepth 100000
namespace Go.Proofs.YtbbifdfldpfphaaGreat
open Go.Vm
def zB (m:Nat) (p0:List Int) (p1:Int) (p2:Int):Option ((List Int)):=
 (HU m [] p1 p2).bind λy3=>(app p0 y3.1).bind λz0=>some z0
theorem DJ {w:Nat} {p0:List Int} {p1:Int} {p2:Int} {o:(List Int)} (h:aE) {t_p0:Option bY} (ot_p0:t_p0=none→p0= []) (K0:bQ h [(t_p0,.tok 5 1 ((p0:List Int).length*1))]) (m:zB w p0 p1 p2=some o):
 aL Tryz.prog 95 [ow t_p0 1 (List.map cW p0),nZ p1,nZ p2] (hp h [(t_p0,.tok 5 1 ((p0:List Int).length*1))]) (λr h'=>∃t,(t=none→o= [])∧bQ h [(t,.tok 5 1 (o.length*1))]∧r=ow t 1 (List.map cW o)∧h'=hp h [(t,.tok 5 1 (o.length*1))]):=by
 refine B9 K0 18 [.tmp 6] Tryz.func95 rfl rfl rfl rfl ?_
 unfold zB at m
 refine v (v ?_)
 obtain⟨_,Y4,m⟩:=aC m
 refine ve λu=>cR (mI (.cons (aR _) (.k2 .nil)) (RO _ Y4)) rfl RP rfl ?_
 rintro x h' ⟨tg5,t6,K7,rfl,rfl⟩
 refine qk (bQ.co u K7) (iO _ _ _) (v ?_)
 obtain⟨z0,Z0,m⟩:=aC m
 refine ve λu=>e8 (c:=cW) 1 Z0 jH rfl rfl rfl ot_p0 u (nW t6) λtg0 t0 K1=>qk K1 rfl (v ?_)
 obtain rfl:=eU m
 exact vr λu=>dZ.one (.inl rfl) (aW (.cons _ (.cons_cons _ (List.nil_sublist _))) u).1 (bB.refl _ _) ⟨tg0,t0,(aW (.cons _ (.cons_cons _ (List.nil_sublist _))) u).2,rfl,rfl⟩
theorem DK:aP Tryz.prog 95=true:=by kernel_rfl
def AA (m:Nat) (p0:Int) (p1:Int):Option (Bool):=
 after (if (decide (0≤p0))=true then (some (.brk (decide (p0≤p1)))) else some (.brk false):Option (Lp (Bool) (Bool))) λj4=>some j4
theorem FA {u:Nat} {p0:Int} {p1:Int} {o:Bool} (h:aE) (m:AA u p0 p1=some o):
 aL Tryz.prog 161 [nZ p0,nZ p1] h (λr h'=>r= .sc (.bool o)∧h'=h):=by
 refine fT 12 [.tmp 4] Tryz.func161 rfl rfl rfl rfl ?_
 unfold AA at m
 refine v (vs (fQ m (σ:=Bool) (λs=> []) (λs=>.c 4 (.sc (.bool s)) .nil) (λx m=> ?_) ?_))
 refine v ?_
 apply vi m <;> intro b5 m
 rw[b5]
 exact iZ m
 rw[b5]
 exact iZ m
 rintro _ j4 m
 refine v ?_
 obtain rfl:=eU m
 exact eA rfl
theorem vZ:aP Tryz.prog 161=true:=by kernel_rfl
def UU (m:Nat) (p0:aO):Option (Bool):=
 after ((AA m p0.Seq 4294967295).bind λy0=>if (!y0)=true then (some (.brk true)) else (AA m p0.Of 4294967295).bind λy1=>if (!y1)=true then (some (.brk true)) else (AA m p0.Off 16777215).bind λy2=>if (!y2)=true then (some (.brk true)) else (AA m p0.Len 65535).bind λy3=>some (.brk (!y3)):Option (Lp (Bool) (Bool))) λj0=>if j0=true then (some false) else if (p0.Kind==1)=true then (after (if (p0.Seq==0)=true then (some (.brk (p0.Of==0))) else some (.brk false):Option (Lp (Bool) (Bool))) λj1=>some j1) else if (p0.Kind==2)=true then (after (if (decide (p0.Id=jI))=true then (some (.brk (p0.Of==0))) else some (.brk false):Option (Lp (Bool) (Bool))) λj2=>some j2) else after (if (p0.Kind==3)=true then (some (.brk (decide (p0.Id=jI)))) else some (.brk false):Option (Lp (Bool) (Bool))) λj3=>some j3
theorem aFX {u:Nat} {p0:aO} {o:Bool} (h:aE) (m:UU u p0=some o):
 aL Tryz.prog 163 [.agg (aV p0)] h (λr h'=>r= .sc (.bool o)∧h'=h):=by
 refine fT 57 [.tmp 2] Tryz.func163 rfl rfl rfl rfl ?_
 unfold UU at m
 refine v (hX rfl rfl λk2 K3=>vs (vs (fQ m (σ:=Bool) (λs=> [(some k2,.obj 38 (aV p0))]) (λs=>.c 1 (.ptr k2 0) (.c 24 (.sc (.bool s)) .nil)) (λx m=> ?_) ?_)))
 refine v (vl 0 _ cD rfl rfl rfl (vk FA vZ m rfl rfl λ_ m=> ?_))
 apply vi m <;> intro b0 m
 rw[b0]
 exact rF m
 rw[b0]
 refine vl 0 _ cD rfl rfl rfl (vk FA vZ m rfl rfl λ_ m=> ?_)
 apply vi m <;> intro b1 m
 rw[b1]
 exact rF m
 rw[b1]
 refine vl 0 _ cD rfl rfl rfl (vk FA vZ m rfl rfl λ_ m=> ?_)
 apply vi m <;> intro b2 m
 rw[b2]
 exact rF m
 rw[b2]
 exact vl 0 _ cD rfl rfl rfl (vk FA vZ m rfl rfl λ_ m=>rF m)
 rintro _ j0 m
 refine v ?_
 apply vi m <;> intro c0 m
 refine v (v ?_)
 obtain rfl:=eU m
 exact eA rfl
 refine v (v (vl 0 _ cD rfl rfl rfl (v (v (v ?_)))))
 apply vi m <;> intro c1 m
 refine vs (fQ m (σ:=Bool) (λs=> [(some k2,.obj 38 (aV p0))]) (λs=>.c 2 (.sc (.bool s)) .nil) (λx m=> ?_) ?_)
 refine v (vl 0 _ cD rfl rfl rfl ?_)
 apply vi m <;> intro b3 m
 rw[b3]
 exact vl 0 _ cD rfl rfl rfl (iZ m)
 rw[b3]
 exact iZ m
 rintro _ j1 m
 refine v ?_
 obtain rfl:=eU m
 exact eA rfl
 refine v (v ?_)
 apply vi m <;> intro c2 m
 refine vs (fQ m (σ:=Bool) (λs=> [(some k2,.obj 38 (aV p0))]) (λs=>.c 2 (.sc (.bool s)) .nil) (λx m=> ?_) ?_)
 refine v (vl 0 (.agg (bH p0.Id)) fL rfl rfl rfl (bV (F2 (bH jI) (show xW Tryz.prog 36=some (List.replicate 32 (.int .u8 0),(List.range 32).map λi=>(i,1)) from by kernel_rfl) rfl) (bV (vU EG RF u5 EF rfl rfl) ?_)))
 apply vi m <;> intro b4 m
 rw[b4]
 exact vl 0 _ cD rfl rfl rfl (iZ m)
 rw[b4]
 exact iZ m
 rintro _ j2 m
 refine v ?_
 obtain rfl:=eU m
 exact eA rfl
 refine v (vs (fQ m (σ:=Bool) (λs=> [(some k2,.obj 38 (aV p0))]) (λs=>.c 2 (.sc (.bool s)) .nil) (λx m=> ?_) ?_))
 refine v (vl 0 _ cD rfl rfl rfl ?_)
 apply vi m <;> intro b5 m
 rw[b5]
 exact vl 0 (.agg (bH p0.Id)) fL rfl rfl rfl (bV (F2 (bH jI) (show xW Tryz.prog 36=some (List.replicate 32 (.int .u8 0),(List.range 32).map λi=>(i,1)) from by kernel_rfl) rfl) (bV (vU EG RF u5 EF rfl rfl) (iZ m)))
 rw[b5]
 exact iZ m
 rintro _ j3 m
 refine v ?_
 obtain rfl:=eU m
 exact eA rfl
theorem aAU:aP Tryz.prog 163=true:=by kernel_rfl
def UV (m:Nat) (p0:aO):Option (Bool):=
 (UU m p0).bind λy6=>some (!y6)
theorem aFY {u:Nat} {p0:aO} {o:Bool} (h:aE) (m:UV u p0=some o):
 aL Tryz.prog 162 [.agg (aV p0)] h (λr h'=>r= .sc (.bool o)∧h'=h):=by
 refine fT 6 [.tmp 2] Tryz.func162 rfl rfl rfl rfl ?_
 unfold UV at m
 refine v (hX rfl rfl λk2 K3=>v (vl 0 (.agg (aV p0)) GB rfl rfl rfl (vk aFX aAU m rfl rfl λ_ m=>v ?_)))
 cases m
 exact eA rfl
theorem aAV:aP Tryz.prog 162=true:=by kernel_rfl
def UW (m:Nat) (p0:aN):Option (Bool):=
 after (if (p0.Snap.Seq==0)=true then (if (p0.Snap.Man.Name.toList==(ByteArray.mk #[]).toList)=true then (some (.brk ((IntKind.wrap .i64 ((p0.Snap.Man.Parts.length:Int)+(p0.Snap.Locs.length:Int)))==0))) else some (.brk false)) else some (.brk false):Option (Lp (Bool) (Bool))) λj8=>if (p0.Kind==1)=true then (after (if (p0.Seq==0)=true then (if (p0.Vol==0)=true then (some (.brk ((p0.Items.length:Int)==0))) else some (.brk false)) else some (.brk false):Option (Lp (Bool) (Bool))) λj0=>some j0) else if (p0.Kind==2)=true then (after (if j8=true then (if ((p0.Chunks.length:Int)==0)=true then (if (p0.Vol==0)=true then (some (.brk ((p0.Items.length:Int)==0))) else some (.brk false)) else some (.brk false)) else some (.brk false):Option (Lp (Bool) (Bool))) λj1=>some j1) else if (p0.Kind==3)=true then (after (if j8=true then (if ((p0.Chunks.length:Int)==0)=true then (some (.brk (p0.Seq==0))) else some (.brk false)) else some (.brk false):Option (Lp (Bool) (Bool))) λj2=>some j2) else after (if j8=true then (if ((p0.Chunks.length:Int)==0)=true then (if (p0.Seq==0)=true then (some (.brk ((p0.Items.length:Int)==0))) else some (.brk false)) else some (.brk false)) else some (.brk false):Option (Lp (Bool) (Bool))) λj3=>some j3
theorem aFZ {u:Nat} {p0:aN} {o:Bool} (h:aE) (m:UW u p0=some o):
 aL Tryz.prog 158 [.agg (aD p0)] h (λr h'=>r= .sc (.bool o)∧h'=h):=by
 refine fT 98 [.tmp 2] Tryz.func158 rfl rfl rfl rfl ?_
 unfold UW at m
 refine v (hX rfl rfl λk2 K3=>vs (fQ m (σ:=Bool) (λs=> [(some k2,.obj 62 (aD p0))]) (λs=>.c 1 (.ptr k2 0) (.c 3 (.sc (.bool s)) .nil)) (λx m=> ?_) ?_))
 refine v (vl 0 _ cD rfl rfl rfl ?_)
 apply vi m <;> intro b9 m
 rw[b9]
 refine vl 0 _ wS rfl rfl rfl (bV (BL rfl rfl rfl trivial) ?_)
 apply vi m <;> intro b0 m
 rw[b0]
 exact vl 0 _ nE rfl rfl rfl (cY uY rfl (vl 0 _ fM rfl rfl rfl (cY jO rfl (rF m))))
 rw[b0]
 exact rF m
 rw[b9]
 exact rF m
 rintro _ j8 m
 refine v (vl 0 _ cD rfl rfl rfl (v (v (v ?_))))
 apply vi m <;> intro c0 m
 refine vs (fQ m (σ:=Bool) (λs=> [(some k2,.obj 62 (aD p0))]) (λs=>.c 2 (.sc (.bool s)) .nil) (λx m=> ?_) ?_)
 refine v (vl 0 _ cD rfl rfl rfl ?_)
 apply vi m <;> intro b1 m
 rw[b1]
 refine vl 0 _ cD rfl rfl rfl ?_
 apply vi m <;> intro b2 m
 rw[b2]
 exact vl 0 _ kY rfl rfl rfl (cY pE rfl (iZ m))
 rw[b2]
 exact iZ m
 rw[b1]
 exact iZ m
 rintro _ j0 m
 refine v ?_
 obtain rfl:=eU m
 exact eA rfl
 refine v (v ?_)
 apply vi m <;> intro c1 m
 refine vs (fQ m (σ:=Bool) (λs=> [(some k2,.obj 62 (aD p0))]) (λs=>.c 2 (.sc (.bool s)) .nil) (λx m=> ?_) ?_)
 refine v ?_
 apply vi m <;> intro b3 m
 rw[b3]
 refine vl 0 _ eO rfl rfl rfl (cY jG rfl ?_)
 apply vi m <;> intro b4 m
 rw[b4]
 refine vl 0 _ cD rfl rfl rfl ?_
 apply vi m <;> intro b5 m
 rw[b5]
 exact vl 0 _ kY rfl rfl rfl (cY pE rfl (iZ m))
 rw[b5]
 exact iZ m
 rw[b4]
 exact iZ m
 rw[b3]
 exact iZ m
 rintro _ j1 m
 refine v ?_
 obtain rfl:=eU m
 exact eA rfl
 refine v (v ?_)
 apply vi m <;> intro c2 m
 refine vs (fQ m (σ:=Bool) (λs=> [(some k2,.obj 62 (aD p0))]) (λs=>.c 2 (.sc (.bool s)) .nil) (λx m=> ?_) ?_)
 refine v ?_
 apply vi m <;> intro b6 m
 rw[b6]
 refine vl 0 _ eO rfl rfl rfl (cY jG rfl ?_)
 apply vi m <;> intro b7 m
 rw[b7]
 exact vl 0 _ cD rfl rfl rfl (iZ m)
 rw[b7]
 exact iZ m
 rw[b6]
 exact iZ m
 rintro _ j2 m
 refine v ?_
 obtain rfl:=eU m
 exact eA rfl
 refine v (vs (fQ m (σ:=Bool) (λs=> [(some k2,.obj 62 (aD p0))]) (λs=>.c 2 (.sc (.bool s)) .nil) (λx m=> ?_) ?_))
 refine v ?_
 apply vi m <;> intro b8 m
 rw[b8]
 refine vl 0 _ eO rfl rfl rfl (cY jG rfl ?_)
 apply vi m <;> intro b49 m
 rw[b49]
 refine vl 0 _ cD rfl rfl rfl ?_
 apply vi m <;> intro b50 m
 rw[b50]
 exact vl 0 _ kY rfl rfl rfl (cY pE rfl (iZ m))
 rw[b50]
 exact iZ m
 rw[b49]
 exact iZ m
 rw[b8]
 exact iZ m
 rintro _ j3 m
 refine v ?_
 obtain rfl:=eU m
 exact eA rfl
theorem aAW:aP Tryz.prog 158=true:=by kernel_rfl
def UX (m:Nat) (p0:aB):Option (Bool):=
 some (decide (255 < (p0.Data.length:Int)))
theorem aF0 {u:Nat} {p0:aB} {o:Bool} (h:aE) (m:UX u p0=some o):
 aL Tryz.prog 160 [.agg (aI p0)] h (λr h'=>r= .sc (.bool o)∧h'=h):=by
 refine fT 7 [.tmp 2] Tryz.func160 rfl rfl rfl rfl ?_
 unfold UX at m
 refine v (hX rfl rfl λk2 K3=>v (vl 0 _ lL rfl rfl rfl (cY kR rfl (v ?_))))
 cases m
 exact eA rfl
theorem aAX:aP Tryz.prog 160=true:=by kernel_rfl
def M94 (m:Nat) (p0:aN):Option (Bool):=
 (UW m p0).bind λy7=>if (!y7)=true then (some false) else if (p0.Kind==1)=true then ((M8 m p0.Chunks (λx0=>UX m x0)).bind λy0=>after ((AA m p0.Snap.Seq 4294967295).bind λy1=>if y1=true then (if ((p0.Snap.Locs.length:Int)==0)=true then ((EH m p0.Snap.Man).bind λy2=>if (y2==0)=true then (if (decide ((p0.Chunks.length:Int)≤65535))=true then ((JY m p0.Chunks).bind λy3=>if y3=true then (some (.brk (!y0))) else some (.brk false)) else some (.brk false)) else some (.brk false)) else some (.brk false)) else some (.brk false):Option (Lp (Bool) (Bool))) λj0=>some j0) else if (p0.Kind==2)=true then ((AA m p0.Seq 4294967295).bind λy4=>some y4) else if (p0.Kind==3)=true then (after ((AA m p0.Vol 255).bind λy5=>if y5=true then (if (decide ((p0.Items.length:Int)≤255))=true then ((JW m p0.Items (λx0=>UV m x0)).bind λy6=>some (.brk (!y6))) else some (.brk false)) else some (.brk false):Option (Lp (Bool) (Bool))) λj1=>some j1) else after (if (p0.Kind==4)=true then (some (.brk (p0.Kind==4))) else some (.brk (p0.Kind==5)):Option (Lp (Bool) (Bool))) λj2=>if j2=true then ((AA m p0.Vol 255).bind λy8=>some y8) else some false
theorem W94 {u:Nat} {p0:aN} {o:Bool} (h:aE) (m:M94 u p0=some o):
 aL Tryz.prog 94 [.agg (aD p0)] h (λr h'=>r= .sc (.bool o)∧h'=h):=by
 refine fT 75 [.tmp 2] Tryz.func94 rfl rfl rfl rfl ?_
 unfold M94 at m
 refine v (hX rfl rfl λk2 K3=>v (vl 0 (.agg (aD p0)) pG rfl rfl rfl (vk aFZ aAW m rfl rfl λ_ m=>v ?_)))
 apply vi m <;> intro c9 m
 refine v (v ?_)
 obtain rfl:=eU m
 exact eA rfl
 refine v (v (vl 0 _ cD rfl rfl rfl (v (v (v ?_)))))
 apply vi m <;> intro c0 m
 refine v (vl 0 _ eO rfl rfl rfl ?_)
 obtain⟨_,Y0,m⟩:=aC m
 refine bV (cB (ZO _ aAX (λx0 o h0 hs ho=>aF0 _ ho) Y0) rfl R6 rfl) (vs (fQ m (σ:=Bool) (λs=> [(some k2,.obj 62 (aD p0))]) (λs=>.c 2 (.sc (.bool s)) .nil) (λx m=> ?_) ?_))
 refine v (vl 0 _ cD rfl rfl rfl (vk FA vZ m rfl rfl λ_ m=> ?_))
 apply vi m <;> intro b0 m
 rw[b0]
 refine vl 0 _ fM rfl rfl rfl (cY jO rfl ?_)
 apply vi m <;> intro b1 m
 rw[b1]
 refine vl 0 (.agg (bC p0.Snap.Man)) nU rfl rfl rfl (vk PP HS m rfl rfl λ_ m=> ?_)
 apply vi m <;> intro b2 m
 rw[b2]
 refine vl 0 _ eO rfl rfl rfl (cY jG rfl ?_)
 apply vi m <;> intro b3 m
 rw[b3]
 refine vl 0 _ eO rfl rfl rfl (vk ZP R7 m rfl rfl λ_ m=> ?_)
 apply vi m <;> intro b4 m
 rw[b4]
 exact iZ m
 rw[b4]
 exact iZ m
 rw[b3]
 exact iZ m
 rw[b2]
 exact iZ m
 rw[b1]
 exact iZ m
 rw[b0]
 exact iZ m
 rintro _ j0 m
 refine v ?_
 obtain rfl:=eU m
 exact eA rfl
 refine v (v ?_)
 apply vi m <;> intro c1 m
 refine v (vl 0 _ cD rfl rfl rfl (vk FA vZ m rfl rfl λ_ m=>v ?_))
 obtain rfl:=eU m
 exact eA rfl
 refine v (v ?_)
 apply vi m <;> intro c2 m
 refine vs (fQ m (σ:=Bool) (λs=> [(some k2,.obj 62 (aD p0))]) (λs=>.c 2 (.sc (.bool s)) .nil) (λx m=> ?_) ?_)
 refine v (vl 0 _ cD rfl rfl rfl (vk FA vZ m rfl rfl λ_ m=> ?_))
 apply vi m <;> intro b5 m
 rw[b5]
 refine vl 0 _ kY rfl rfl rfl (cY pE rfl ?_)
 apply vi m <;> intro b6 m
 rw[b6]
 refine vl 0 _ kY rfl rfl rfl ?_
 obtain⟨_,Y1,m⟩:=aC m
 exact bV (cB (ZF _ aAV (λx0 o h0 hs ho=>aFY _ ho) Y1) rfl R4 rfl) (iZ m)
 rw[b6]
 exact iZ m
 rw[b5]
 exact iZ m
 rintro _ j1 m
 refine v ?_
 obtain rfl:=eU m
 exact eA rfl
 refine v (fQ m (σ:=Bool) (λs=> [(some k2,.obj 62 (aD p0))]) (λs=>.c 1 (.ptr k2 0) (.c 69 (.sc (.bool s)) .nil)) (λx m=> ?_) ?_)
 refine v ?_
 apply vi m <;> intro c3 m
 exact v (rF m)
 exact v (rF m)
 rintro _ j2 m
 refine v ?_
 apply vi m <;> intro c4 m
 refine v (vl 0 _ cD rfl rfl rfl (vk FA vZ m rfl rfl λ_ m=>v ?_))
 obtain rfl:=eU m
 exact eA rfl
 refine v (v (v ?_))
 obtain rfl:=eU m
 exact eA rfl
theorem aF2:aP Tryz.prog 94=true:=by kernel_rfl
def HB (m:Nat) (p0:aN) (q0:List Int) (q1:Int):Option (Lp ((List Int)×Int) (Lp ((List Int)) ((List Int)×Int))):=
 if (decide (q1 < (p0.Chunks.length:Int)))=true then ((ix p0.Chunks q1).bind λx0=>(app q0 x0.Id.1).bind λz0=>(zB m z0 (x0.Data.length:Int) 1).bind λy0=>(app y0 x0.Data).bind λz1=>some (.go (z1,IntKind.wrap .i64 (q1+1)))) else some (.brk (q0,q1))
def HC (m:Nat) (p0:aN) (q0:List Int) (q1:Int):Option (Lp ((List Int)×Int) (Lp ((List Int)) (Lp ((List Int)) (Lp ((List Int)) ((List Int)×Int))))):=
 if (decide (q1 < (p0.Items.length:Int)))=true then ((ix p0.Items q1).bind λx0=>(app q0 ([IntKind.wrap .u8 x0.Kind]:List Int)).bind λz0=>(app z0 x0.Id.1).bind λz1=>(zB m z1 x0.Seq 4).bind λy0=>(zB m y0 x0.Of 4).bind λy1=>(zB m y1 x0.Off 3).bind λy2=>(zB m y2 x0.Len 2).bind λy3=>some (.go (y3,IntKind.wrap .i64 (q1+1)))) else some (.brk (q0,q1))
def M40 (m:Nat) (p0:aN):Option ((List Int)×Int):=
 (M94 m p0).bind λy7=>if (!y7)=true then (some ([],1)) else after (if (p0.Kind==1)=true then ((M42 m p0.Snap.Man).bind λy0=>(zB m ([IntKind.wrap .u8 p0.Kind]:List Int) p0.Snap.Seq 4).bind λy1=>(zB m y1 (y0.1.length:Int) 4).bind λy2=>(app y2 y0.1).bind λz0=>(zB m z0 (p0.Chunks.length:Int) 2).bind λy3=>after (aU (λs=>HB m p0 s.1 s.2) m (y3,0)) λ⟨r0,r1⟩=>some (.brk r0)) else after (if (p0.Kind==2)=true then ((zB m ([IntKind.wrap .u8 p0.Kind]:List Int) p0.Seq 4).bind λy4=>some (.brk y4)) else after (if (p0.Kind==3)=true then ((app ([IntKind.wrap .u8 p0.Kind]:List Int) ([IntKind.wrap .u8 p0.Vol,IntKind.wrap .u8 (p0.Items.length:Int)]:List Int)).bind λz1=>after (aU (λs=>HC m p0 s.1 s.2) m (z1,0)) λ⟨r2,r3⟩=>some (.brk r2)) else (app ([IntKind.wrap .u8 p0.Kind]:List Int) ([IntKind.wrap .u8 p0.Vol]:List Int)).bind λz2=>some (.brk z2):Option (Lp ((List Int)) (Lp ((List Int)) (Lp ((List Int)) ((List Int)×Int))))) λj0=>some (.brk j0):Option (Lp ((List Int)) (Lp ((List Int)) ((List Int)×Int)))) λj1=>some (.brk j1):Option (Lp ((List Int)) ((List Int)×Int))) λj2=>(RN m j2).bind λy5=>some (y5,0)
theorem W40 {w:Nat} {p0:aN} {o:(List Int)×Int} (h:aE) (m:M40 w p0=some o):
 aL Tryz.prog 40 [.agg (aD p0)] h (λr h'=>r= .tup [.sl none 1 (List.map cW o.1),nZ o.2]∧h'=h):=by
 refine fT 120 [.tmp 2,.tmp 3] Tryz.func40 rfl rfl rfl rfl ?_
 unfold M40 at m
 refine v (hX rfl rfl λk2 K3=>v (vl 0 (.agg (aD p0)) pG rfl rfl rfl (vk W94 aF2 m rfl rfl λ_ m=>v ?_)))
 apply vi m <;> intro c9 m
 refine v (v ?_)
 cases m
 exact vr λu=>dZ.of2 (.inl rfl) (f0 _ _ (.sc (.slice _ _ _)) rfl) (f0 _ _ (.sc (.int _ _)) rfl) (aW (List.nil_sublist _) u).1 (aR _) (bB.refl _ _) ⟨rfl,rfl⟩
 refine v (v (vl 0 _ cD rfl rfl rfl (ve λu=>FU (c:=cW) ([IntKind.wrap .u8 p0.Kind]:List Int) u jH rfl rfl rfl rfl λtg0 t0 K0=>qk K0 rfl (v (vl 1 _ cD rfl rfl rfl (v (v (qM m (σ:=(List Int)) (τ:=Option bY) (λg s=> [(g,.tok 5 1 ((s:List Int).length*1)),(some k2,.obj 62 (aD p0))]) (λg s=>(g=none→s= [])) (λg s=>.c 4 (ow g 1 (List.map cW s)) .nil) (λx m=> ?_) ?_))))))))
 refine v ?_
 apply vi m <;> intro c0 m
 refine v (vl 1 (.agg (bC p0.Snap.Man)) nU rfl rfl rfl (vk W42 aC4 m rfl rfl λ_ m=>v (vl 1 _ cD rfl rfl rfl ?_)))
 obtain⟨y0,Y0,m⟩:=aC m
 refine ve λu=> ?_
 have ho0:=lX (A:= [(tg0,.tok 5 1 ((([IntKind.wrap .u8 p0.Kind]:List Int):List Int).length*1))]) (R:= [(some k2,.obj 62 (aD p0))]) u [[_], [_]] rfl [0] [1] rfl rfl rfl
 refine dO ho0.1 (cR (DJ _ t0 ho0.2.2 Y0) rfl DK rfl ?_)
 rintro x h' ⟨tg1,t1,K1,rfl,rfl⟩
 have K2:=lY (L':= [(tg1,.tok 5 1 ((y0:List Int).length*1)),(some k2,.obj 62 (aD p0))]) ho0.2.1 K1 [[_]] [[_]] rfl rfl [0,1] rfl rfl
 refine qk K2.2 K2.1 (cY kR rfl ?_)
 obtain⟨y1,Y1,m⟩:=aC m
 refine ve λu=> ?_
 have ho1:=lX (A:= [(tg1,.tok 5 1 ((y0:List Int).length*1))]) (R:= [(some k2,.obj 62 (aD p0))]) u [[_], [_]] rfl [0] [1] rfl rfl rfl
 refine dO ho1.1 (cR (DJ _ t1 ho1.2.2 Y1) rfl DK rfl ?_)
 rintro x h' ⟨tg2,t2,K4,rfl,rfl⟩
 have K5:=lY (L':= [(tg2,.tok 5 1 ((y1:List Int).length*1)),(some k2,.obj 62 (aD p0))]) ho1.2.1 K4 [[_]] [[_]] rfl rfl [0,1] rfl rfl
 refine qk K5.2 K5.1 ?_
 obtain⟨z0,Z0,m⟩:=aC m
 refine ve λu=>e8 (c:=cW) 0 Z0 jH rfl rfl rfl t2 u rfl λtg3 t3 K6=>qk K6 rfl (v (vl 1 _ eO rfl rfl rfl (cY jG rfl ?_)))
 obtain⟨y2,Y2,m⟩:=aC m
 refine ve λu=> ?_
 have ho2:=lX (A:= [(tg3,.tok 5 1 ((z0:List Int).length*1))]) (R:= [(some k2,.obj 62 (aD p0))]) u [[_], [_]] rfl [0] [1] rfl rfl rfl
 refine dO ho2.1 (cR (DJ _ t3 ho2.2.2 Y2) rfl DK rfl ?_)
 rintro x h' ⟨tg4,t4,K7,rfl,rfl⟩
 have K8:=lY (L':= [(tg4,.tok 5 1 ((y2:List Int).length*1)),(some k2,.obj 62 (aD p0))]) ho2.2.1 K7 [[_]] [[_]] rfl rfl [0,1] rfl rfl
 refine qk K8.2 K8.1 (v (vl 1 _ eO rfl rfl rfl (cY jG rfl (pB m (σ:=(List Int)×Int) (τ:=Option bY) (λg s=> [(g,.tok 5 1 ((s.1:List Int).length*1)),(some k2,.obj 62 (aD p0))]) (λg s=>(g=none→s.1= [])) (λg s=>.c 4 (ow g 1 (List.map cW s.1)) (.c 51 (.sl none 35 (List.map aI p0.Chunks)) (.c 52 (nZ (p0.Chunks.length:Int)) (.c 53 (nZ s.2) .nil)))) tg4 t4 (lx (.k4 .nil)) ?_ ?_))))
 rintro tg5 ⟨q0,q1⟩ x t5 m
 replace m:HB w p0 q0 q1=some x:=m
 unfold HB at m
 refine v (v ?_)
 apply vi m <;> intro c1 m
 refine v (v (v (vx m fH rfl rfl λx0 _ m=>va (.agg (aI x0)) nT rfl rfl (ve λu=>bG (bH jI++(OB:List AV)) u oK rfl rfl λk1507 K9=>qk K9 rfl (ve λu=>aJ 0 (aI x0) u rfl rfl rfl rfl CF rfl rfl λK10=>qk K10 rfl (v (bV (D7 sN rfl) ?_)))))))
 obtain⟨z1,Z1,m⟩:=aC m
 refine ve λu=>e8 (c:=cW) 1 Z1 jH rfl rfl rfl t5 u (xR (aX 0 u rfl) rfl rfl) λtg6 t6 K11=>qk K11 rfl (v (vz [(1000000,some k1507,.obj 44 (aI x0))] mixed (λu=>⟨λ_=>aK 0 u rfl,trivial⟩) λu=>zC 0 rfl (eZ (ow _ _ _) rfl) (zF 1 rfl jP rfl (zL 2 0 (.sl none 1 (List.map cW x0.Data)) rfl lL rfl rfl rfl (zC 3 rfl (rC kR rfl) (zF 5 rfl jP rfl (zL 6 0 (.sl none 1 (List.map cW x0.Data)) rfl lL rfl rfl rfl ?_)))))))
 obtain⟨y3,Y3,m⟩:=aC m
 refine zE 4 rfl ?_
 have ho3:=lX (A:= [(tg6,.tok 5 1 ((z1:List Int).length*1))]) (R:= [(some k1507,.obj 44 (aI x0)),(some k2,.obj 62 (aD p0))]) u [[_], [_], [_]] rfl [1] [0,2] rfl rfl rfl
 refine dO ho3.1 (cR (DJ _ t6 ho3.2.2 Y3) rfl DK rfl ?_)
 rintro x h' ⟨tg7,t7,K12,rfl,rfl⟩
 have K13:=lY (L':= [(some k1507,.obj 44 (aI x0)),(tg7,.tok 5 1 ((y3:List Int).length*1)),(some k2,.obj 62 (aD p0))]) ho3.2.1 K12 [[_]] [[_], [_]] rfl rfl [1,0,2] rfl rfl
 refine nC K13.1 (⟨⟨λ_=>aK 0 K13.2 rfl,trivial⟩, ?_⟩)
 obtain⟨z2,Z2,m⟩:=aC m
 refine zE 7 rfl (e8 (c:=cW) 1 Z2 jH rfl rfl rfl t7 K13.2 rfl λtg8 t8 K15=>⟨⟨λ_=>aK 0 K15 rfl,trivial⟩, ?_⟩)
 exact zC 8 rfl (hU (ow _ _ _) rfl) (zX (qk (f:=.c 4 _ (.c 68 _ (.c 65 _ (.c 67 _ (.c 66 _ (PF 64 _ _ _ _ _)))))) K15 rfl (v (fB m tg8 t8 (nD [1,2] rfl rfl (.k4 .nil))))))
 exact v (mL m tg5 t5 (lx (.k4 .nil)))
 rintro tg9 ⟨r0,r1⟩ t9 m
 exact fB m tg9 t9 (lx (.cons (bB.refl _ _) .nil))
 refine v (qM m (σ:=(List Int)) (τ:=Option bY) (λg s=> [(g,.tok 5 1 ((s:List Int).length*1)),(some k2,.obj 62 (aD p0))]) (λg s=>(g=none→s= [])) (λg s=>.c 4 (ow g 1 (List.map cW s)) .nil) (λx m=> ?_) ?_)
 refine v ?_
 apply vi m <;> intro c2 m
 refine v (vl 1 _ cD rfl rfl rfl ?_)
 obtain⟨y4,Y4,m⟩:=aC m
 refine ve λu=> ?_
 have ho4:=lX (A:= [(tg0,.tok 5 1 ((([IntKind.wrap .u8 p0.Kind]:List Int):List Int).length*1))]) (R:= [(some k2,.obj 62 (aD p0))]) u [[_], [_]] rfl [0] [1] rfl rfl rfl
 refine dO ho4.1 (cR (DJ _ t0 ho4.2.2 Y4) rfl DK rfl ?_)
 rintro x h' ⟨tg10,t10,K16,rfl,rfl⟩
 have K17:=lY (L':= [(tg10,.tok 5 1 ((y4:List Int).length*1)),(some k2,.obj 62 (aD p0))]) ho4.2.1 K16 [[_]] [[_]] rfl rfl [0,1] rfl rfl
 exact qk K17.2 K17.1 (fB m tg10 t10 (lx (.cons (bB.refl _ _) .nil)))
 refine v (qM m (σ:=(List Int)) (τ:=Option bY) (λg s=> [(g,.tok 5 1 ((s:List Int).length*1)),(some k2,.obj 62 (aD p0))]) (λg s=>(g=none→s= [])) (λg s=>.c 4 (ow g 1 (List.map cW s)) .nil) (λx m=> ?_) ?_)
 refine v ?_
 apply vi m <;> intro c3 m
 refine v (vl 1 _ cD rfl rfl rfl (vl 1 _ kY rfl rfl rfl (cY pE rfl (bV (eD (List.map cW ([IntKind.wrap .u8 p0.Vol,IntKind.wrap .u8 (p0.Items.length:Int)]:List Int)) jH rfl rfl rfl rfl) ?_))))
 obtain⟨z3,Z3,m⟩:=aC m
 refine ve λu=>e8 (c:=cW) 0 Z3 jH rfl rfl rfl t0 u rfl λtg11 t11 K18=>qk K18 rfl (v (vl 1 _ kY rfl rfl rfl (cY pE rfl (pB m (σ:=(List Int)×Int) (τ:=Option bY) (λg s=> [(g,.tok 5 1 ((s.1:List Int).length*1)),(some k2,.obj 62 (aD p0))]) (λg s=>(g=none→s.1= [])) (λg s=>.c 4 (ow g 1 (List.map cW s.1)) (.c 89 (.sl none 37 (List.map aV p0.Items)) (.c 90 (nZ (p0.Items.length:Int)) (.c 91 (nZ s.2) .nil)))) tg11 t11 (lx (.k4 .nil)) ?_ ?_))))
 rintro tg13 ⟨q2,q3⟩ x t12 m
 replace m:HC w p0 q2 q3=some x:=m
 unfold HC at m
 refine v (v ?_)
 apply vi m <;> intro c4 m
 refine v (v (v (vx m wK rfl rfl λx1 _ m=>va (.agg (aV x1)) GB rfl rfl (ve λu=>bG (([nZ 0]:List AV)++bH jI++(Q5:List AV)) u S8 rfl rfl λk2640 K19=>qk K19 rfl (ve λu=>aJ 0 (aV x1) u rfl rfl rfl rfl S6 rfl rfl λK20=>qk K20 rfl (v (vz [(1000000,some k2640,.obj 38 (aV x1))] mixed (λu=>⟨λ_=>aK 0 u rfl,trivial⟩) λu=>zC 0 rfl (eZ (ow _ _ _) rfl) (zF 1 rfl lR rfl (zL 2 0 (nZ x1.Kind) rfl cD rfl rfl rfl (zC 3 rfl (BM RE ti5 rfl) (zC 4 rfl (eD (List.map cW ([IntKind.wrap .u8 x1.Kind]:List Int)) jH rfl rfl rfl rfl) (zF 6 rfl uW rfl (zC 7 rfl (D7 sN rfl) ?_)))))))))))))
 obtain⟨z4,Z4,m⟩:=aC m
 refine zE 5 rfl (e8 (c:=cW) 1 Z4 jH rfl rfl rfl t12 u rfl λtg14 t14 K21=>⟨⟨λ_=>aK 0 K21 rfl,trivial⟩, ?_⟩)
 obtain⟨z5,Z5,m⟩:=aC m
 refine zE 8 rfl (e8 (c:=cW) 1 Z5 jH rfl rfl rfl t14 K21 (xR (aX 0 K21 rfl) rfl rfl) λtg15 t15 K22=>⟨⟨λ_=>aK 0 K22 rfl,trivial⟩, ?_⟩)
 refine zC 9 rfl (hU (ow _ _ _) rfl) (zX (qk (f:=.c 4 _ (.c 103 _ (.c 100 _ (.c 102 _ (.c 101 _ (fq5 99 _ _ _ _ _ _)))))) K22 rfl (v (vz [(1000000,some k2640,.obj 38 (aV x1))] mixed (λu=>⟨λ_=>aK 0 u rfl,trivial⟩) λu=>zC 0 rfl (eZ (ow _ _ _) rfl) (zF 1 rfl kZ rfl (zL 2 0 (nZ x1.Seq) rfl cD rfl rfl rfl (zF 4 rfl uX rfl (zL 5 0 (nZ x1.Of) rfl cD rfl rfl rfl (zF 7 rfl GC rfl (zL 8 0 (nZ x1.Off) rfl cD rfl rfl rfl (zF 10 rfl GD rfl (zL 11 0 (nZ x1.Len) rfl cD rfl rfl rfl ?_))))))))))))
 obtain⟨y5,Y5,m⟩:=aC m
 refine zE 3 rfl ?_
 have ho5:=lX (A:= [(tg15,.tok 5 1 ((z5:List Int).length*1))]) (R:= [(some k2640,.obj 38 (aV x1)),(some k2,.obj 62 (aD p0))]) u [[_], [_], [_]] rfl [1] [0,2] rfl rfl rfl
 refine dO ho5.1 (cR (DJ _ t15 ho5.2.2 Y5) rfl DK rfl ?_)
 rintro x h' ⟨tg16,t16,K23,rfl,rfl⟩
 have K24:=lY (L':= [(some k2640,.obj 38 (aV x1)),(tg16,.tok 5 1 ((y5:List Int).length*1)),(some k2,.obj 62 (aD p0))]) ho5.2.1 K23 [[_]] [[_], [_]] rfl rfl [1,0,2] rfl rfl
 refine nC K24.1 (⟨⟨λ_=>aK 0 K24.2 rfl,trivial⟩, ?_⟩)
 obtain⟨y6,Y6,m⟩:=aC m
 refine zE 6 rfl ?_
 have ho6:=lX (A:= [(tg16,.tok 5 1 ((y5:List Int).length*1))]) (R:= [(some k2640,.obj 38 (aV x1)),(some k2,.obj 62 (aD p0))]) K24.2 [[_], [_], [_]] rfl [1] [0,2] rfl rfl rfl
 refine dO ho6.1 (cR (DJ _ t16 ho6.2.2 Y6) rfl DK rfl ?_)
 rintro x h' ⟨tg17,t17,K25,rfl,rfl⟩
 have K26:=lY (L':= [(some k2640,.obj 38 (aV x1)),(tg17,.tok 5 1 ((y6:List Int).length*1)),(some k2,.obj 62 (aD p0))]) ho6.2.1 K25 [[_]] [[_], [_]] rfl rfl [1,0,2] rfl rfl
 refine nC K26.1 (⟨⟨λ_=>aK 0 K26.2 rfl,trivial⟩, ?_⟩)
 obtain⟨y7,Y7,m⟩:=aC m
 refine zE 9 rfl ?_
 have ho7:=lX (A:= [(tg17,.tok 5 1 ((y6:List Int).length*1))]) (R:= [(some k2640,.obj 38 (aV x1)),(some k2,.obj 62 (aD p0))]) K26.2 [[_], [_], [_]] rfl [1] [0,2] rfl rfl rfl
 refine dO ho7.1 (cR (DJ _ t17 ho7.2.2 Y7) rfl DK rfl ?_)
 rintro x h' ⟨tg18,t18,K27,rfl,rfl⟩
 have K28:=lY (L':= [(some k2640,.obj 38 (aV x1)),(tg18,.tok 5 1 ((y7:List Int).length*1)),(some k2,.obj 62 (aD p0))]) ho7.2.1 K27 [[_]] [[_], [_]] rfl rfl [1,0,2] rfl rfl
 refine nC K28.1 (⟨⟨λ_=>aK 0 K28.2 rfl,trivial⟩, ?_⟩)
 obtain⟨y8,Y8,m⟩:=aC m
 refine zE 12 rfl ?_
 have ho8:=lX (A:= [(tg18,.tok 5 1 ((y7:List Int).length*1))]) (R:= [(some k2640,.obj 38 (aV x1)),(some k2,.obj 62 (aD p0))]) K28.2 [[_], [_], [_]] rfl [1] [0,2] rfl rfl rfl
 refine dO ho8.1 (cR (DJ _ t18 ho8.2.2 Y8) rfl DK rfl ?_)
 rintro x h' ⟨tg19,t19,K29,rfl,rfl⟩
 have K30:=lY (L':= [(some k2640,.obj 38 (aV x1)),(tg19,.tok 5 1 ((y8:List Int).length*1)),(some k2,.obj 62 (aD p0))]) ho8.2.1 K29 [[_]] [[_], [_]] rfl rfl [1,0,2] rfl rfl
 refine nC K30.1 (⟨⟨λ_=>aK 0 K30.2 rfl,trivial⟩, ?_⟩)
 exact zC 13 rfl (hU (ow _ _ _) rfl) (zX (qk (f:=.c 4 _ (.c 116 _ (.c 113 _ (.c 110 _ (.c 107 _ (.c 115 _ (.c 114 _ (.c 112 _ (.c 111 _ (.c 109 _ (.c 108 _ (.c 106 _ (.c 105 _ (.c 104 _ _)))))))))))))) K30.2 rfl (v (fB m tg19 t19 (nD [1,2] rfl rfl (.k4 .nil))))))
 exact v (mL m tg13 t12 (lx (.k4 .nil)))
 rintro tg20 ⟨r2,r3⟩ t20 m
 exact fB m tg20 t20 (lx (.cons (bB.refl _ _) .nil))
 refine v (vl 1 _ cD rfl rfl rfl (bV (eD (List.map cW ([IntKind.wrap .u8 p0.Vol]:List Int)) jH rfl rfl rfl rfl) ?_))
 obtain⟨z6,Z6,m⟩:=aC m
 exact ve λu=>e8 (c:=cW) 0 Z6 jH rfl rfl rfl t0 u rfl λtg21 t21 K31=>qk K31 rfl (fB m tg21 t21 (lx (.cons (bB.refl _ _) .nil)))
 rintro tg22 j0 t22 m
 exact fB m tg22 t22 (lx (.cons (bB.refl _ _) .nil))
 rintro tg23 j1 t23 m
 exact fB m tg23 t23 (lx (.cons (bB.refl _ _) .nil))
 rintro tg24 j2 t24 m
 refine v ?_
 obtain⟨_,Y9,m⟩:=aC m
 refine ve λu=>CA (t:=118) (.sl none 1 (List.map cW j2)) (aW (List.eraseIdx_sublist _ 0) u).1 (mW _ 0 t24 u rfl (.refl _)) (cR (W96 _ Y9) rfl PR rfl ?_)
 rintro x h' ⟨tg25,t25,K32,rfl,rfl⟩
 refine qk (bQ.co ((aW (List.eraseIdx_sublist _ 0) u).2) K32) (iO _ _ _) (v ?_)
 cases m
 exact vr λu=>dZ.of2 (.inl rfl) (f0 _ _ (ow _ _ _) rfl) (f0 _ _ (.sc (.int _ _)) rfl) (aW (List.nil_sublist _) u).1 ((eQ _ 0 t25 u rfl)) (bB.refl _ _) ⟨rfl,rfl⟩
theorem aF4:aP Tryz.prog 40=true:=by kernel_rfl
def M37 (m:Nat):Option (Bool):=
 (M32 m ([0]:List Int)).bind λy3=>(NA m y3.1 ({ Kind:=1,Snap:=({ Seq:=0,Man:=({ Name:=(ByteArray.mk #[97]),Parts:= []}:aY),Locs:= []}:aH),Chunks:= [],Seq:=0,Vol:=0,Items:= []}:aN)).bind λy0=>(M40 m ({ Kind:=1,Snap:=({ Seq:=0,Man:=({ Name:=(ByteArray.mk #[97]),Parts:= []}:aY),Locs:= []}:aH),Chunks:= [],Seq:=0,Vol:=0,Items:= []}:aN)).bind λy1=>after (if (y3.2==0)=true then (if (y0.2==0)=true then (if (y1.2==0)=true then (if ((y0.1.Snaps.length:Int)==1)=true then (if (y0.1.Seq==1)=true then (some (.brk ((y1.1.length:Int)==14))) else some (.brk false)) else some (.brk false)) else some (.brk false)) else some (.brk false)) else some (.brk false):Option (Lp (Bool) (Bool))) λj0=>some j0
theorem W37 {w:Nat} {o:Bool} (h:aE) (m:M37 w=some o):
 aL Tryz.prog 37 [] h (λr h'=>r= .sc (.bool o)∧h'=h):=by
 refine fT 53 [.tmp 0] Tryz.func37 rfl rfl rfl rfl ?_
 unfold M37 at m
 refine v (v (bV (eD (List.map iU ([0]:List Int)) PJ rfl rfl rfl rfl) (vk W32 aEB m rfl rfl λy3 m=>ve λu=>bG (gO) u oH rfl rfl λk5 K6=>qk K6 rfl (ve λu=>aJ 0 (aF y3.1) u rfl rfl rfl rfl kX rfl rfl λK8=>qk K8 rfl (v (bV (eK ([.sc (.string (ByteArray.mk #[97])),sZ]) LR rfl) (bV (eK ([nZ 0,.sc (.string (ByteArray.mk #[97])),sZ,sZ]) PN rfl) (bV (eK ([nZ 1,nZ 0,.sc (.string (ByteArray.mk #[97])),sZ,sZ,sZ,nZ 0,nZ 0,sZ]) wM rfl) (ve λu=>bG (xE) u LT rfl rfl λk10 K0=>qk K0 rfl (ve λu=>aJ 0 ([nZ 1,nZ 0,.sc (.string (ByteArray.mk #[97])),sZ,sZ,sZ,nZ 0,nZ 0,sZ]) u rfl rfl rfl rfl wL rfl rfl λK1=>qk K1 rfl (v (vl 1 (.agg (aF y3.1)) eP rfl rfl rfl (vl 0 (.agg ([nZ 1,nZ 0,.sc (.string (ByteArray.mk #[97])),sZ,sZ,sZ,nZ 0,nZ 0,sZ])) pG rfl rfl rfl ?_)))))))))))))
 obtain⟨y0,Y0,m⟩:=aC m
 refine bV (cB (mI (.cons (bB.refl _ _) (.cons (bB.agg (.k3 (.cons (aR _) (.cons (aR _) (.cons (aR _) (.k2 (.cons (aR _) .nil))))))) .nil)) (W29 _ Y0)) rfl QD rfl) (ve λu=>bG (gO) u oH rfl rfl λk17 K2=>qk K2 rfl (ve λu=>aJ 0 (aF y0.1) u rfl rfl rfl rfl kX rfl rfl λK3=>qk K3 rfl (v (vl 1 (.agg ([nZ 1,nZ 0,.sc (.string (ByteArray.mk #[97])),sZ,sZ,sZ,nZ 0,nZ 0,sZ])) pG rfl rfl rfl ?_))))
 obtain⟨_,Y1,m⟩:=aC m
 refine bV (cB (mI (.cons (bB.agg (.k3 (.cons (aR _) (.cons (aR _) (.cons (aR _) (.k2 (.cons (aR _) .nil))))))) .nil) (W40 _ Y1)) rfl aF4 rfl) (vs (fQ m (σ:=Bool) (λs=> [(some k17,.obj 30 (aF y0.1)),(some k10,.obj 62 ([nZ 1,nZ 0,.sc (.string (ByteArray.mk #[97])),sZ,sZ,sZ,nZ 0,nZ 0,sZ])),(some k5,.obj 30 (aF y3.1))]) (λs=>.c 0 (.sc (.bool s)) .nil) (λx m=> ?_) ?_))
 refine v ?_
 apply vi m <;> intro b0 m
 rw[b0]
 apply vi m <;> intro b1 m
 rw[b1]
 apply vi m <;> intro b2 m
 rw[b2]
 refine vl 0 _ eV rfl rfl rfl (cY iQ rfl ?_)
 apply vi m <;> intro b3 m
 rw[b3]
 refine vl 0 _ cD rfl rfl rfl ?_
 apply vi m <;> intro b4 m
 rw[b4]
 exact cY kR rfl (iZ m)
 rw[b4]
 exact iZ m
 rw[b3]
 exact iZ m
 rw[b2]
 exact iZ m
 rw[b1]
 exact iZ m
 rw[b0]
 exact iZ m
 rintro _ j0 m
 refine v ?_
 obtain rfl:=eU m
 exact eA rfl
theorem aAZ:aP Tryz.prog 37=true:=by kernel_rfl
open Go.Vm
theorem Lk.filt {vs:List aM} {l:List bE} (h:Lk vs l) (q:bE→Bool):Lk vs (l.filter q):=
 ⟨Nat.le_trans (List.length_filter_le _ _) h.n,λx hx=>h.a x (List.mem_filter.1 hx).1,h.o.sublist (List.filter_sublist)⟩
theorem IP {vs:List aM} {x:bE} {v:Nat} {z:aM} (h:tG vs x=true) (hv:x.Vol.toNat≠v):tG (vs.set v z) x=true:=by
 unfold tG at*
 rw[List.length_set,List.getElem?_set_ne (λe=>hv e.symm)]
 exact h
theorem DL {vs:List aM} {x:bE} (h:tG vs x=true):0≤x.Vol∧∃v,vs[x.Vol.toNat]? =some v∧v.State=2∧1≤x.File∧x.File≤v.Files:=by
 unfold tG at h
 simp only[Bool.and_eq_true,eY,decide_eq_true_eq] at h
 obtain⟨⟨⟨h1,h2⟩, -⟩, -⟩:=h
 refine⟨h1.1, ?_⟩
 cases e:vs[x.Vol.toNat]? with
 | none=>rw[e] at h2; cases h2
 | some v=>
  rw[e] at h2
  simp only[Bool.and_eq_true,beq_iff_eq,decide_eq_true_eq] at h2
  exact⟨v,rfl,h2.1,h2.2.1,h2.2.2⟩
theorem Lk.set {vs:List aM} {l:List bE} {v:Int} {z:aM} (h:Lk vs l) (h0:0≤v) (hv:∀x∈l,x.Vol≠v):Lk (vs.set v.toNat z) l:=
 ⟨h.n,λx hx=>IP (h.a x hx) (by have:=(DL (h.a x hx)).1; have:=hv x hx; omega),h.o⟩
theorem Lk.lf {vs:List aM} {l:List bE} {v:Int} {z:aM} (h:Lk vs l) (h0:0≤v):Lk (vs.set v.toNat z) (lf v l):=
 Lk.set (h.filt _) h0 λx hx=>by
  have:=(List.mem_filter.1 hx).2
  simpa using this
theorem Lk.off {vs:List aM} {l:List bE} {v:Int} {z:aM} (h:Lk vs l) (hz:vs[v.toNat]? =some z) (hs:z.State≠2):∀x∈l,x.Vol≠v:=λx hx e=>by
 obtain⟨-,y,hy,h2, -⟩:=DL (h.a x hx)
 rw[e,hz] at hy
 obtain rfl:=Option.some.inj hy
 exact hs h2
theorem NZ {c:aA} {v:Int} {x:aM} (h:Sm c) (hx:c.Vols[v.toNat]? =some x):Sm (ret c v x):=by
 obtain⟨g0,g1,g2,g3,g4⟩:=h.g
 have lfm:∀ {l:List bE} {y},y∈lf v l→y∈l:=λhy=>(List.mem_filter.1 hy).1
 have lfl:∀(l:List bE),(lf v l).length≤l.length:=λl=>List.length_filter_le _ _
 refine⟨⟨g0, ?_, ?_, ?_, ?_⟩, ?_, ?_, ?_, ?_, ?_, ?_, ?_, ?_⟩
 ·intro s hs
  obtain⟨s0,h0,rfl⟩:=List.mem_map.1 hs
  exact⟨(g1 s0 h0).1,(g1 s0 h0).2.1,λy hy=>(g1 s0 h0).2.2 y (lfm hy)⟩
 ·intro s hs
  obtain⟨s0,h0,rfl⟩:=List.mem_map.1 (List.mem_filter.1 hs).1
  exact⟨(g2 s0 h0).1,(g2 s0 h0).2.1,(g2 s0 h0).2.2.1,λy hy=>(g2 s0 h0).2.2.2 y (lfm hy)⟩
 ·intro s hs
  obtain⟨s0,h0,rfl⟩:=List.mem_map.1 (List.mem_filter.1 hs).1
  exact⟨(g3 s0 h0).1,(g3 s0 h0).2.1,λy hy=>(g3 s0 h0).2.2 y (lfm hy)⟩
 ·intro s hs
  rcases List.mem_or_eq_of_mem_set hs with h1 | rfl
  ·exact g4 s h1
  ·have:=g4 x (List.mem_of_getElem? hx)
   exact⟨this.1,this.2.1,(⟨by decide,by decide⟩:gI 3),(⟨by decide,by decide⟩:gI 0)⟩
 ·simpa [ret] using h.sn
 ·exact Nat.le_trans (List.length_filter_le _ _) (by simpa using h.ch)
 ·exact Nat.le_trans (List.length_filter_le _ _) (by simpa using h.ex)
 ·simpa [ret] using h.vo
 ·intro s hs
  obtain⟨s0,h0,rfl⟩:=List.mem_map.1 hs
  exact Nat.le_trans (lfl _) (h.sl s0 h0)
 ·intro s hs
  obtain⟨s0,h0,rfl⟩:=List.mem_map.1 (List.mem_filter.1 hs).1
  exact⟨Nat.le_trans (lfl _) (h.cl s0 h0).1,(h.cl s0 h0).2⟩
 ·intro s hs
  obtain⟨s0,h0,rfl⟩:=List.mem_map.1 (List.mem_filter.1 hs).1
  exact Nat.le_trans (lfl _) (h.el s0 h0)
 ·intro s hs
  obtain⟨s0,h0,rfl⟩:=List.mem_map.1 hs
  exact h.man s0 h0
theorem N0 {c:aA} {v:Int} {x:aM} (h:Sm c) (hx:c.Vols[v.toNat]? =some x) (he:x.Epoch≤1048576∧0≤x.Epoch):Sm (rel c v x):=by
 obtain⟨g0,g1,g2,g3,g4⟩:=h.g
 refine { h with g:=⟨g0,g1,g2,g3, ?_⟩,vo:=by simpa [rel] using h.vo}
 intro s hs
 rcases List.mem_or_eq_of_mem_set hs with h1 | rfl
 ·exact g4 s h1
 ·have:=g4 x (List.mem_of_getElem? hx)
  exact⟨this.1,⟨by simp only; omega,by simp only; omega⟩,(⟨by decide,by decide⟩:gI 1),this.2.2.2⟩
open Go.Vm
theorem Mk.wd {c:aA} {d:aN} (h:Mk c d) (hG:Gd c) (hd:E5 d):Wd d:=by
 refine⟨hd.it,λi hi=> ?_⟩
 obtain⟨-,a2,a3,a4⟩:=hd.iti i hi
 refine⟨?_, ?_,a2,a3,a4⟩
 ·rcases h.it with h1 | ⟨s,hs,e⟩
  ·exact(h1.a i hi).id
  ·rw[e] at hi
   rw[List.mem_singleton.1 hi]
   exact IE
 ·rcases h.it with h1 | ⟨s,hs,e⟩
  ·exact(h1.a i hi).q
  ·rw[e] at hi
   rw[List.mem_singleton.1 hi]
   have:=hG.q
   simpa [eY] using this
inductive Eff (c:aA) (d:aN) (e:aA):Prop
 | add (k:d.Kind=1) (q:d.Snap.Seq=c.Seq∧kB d.Chunks=true) (n:c.Snaps.any (λs=>s.Man.Name.toList==d.Snap.Man.Name.toList)=false) (w:e=ad c d)
 | drop (k:d.Kind=2) (q:c.Snaps.any (λs=>s.Seq==d.Seq)=true) (w:e=p8 c d.Seq)
 | wrote (k:d.Kind=3) (x:aM) (hx:c.Vols[d.Vol.toNat]? =some x) (q:iV x d=true) (p:d.Items.all (jV c)=true) (w:e=i6 c d x)
 | ret (k:d.Kind=4) (x:aM) (hx:c.Vols[d.Vol.toNat]? =some x) (q:x.State=2) (w:e=ret c d.Vol x)
 | rel (k:d.Kind=5) (x:aM) (hx:c.Vols[d.Vol.toNat]? =some x) (q:x.State=3) (w:e=rel c d.Vol x)
theorem UY {c:aA} {v:Int} (h:0≤v∧v < c.Vols.length):∃x,c.Vols[v.toNat]? =some x:=⟨_,List.getElem?_eq_getElem (show v.toNat < c.Vols.length by omega)⟩
theorem N1 {c:aA} (hG:Gd c) {n:Nat} {x:aM} (hx:c.Vols[n]? =some x):0≤x.Epoch∧x.Epoch≤1048576:=by
 have:=hG.v x (List.mem_of_getElem? hx)
 unfold mD eY at this
 simp only[Bool.and_eq_true,decide_eq_true_eq] at this
 exact this.1.2
open Go.Vm
theorem xB {ρ:Type} {body:Int→Option (Lp Int ρ)} {c:Nat→Bool} {n:Nat} (hb:∀k:Nat,k≤n→body (k:Int)=some (if decide (k < n) && c k then .go ((k+1:Nat):Int) else .brk (k:Int))):∀(G k:Nat),k≤n→n - k < G→
    ∃p:Nat,k≤p∧p≤n∧aU body G (k:Int)=some (.brk (p:Int))∧(∀j,k≤j→j < p→c j=true)∧(p < n→c p=false)
  | 0,_,_,h=>by omega
  | G+1,k,hk,h=>by
    unfold aU
    rw[hb k hk]
    cases e:decide (k < n) && c k with
    | false=>
      refine⟨k,Nat.le_refl _,hk,by simp,λj h1 h2=>by omega,λh0=> ?_⟩
      simpa [h0] using e
    | true=>
      simp only[Bool.and_eq_true,decide_eq_true_eq] at e
      obtain⟨p,h1,h2,h3,h4,h5⟩:=xB (body:=body) (c:=c) (n:=n) hb G (k+1) (by omega) (by omega)
      refine⟨p,by omega,h2,by simpa using h3,λj hj1 hj2=> ?_,h5⟩
      by_cases ej:j=k
      · rw[ej]; exact e.2
      · exact h4 j (by omega) hj2
def ahB (a b:bE):Bool:=if a.Vol !=b.Vol then decide (a.Vol < b.Vol) else if a.File !=b.File then decide (a.File < b.File) else if a.Off !=b.Off then decide (a.Off < b.Off) else decide (a.Len < b.Len)
def nk (a b:bE):Prop:=¬(a.Vol=b.Vol∧a.File=b.File∧a.Off=b.Off)
theorem N2 {a b:bE} (h:nk a b):ahB a b= !jK a b:=by
 rw[Bool.eq_iff_iff,Bool.not_eq_true',← Bool.not_eq_true,wV]
 unfold nk at h
 unfold ahB
 by_cases h1:a.Vol=b.Vol <;> by_cases h2:a.File=b.File <;> by_cases h3:a.Off=b.Off <;> simp[h1,h2,h3] <;> omega
theorem v8 {l:List bE} {x:bE} (h:l.Pairwise λy z=>jK z y=true) (hl:l.length≤400):fZ l x=(l.filter λy=> !jK y x)++x::l.filter λy=>jK y x:=by
 obtain⟨p,hp, -⟩:=ZY (F:=1000) (l:=l) (x:=x) (Nat.le_refl _) hl
 have hle:=hp.le
 rw[← IJ hp]
 have lo:∀y∈l.take p,jK y x=false:=λy hy=>by
  obtain⟨j,hj,rfl⟩:=List.getElem_of_mem hy
  simp only[List.length_take] at hj
  rw[List.getElem_take]
  have hq:l[p - 1]? =some l[p - 1]:=List.getElem?_eq_getElem (by omega)
  have h0:=hp.lo _ (by omega) hq
  by_cases e:j=p - 1
  ·subst e; exact h0
  ·cases ha:jK l[j] x with
   | false=>rfl
   | true=>
    have:=KE h (List.getElem?_eq_getElem (show j < l.length by omega)) hq (by omega)
    rw[yS x l[j] l[p - 1] ha this] at h0
    cases h0
 have e:∀q:bE→Bool,l.filter q=(l.take p).filter q++(l.drop p).filter q:=λq=>by rw[← List.filter_append,List.take_append_drop]
 rw[e,e,List.filter_eq_self.2 λy hy=>by rw[lo y hy]; rfl,List.filter_eq_nil_iff.2 λy hy=>by rw[hp.hi y hy]; decide,List.filter_eq_nil_iff.2 λy hy=>by rw[lo y hy]; decide,List.filter_eq_self.2 λy hy=>hp.hi y hy]
 simp
theorem UZ {F:Nat} {l:List bE} {x:bE} (hF:1000≤F) (h:l.Pairwise λy z=>jK z y=true) (hl:l.length≤300) (hn:∀y∈l,nk y x):G4 F l x=some (fZ l x):=by
 obtain⟨p, -,hp,h1,h2,h3⟩:=xB (body:=λs=>tU F l x s) (c:=λk=>(l[k]?).any λy=>ahB y x) (n:=l.length) (λk hk=>by
  unfold tU QI
  by_cases hlt:k < l.length
  ·have hx:l[k]? =some l[k]:=List.getElem?_eq_getElem hlt
   generalize l[k]=y at hx
   rw[hH (by omega)]
   simp only[a8,hx,Int.ofNat_lt,hlt,decide_true,if_true,Option.bind_some,Bool.true_and,Option.any_some]
   have:(if (y.Vol !=x.Vol)=true then some (decide (y.Vol < x.Vol)) else if (y.File !=x.File)=true then some (decide (y.File < x.File)) else if (y.Off !=x.Off)=true then some (decide (y.Off < x.Off)) else some (decide (y.Len < x.Len)))=some (ahB y x):=by
    unfold ahB; split <;> (try rfl); split <;> (try rfl); split <;> rfl
   rw[this]
   simp only[Option.bind_some,aG]
   split <;> rfl
  ·have:¬((k:Int) < (l.length:Int)):=by omega
   simp[this,hlt,aG]) F 0 (Nat.zero_le _) (by omega)
 unfold G4
 rw[show ((0:Int))=((0:Nat):Int) from rfl,h1]
 simp only[aG]
 have s1:slc l ((0:Nat):Int) (p:Int)=some (l.take p):=by
  unfold slc; rw[if_pos ⟨by omega,by omega,by omega⟩]; simp
 have s2:slc l (p:Int) (l.length:Int)=some (l.drop p):=by
  unfold slc; rw[if_pos ⟨by omega,by omega,by omega⟩]; simp
 rw[s1,s2]
 simp only[Option.bind_some]
 rw[bW (by simp; omega)]
 simp only[Option.bind_some,List.nil_append]
 rw[bW (by simp; omega)]
 simp only[Option.bind_some]
 rw[bW (by simp; omega)]
 simp only[Option.bind_some,List.append_assoc,List.singleton_append]
 have a1:∀y∈l.take p,jK y x=false:=λy hy=>by
  obtain⟨j,hj,rfl⟩:=List.getElem_of_mem hy
  simp only[List.length_take] at hj
  have hq:l[j]? =some l[j]:=List.getElem?_eq_getElem (by omega)
  have:=h2 j (Nat.zero_le _) (by omega)
  simp only[hq,Option.any_some] at this
  rw[List.getElem_take]
  rw[N2 (hn _ (List.getElem_mem _))] at this
  simpa using this
 have a2:∀y∈l.drop p,jK y x=true:=λy hy=>by
  obtain⟨j,hj,rfl⟩:=List.getElem_of_mem hy
  simp only[List.length_drop] at hj
  have hq:l[p]? =some l[p]:=List.getElem?_eq_getElem (by omega)
  have:=h3 (by omega)
  simp only[hq,Option.any_some] at this
  rw[N2 (hn _ (List.getElem_mem _))] at this
  have this:jK l[p] x=true:=by simpa using this
  rw[List.getElem_drop]
  cases j with
  | zero=>exact this
  | succ j=>exact yS x _ _ this (KE h hq (List.getElem?_eq_getElem (show p+(j+1) < l.length by omega)) (by omega))
 rw[v8 h (by omega)]
 have e:∀q:bE→Bool,l.filter q=(l.take p).filter q++(l.drop p).filter q:=λq=>by rw[← List.filter_append,List.take_append_drop]
 rw[e,e,List.filter_eq_self.2 λy hy=>by rw[a1 y hy]; rfl,List.filter_eq_nil_iff.2 λy hy=>by rw[a2 y hy]; decide,List.filter_eq_nil_iff.2 λy hy=>by rw[a1 y hy]; decide,List.filter_eq_self.2 a2]
 simp
theorem U0 {F:Nat} {l:List bE} {v:Int} (hF:1000≤F) (hl:l.length≤300):G5 F l v=some (lf v l):=by
 unfold G5
 rw[mN (l:=l) [] (λy=> !(y.Vol==v)) id (by omega) (λi x hx hm hi acc ha=>by
  simp only[List.length_nil] at ha
  unfold tV
  simp only
  rw[hH (by omega)]
  simp only[a8,hx,Option.bind_some,Int.ofNat_lt,hi,decide_true,if_true]
  rw[bW (by simp; omega)]
  by_cases e:x.Vol=v <;> simp[e,aG]) (λacc=>by unfold tV; simp)]
 simp[aG,lf]
theorem U1 {F:Nat} {c:aA} {v a b:Int} {x:aM} (h0:0≤v) (hx:c.Vols[v.toNat]? =some x):z7 F c v a b=some (x.State==a || x.State==b):=by
 have hlt:=(List.getElem?_eq_some_iff.1 hx).1
 unfold z7
 rw[if_pos (by simpa using h0),if_pos (by simp; omega)]
 simp only[pU _ h0,hx,Option.bind_some]
 cases h:x.State==a <;> simp[aG]
def Lv (c:aA):Prop:=∀x∈c.Chunks,m8 x=true
theorem U2 {F:Nat} {c:aA} {q:Int} (hF:1000≤F) (h:Sm c) (hv:Lv c):CZ F c q=some (if c.Snaps.any (λs=>s.Seq==q) then (true,(p8 c q).Snaps,(p8 c q).Chunks) else (false,c.Snaps,c.Chunks)):=by
 have hsn:=h.sn
 have hch:=h.ch
 have hD:=p9 h λs=> !(s.Seq==q)
 unfold CZ
 rw[mN (l:=c.Snaps) [] (λs=> !(s.Seq==q)) id (by omega) (λi x hx hm hi acc ha=>by
  simp only[List.length_nil] at ha
  unfold tW
  simp only
  rw[hH (by omega)]
  simp only[a8,hx,Option.bind_some,Int.ofNat_lt,hi,decide_true,if_true]
  rw[bW (by simp; omega)]
  by_cases e:x.Seq=q <;> simp[e,aG]) (λacc=>by unfold tW; simp)]
 simp only[aG,List.nil_append,List.map_id]
 have len:=List.length_filter_le (λs:aH=> !(s.Seq==q)) c.Snaps
 cases ha:c.Snaps.any (λs=>s.Seq==q) with
 | false=>
  rw[List.filter_eq_self.2 λs hs=>by simpa using List.any_eq_false.1 ha s hs,if_pos (by simp)]
  rfl
 | true=>
  have hne:¬((c.Snaps.filter λs=> !(s.Seq==q)).length=c.Snaps.length):=λe=>by
   obtain⟨s,hs,e2⟩:=List.any_eq_true.1 ha
   have:=List.length_filter_eq_length_iff.1 e s hs
   simp[e2] at this
  rw[if_neg (by simp; omega)]
  rw[mN (l:=c.Chunks) [] (λy=>m8 (wX (jU c q) y)) (wX (jU c q)) (by omega) (λi x hx hm hi acc ha=>by
   simp only[List.length_nil] at ha
   unfold tX
   simp only
   rw[hH (by omega)]
   have ea:∀z:aB,app acc [z]=some (acc++ [z]):=λz=>bW (by simp; omega)
   have hl:=hv x hm
   simp only[a8,hx,Option.bind_some,Int.ofNat_lt,hi,decide_true,if_true,ea,m65 hF (c:= { Seq:=c.Seq,Snaps:=c.Snaps.filter λs=> !(s.Seq==q),Chunks:=c.Chunks,Exps:=c.Exps,Vols:=c.Vols}) hD]
   unfold wX
   rw[show kU { Seq:=c.Seq,Snaps:=c.Snaps.filter λs=> !(s.Seq==q),Chunks:=c.Chunks,Exps:=c.Exps,Vols:=c.Vols} x.Id=kU (jU c q) x.Id from rfl]
   cases kU (jU c q) x.Id with
   | true=>
    simp only[Bool.not_true,Bool.false_eq_true,if_false,aG,if_true,hl]
   | false=>
    simp only[Bool.not_false,Bool.false_eq_true,if_true,if_false,aG,m8,Bool.false_or]
    by_cases e:x.Locs.length=0
    ·rw[if_pos (by simp[e])]
     simp[e,aG,cF]
    ·rw[if_neg (by simpa using e)]
     have:(0:Int) < (x.Locs.length:Int):=by omega
     simp[this,aG]
     exact λh=>e (by rw[h]; rfl)) (λacc=>by unfold tX; simp)]
  simp only[aG,List.nil_append]
  rfl
theorem aF5 {F:Nat} {l:List aB} {n:aB} (hF:1000≤F) (hr:rZ l) (hn:mM n.Id) (hl:l.length≤360) (hm:∀x∈l,x.Locs.length≤300∧x.Data.length≤300) (hs:n.Staged=true) (ho:n.Locs= []) (hd:n.Data.length≤300):E3 F l n=some (rV l n):=by
  obtain⟨p, -,hp,h1,h2,h3⟩:=xB (body:=λs=>qB F l n s) (c:=λk=>(l[k]?).any λy=>decide (ky y.Id < ky n.Id)) (n:=l.length) (λk hk=>by
    unfold qB
    by_cases hlt:k < l.length
    · have hx:l[k]? =some l[k]:=List.getElem?_eq_getElem hlt
      have gx:=hr.1 l[k] (List.getElem_mem hlt)
      generalize l[k]=y at hx gx
      rw[hH (by omega)]
      simp only[a8,hx,Int.ofNat_lt,hlt,decide_true,if_true,Option.bind_some,Bool.true_and,Option.any_some,m60 hF gx hn,aG]
      split <;> rfl
    · have:¬((k:Int) < (l.length:Int)):=by omega
      simp[this,hlt,aG]) F 0 (Nat.zero_le _) (by omega)
  have ha:At l n.Id p:=⟨hp,λy hy=>by
      obtain⟨j,hj,rfl⟩:=List.getElem_of_mem hy
      simp only[List.length_take] at hj
      have:=h2 j (Nat.zero_le _) (by omega)
      rw[List.getElem?_eq_getElem (show j < l.length by omega)] at this
      rw[List.getElem_take]
      simpa using this,λy hy=>by
      obtain⟨j,hj,rfl⟩:=List.getElem_of_mem hy
      simp only[List.length_drop] at hj
      have hq:l[p]? =some l[p]:=List.getElem?_eq_getElem (by omega)
      have:=h3 (by omega)
      rw[hq] at this
      have this:¬ky (l[p]).Id < ky n.Id:=by simpa using this
      rw[List.getElem_drop]
      cases j with
      | zero=>show ky n.Id≤ky (l[p+0]).Id; simp only[Nat.add_zero]; omega
      | succ j=>
        have:=hr.2 p (p+(j+1)) _ _ hq (List.getElem?_eq_getElem (show p+(j+1) < l.length by omega)) (by omega)
        omega⟩
  unfold E3
  rw[show ((0:Int))=((0:Nat):Int) from rfl,h1]
  simp only[aG]
  have eN:({ Id:=n.Id,Staged:=true,Data:=n.Data,Locs:= []}:aB)=n:=by
    cases n; simp only at hs ho; subst hs; subst ho; rfl
  cases hh:kK l n.Id with
  | true=>
    obtain⟨x,e1,e2⟩:=CW hr ha hn hh
    obtain⟨hpl,e0⟩:=List.getElem?_eq_some_iff.1 e1
    have e152:A7 F l=some l:=by
      unfold A7
      rw[nY (l:=l) (by omega) (λi x hx hm' hi=>by
        have:=hm x hm'
        have el:x.Locs.length≤300:=this.1
        unfold qA vK wO
        simp only
        rw[hH (by omega)]
        have a1:app [] x.Data=some x.Data:=by rw[bW (by simp; omega)]; rfl
        have a2:app [] x.Locs=some x.Locs:=by rw[bW (by simp; omega)]; rfl
        simp only[a8,hx,Option.bind_some,Int.ofNat_lt,hi,decide_true,if_true,a1,a2]
        rw[bW (by simp; omega)]
        rfl) (by unfold qA; simp)]
      rfl
    have e141:vK F n.Data=some n.Data:=by unfold vK; rw[bW (by simp; omega)]; rfl
    rw[if_pos (by simp; omega)]
    simp only[a8,e1,Option.bind_some,aG,e2,decide_true,if_true,e152,e141,Int.toNat_natCast]
    rw[List.getElem?_set_self hpl]
    simp only[Option.bind_some,List.set_set]
    have hf:=IG hr e1
    rw[e2] at hf
    unfold rV
    rw[hf,← DG ha,← IF ha hr e1 e2]
    simp only
    rw[List.set_eq_take_append_cons_drop,if_pos hpl,e2]
  | false=>
    have hne:∀y:aB,l[p]? =some y→y.Id≠n.Id:=λy hy e=>by
      have:=List.any_eq_false.1 hh y (List.mem_of_getElem? hy)
      simp[e] at this
    have s1:slc l ((0:Nat):Int) (p:Int)=some (l.take p):=by
      unfold slc; rw[if_pos ⟨by omega,by omega,by omega⟩]; simp
    have s2:slc l (p:Int) (l.length:Int)=some (l.drop p):=by
      unfold slc; rw[if_pos ⟨by omega,by omega,by omega⟩]; simp
    have fin:((slc l ((0:Nat):Int) (p:Int)).bind λx102=>(app ([]:List aB) x102).bind λz104=>(app z104 ([n]:List aB)).bind λz112=>(slc l (p:Int) (l.length:Int)).bind λx120=>(app z112 x120).bind λz122=>some z122)=some (rV l n):=by
      rw[s1,s2]
      simp only[Option.bind_some]
      rw[bW (by simp; omega)]
      simp only[Option.bind_some,List.nil_append]
      rw[bW (by simp; omega)]
      simp only[Option.bind_some]
      rw[bW (by simp; omega)]
      have hf:(l.find? λx=>decide (x.Id=n.Id))=none:=List.find?_eq_none.2 λx hx=>by
        have:=List.any_eq_false.1 hh x hx
        simpa using this
      unfold rV
      rw[hf,← DG ha,← NO ha hr hn hh]
      simp only[Option.bind_some,eN]
      simp
    by_cases hlt:p < l.length
    · have hx:l[p]? =some l[p]:=List.getElem?_eq_getElem hlt
      rw[if_pos (by simpa using hlt)]
      simp only[a8,hx,Option.bind_some,aG]
      rw[if_neg (by simpa using hne _ hx)]
      exact fin
    · rw[if_neg (by simpa using hlt)]
      simp only[aG,Bool.false_eq_true,if_false]
      exact fin
open Go.Vm
theorem IQ {S ρ:Type} {body:S→Option (Lp S ρ)} (emb:Nat→S) {p:Nat} {r:ρ} (hb:∀j,j < p→body (emb j)=some (.go (emb (j+1)))) (hr:body (emb p)=some (.ret r)):∀(G k:Nat),k≤p→p - k < G→aU body G (emb k)=some (.ret r)
 | 0,_,_,h=>by omega
 | G+1,k,hk,h=>by
  unfold aU
  by_cases e:k=p
  ·subst e; rw[hr]
  ·rw[hb k (by omega)]
   exact IQ emb hb hr G (k+1) (by omega) (by omega)
theorem p88 {F:Nat} {c:aA} {d:bL} (hF:1000≤F) (hl:c.Chunks.length≤400):KB F c d=some (pX c.Chunks λx=>decide (x.Id=d)):=by
 unfold KB
 refine kG (l:=c.Chunks) (λx:aB=>decide (x.Id=d)) (by omega) (λi x hx hm hi=> ?_) (by unfold oP; simp)
 unfold oP
 rw[hH (by omega)]
 simp only[a8,hx,Option.bind_some,Int.ofNat_lt,hi,decide_true,if_true]
 split <;> rfl
def Nw (l:List bE) (a:bE):Prop:=(l.Pairwise λy z=>jK z y=true)∧∀y∈l,nk y a
structure NwI (c:aA) (i:aO) (a:bE):Prop where
 k:i.Kind=1→∀y∈c.Chunks,y.Id=i.Id→Nw y.Locs a
 s:i.Kind=2→∀y∈c.Snaps,y.Seq=i.Seq→Nw y.Locs a
 e:i.Kind=3→∀y∈c.Exps,y.Seq=i.Seq→Nw y.Locs a
theorem HD {l:List aS} {q:Int} {p:Nat} (h:l.Pairwise λy x=>y.Seq < x.Seq) (hp:p≤l.length) (h1:∀j x,l[j]? =some x→j < p→x.Seq < q) (h2:∀x,l[p]? =some x→q≤x.Seq):
    (l.filter λx=>decide (x.Seq < q))=l.take p∧(l[p]?.all (λx=>x.Seq !=q)=true→(l.filter λx=>decide (q < x.Seq))=l.drop p∧(l.find? λx=>decide (x.Seq=q))=none)∧
    (∀x,l[p]? =some x→x.Seq=q→(l.filter λx=>decide (q < x.Seq))=l.drop (p+1)∧(l.find? λx=>decide (x.Seq=q))=some x):=by
  have lo:∀y∈l.take p,y.Seq < q:=λy hy=>by
    obtain⟨j,hj,rfl⟩:=List.getElem_of_mem hy
    simp only[List.length_take] at hj
    rw[List.getElem_take]
    exact h1 j _ (List.getElem?_eq_getElem (by omega)) (by omega)
  have hi:∀y∈l.drop (p+1),q < y.Seq:=λy hy=>by
    obtain⟨j,hj,rfl⟩:=List.getElem_of_mem hy
    simp only[List.length_drop] at hj
    have hq:l[p]? =some l[p]:=List.getElem?_eq_getElem (by omega)
    have:=h2 _ hq
    have:=KE h hq (List.getElem?_eq_getElem (show p+1+j < l.length by omega)) (by omega)
    rw[List.getElem_drop]; omega
  have hm:∀y∈l.drop p,q≤y.Seq:=λy hy=>by
    by_cases hl:p < l.length
    · rw[List.drop_eq_getElem_cons hl] at hy
      rcases List.mem_cons.1 hy with rfl | hy
      · exact h2 _ (List.getElem?_eq_getElem hl)
      · have:=hi y hy; omega
    · rw[List.drop_eq_nil_of_le (by omega)] at hy; cases hy
  have e:∀f:aS→Bool,l.filter f=(l.take p).filter f++(l.drop p).filter f:=λf=>by rw[← List.filter_append,List.take_append_drop]
  have lo2:((l.take p).filter λx=>decide (q < x.Seq))= []:=List.filter_eq_nil_iff.2 λy hy=>by have:=lo y hy; simp; omega
  have fp:(l.find? λx=>decide (x.Seq=q))=(l.drop p).find? λx=>decide (x.Seq=q):=by
    have:(l.find? λx=>decide (x.Seq=q))=(l.take p++l.drop p).find? λx=>decide (x.Seq=q):=by rw[List.take_append_drop]
    rw[this,List.find?_append,List.find?_eq_none.2 λy hy=>by have:=lo y hy; simp; omega]
    rfl
  refine⟨?_,λhn=> ?_,λx hx hq=> ?_⟩
  · rw[e,List.filter_eq_self.2 λy hy=>decide_eq_true (lo y hy),List.filter_eq_nil_iff.2 λy hy=>by have:=hm y hy; simp; omega]
    simp
  · have ne:∀y∈l.drop p,q < y.Seq:=λy hy=>by
      by_cases hl:p < l.length
      · rw[List.drop_eq_getElem_cons hl] at hy
        rcases List.mem_cons.1 hy with rfl | hy
        · have hq:=List.getElem?_eq_getElem hl
          rw[hq] at hn
          have:=h2 _ hq
          have hn:l[p].Seq≠q:=by simpa using hn
          omega
        · exact hi y hy
      · rw[List.drop_eq_nil_of_le (by omega)] at hy; cases hy
    refine⟨by rw[e,lo2,List.filter_eq_self.2 λy hy=>decide_eq_true (ne y hy)]; rfl, ?_⟩
    rw[fp]
    exact List.find?_eq_none.2 λy hy=>by have:=ne y hy; simp; omega
  · obtain⟨hl,rfl⟩:=List.getElem?_eq_some_iff.1 hx
    refine⟨?_, ?_⟩
    · rw[e,lo2,List.drop_eq_getElem_cons hl,List.filter_cons_of_neg (by simp; omega),List.filter_eq_self.2 λy hy=>decide_eq_true (hi y hy)]; rfl
    · rw[fp,List.drop_eq_getElem_cons hl,List.find?_cons_of_pos (by simpa using hq)]
theorem aA2 {F n:Nat} {c:aA} {i:aO} {a:bE} (hF:1000≤F) (h:Wm n c) (hn:n≤300) (hi:It i) (hw:NwI c i a):
    G6 F c i a=some (if jV c i then (true,(wP c i a).Seq,(wP c i a).Snaps,(wP c i a).Chunks,(wP c i a).Exps) else (false,c.Seq,c.Snaps,c.Chunks,c.Exps)):=by
  have hcn:=h.cn
  have hsn:=h.sn
  have hen:=h.en
  have hk:=hi.k
  have hq0:=hi.q0
  have hcq:=h.q
  unfold G6 wP jV
  by_cases k1:i.Kind=1
  · have e2:c.Snaps.map (z9 i a)=c.Snaps:=jS λy _=>by unfold z9; rw[if_neg (by omega)]
    rw[if_pos (by simp[k1])]
    rw[show KB F { Seq:=c.Seq,Snaps:=c.Snaps,Chunks:=c.Chunks,Exps:=c.Exps,Vols:=c.Vols} i.Id=some (pX c.Chunks λx=>decide (x.Id=i.Id)) from p88 hF hcn]
    simp only[Option.bind_some,k1,if_true,e2,show ¬((1:Int)=3) by omega,if_false]
    cases hh:kK c.Chunks i.Id with
    | false=>
      rw[iL hh]
      simp[cF]
    | true=>
      obtain⟨p,x,h1,h2,h3,h4⟩:=iK hh
      have h3:x.Id=i.Id:=by simpa using h3
      have hx:=List.mem_of_getElem? h2
      obtain⟨w1,w2⟩:=hw.k k1 x hx h3
      rw[h1,if_neg (by simp)]
      simp only[a8,h2,Option.bind_some,UZ hF w1 (Nat.le_trans (h.cl x hx).1 hn) w2,aG,Int.toNat_natCast]
      rw[qK (λy:aB=>y.Id=i.Id) (λy=> { y with Locs:=fZ y.Locs a}) h2 h3 (λy hy e=>by
        have:=h4 y hy
        simp[e] at this) (λy hy e=>by
        obtain⟨j,hj,rfl⟩:=List.getElem_of_mem hy
        simp only[List.length_drop] at hj
        rw[List.getElem_drop] at e
        have:=h.r.2 p (p+1+j) _ _ h2 (List.getElem?_eq_getElem (by omega)) (by omega)
        rw[e,h3] at this; omega)]
      simp[pK,k1]
  · have e1:c.Chunks.map (pK i a)=c.Chunks:=jS λy _=>by unfold pK; rw[if_neg (by omega)]
    rw[if_neg (by simpa using k1)]
    by_cases k2:i.Kind=2
    · rw[if_pos (by simp[k2])]
      simp only[k2,show ¬((2:Int)=1) by omega,if_true,e1,show ¬((2:Int)=3) by omega,if_false]
      cases ha:c.Snaps.any (λs=>s.Seq==i.Seq) with
      | false=>
        have:=jL (body:=λs=>mF F c i a s) (s0:=0) (n:=c.Snaps.length) (F:=F) (λk:Nat=>(k:Int)) (by omega) rfl (λk hk'=>by
          have hx:c.Snaps[k]? =some c.Snaps[k]:=List.getElem?_eq_getElem hk'
          have:=List.any_eq_false.1 ha _ (List.getElem_mem hk')
          unfold mF
          rw[hH (by omega)]
          simp only[a8,hx,Option.bind_some,Int.ofNat_lt,hk',decide_true,if_true]
          rw[if_neg this]) (by unfold mF; simp)
        rw[this]
        simp[aG,cF]
      | true=>
        obtain⟨p,x,h1,h2,h3,h4⟩:=iK ha
        have hpl:=(List.getElem?_eq_some_iff.1 h2).1
        have hx:=List.mem_of_getElem? h2
        have h3:x.Seq=i.Seq:=by simpa using h3
        obtain⟨w1,w2⟩:=hw.s k2 x hx h3
        have:=IQ (body:=λs=>mF F c i a s) (λk:Nat=>(k:Int)) (p:=p) (r:=.ret (true,c.Seq,c.Snaps.set p { x with Locs:=fZ x.Locs a},c.Chunks,c.Exps)) (λj hj=>by
          have hx:c.Snaps[j]? =some c.Snaps[j]:=List.getElem?_eq_getElem (by omega)
          have:=h4 c.Snaps[j] (List.mem_of_getElem? (i:=j) (by rw[List.getElem?_take_of_lt hj]; exact hx))
          unfold mF
          rw[hH (by omega)]
          simp only[a8,hx,Option.bind_some,Int.ofNat_lt,show j < c.Snaps.length by omega,decide_true,if_true]
          rw[if_neg (by simp[this])]) (by
          unfold mF
          simp only[a8,h2,Option.bind_some,Int.ofNat_lt,hpl,decide_true,if_true,UZ hF w1 (Nat.le_trans (h.sl x hx) hn) w2,Int.toNat_natCast]
          rw[if_pos (by simp[h3])]) F 0 (Nat.zero_le _) (by omega)
        rw[show ((0:Int))=((0:Nat):Int) from rfl,this]
        simp only[cF]
        rw[qK (λy:aH=>y.Seq=i.Seq) (λy=> { y with Locs:=fZ y.Locs a}) h2 h3 (λy hy e=>by
          have:=h4 y hy
          simp[e] at this) (λy hy e=>by
          obtain⟨j,hj,rfl⟩:=List.getElem_of_mem hy
          simp only[List.length_drop] at hj
          rw[List.getElem_drop] at e
          have:=KE h.so h2 (List.getElem?_eq_getElem (show p+1+j < c.Snaps.length by omega)) (by omega)
          omega)]
        simp[z9,k2]
    · have k3:i.Kind=3:=by omega
      have e2:c.Snaps.map (z9 i a)=c.Snaps:=jS λy _=>by unfold z9; rw[if_neg (by omega)]
      rw[if_neg (by simpa using k2)]
      simp only[k3,if_true,e1,e2,show ¬((3:Int)=1) by omega,show ¬((3:Int)=2) by omega,if_false]
      obtain⟨p, -,hp,l1,l2,l3⟩:=xB (body:=λs=>tY F c i s) (c:=λk=>(c.Exps[k]?).any λy=>decide (y.Seq < i.Seq)) (n:=c.Exps.length) (λk hk=>by
        unfold tY
        by_cases hlt:k < c.Exps.length
        · have hx:c.Exps[k]? =some c.Exps[k]:=List.getElem?_eq_getElem hlt
          generalize c.Exps[k]=y at hx
          rw[hH (by omega)]
          simp only[a8,hx,Int.ofNat_lt,hlt,decide_true,if_true,Option.bind_some,Bool.true_and,Option.any_some,aG]
          split <;> rfl
        · have:¬((k:Int) < (c.Exps.length:Int)):=by omega
          simp[this,hlt,aG]) F 0 (Nat.zero_le _) (by omega)
      obtain⟨s1,s2,s3⟩:=HD h.eo hp (q:=i.Seq) (λj x hx hj=>by
        have:=l2 j (Nat.zero_le _) hj
        rw[hx] at this
        simpa using this) (λx hx=>by
        have:=l3 (List.getElem?_eq_some_iff.1 hx).1
        rw[hx] at this
        simpa using this)
      rw[show ((0:Int))=((0:Nat):Int) from rfl,l1]
      simp only[aG]
      have fin:(c.Exps[p]?).all (λx=>x.Seq !=i.Seq)=true→((slc c.Exps ((0:Nat):Int) (p:Int)).bind λx433=>(app ([]:List aS) x433).bind λz435=>(app z435 ([({ Seq:=i.Seq,Of:=i.Of,Locs:=([a]:List bE)}:aS)]:List aS)).bind λz443=>(slc c.Exps (p:Int) (c.Exps).length).bind λx451=>(app z443 x451).bind λz453=>after (if (decide (c.Seq≤i.Seq))=true then (some (.brk (decide (i.Seq < 4611686018427387904)))) else some (.brk false):Option (Lp (Bool) (Lp (Int×(List aB)×(List aS)) (Bool×Int×(List aH)×(List aB)×(List aS))))) λj463=>after (if j463=true then (some (.brk (IntKind.wrap .i64 (i.Seq+1)))) else some (.brk c.Seq):Option (Lp (Int) (Lp (Int×(List aB)×(List aS)) (Bool×Int×(List aH)×(List aB)×(List aS))))) λj468=>some (.brk (j468,c.Chunks,z453)))=some (.brk (max c.Seq (i.Seq+1),c.Chunks,nG c.Exps i a)):=λhn=>by
        obtain⟨f1,f2⟩:=s2 hn
        have u1:slc c.Exps ((0:Nat):Int) (p:Int)=some (c.Exps.take p):=by
          unfold slc; rw[if_pos ⟨by omega,by omega,by omega⟩]; simp
        have u2:slc c.Exps (p:Int) (c.Exps.length:Int)=some (c.Exps.drop p):=by
          unfold slc; rw[if_pos ⟨by omega,by omega,by omega⟩]; simp
        rw[u1,u2]
        simp only[Option.bind_some]
        rw[bW (by simp; omega)]
        simp only[Option.bind_some,List.nil_append]
        rw[bW (by simp; omega)]
        simp only[Option.bind_some]
        rw[bW (by simp; omega)]
        have eX:c.Exps.take p++ [({ Seq:=i.Seq,Of:=i.Of,Locs:=([a]:List bE)}:aS)]++c.Exps.drop p=nG c.Exps i a:=by
          unfold nG vP
          rw[s1,f1,f2]
          simp[fZ]
        simp only[Option.bind_some,eX,wr (n:=i.Seq+1) (by omega) (by omega)]
        by_cases q1:c.Seq≤i.Seq
        · rw[if_pos (by simpa using q1)]
          simp only[aG]
          rw[if_pos (by simp; omega)]
          simp only[aG]
          rw[show max c.Seq (i.Seq+1)=i.Seq+1 by omega]
        · rw[if_neg (by simpa using q1)]
          simp only[aG,Bool.false_eq_true,if_false]
          rw[show max c.Seq (i.Seq+1)=c.Seq by omega]
      by_cases hlt:p < c.Exps.length
      · have hx:c.Exps[p]? =some c.Exps[p]:=List.getElem?_eq_getElem hlt
        have hm:=List.getElem_mem hlt
        generalize c.Exps[p]=x at hx hm
        rw[if_pos (by simpa using hlt)]
        simp only[a8,hx,Option.bind_some,aG]
        by_cases hq:x.Seq=i.Seq
        · obtain⟨f1,f2⟩:=s3 x hx hq
          obtain⟨w1,w2⟩:=hw.e k3 x hm hq
          have hsq:=(h.eq x hm).2.2
          rw[if_pos (by simp[hq])]
          simp only[UZ hF w1 (Nat.le_trans (h.el x hm) hn) w2,Option.bind_some,cF,Int.toNat_natCast]
          unfold nG vP
          rw[f2,s1,f1,List.set_eq_take_append_cons_drop,if_pos hlt,show max c.Seq (i.Seq+1)=c.Seq by omega]
        · rw[if_neg (by simpa using hq)]
          rw[fin (by rw[hx]; simpa using hq)]
          rfl
      · rw[if_neg (by simpa using hlt)]
        simp only[aG,Bool.false_eq_true,if_false]
        rw[fin (by rw[List.getElem?_eq_none (by omega)]; rfl)]
        rfl
theorem p92 {F:Nat} {d:aN} (hF:1000≤F) (h:E5 d):Z8 F d=some d:=by
 have hc:=h.cn
 have hi:=h.it
 obtain⟨-,m2,m3, -⟩:=h.man
 unfold Z8
 rw[m52 hF m2 (λp hp=>(m3 p hp).2)]
 simp only[Option.bind_some]
 rw[m53 (by rw[h.locs]; simp)]
 simp only[Option.bind_some]
 rw[m54 hF (by omega) (λx hx=>⟨by rw[(h.ch x hx).2.2.2]; simp,(h.ch x hx).2.1⟩)]
 simp only[Option.bind_some]
 rw[bW (by simp; omega)]
 rfl
open Go.Vm
structure Rl (v:Int) (c e:aA):Prop where
 q:c.Seq≤e.Seq
 s:∃f:aH→aH,(∀s,(f s).Seq=s.Seq∧(f s).Man=s.Man)∧e.Snaps=c.Snaps.map f
 k:∃g:aB→aB,(∀y,(g y).Id=y.Id∧(∀l∈y.Locs,l∈(g y).Locs)∧∀l∈(g y).Locs,l∈y.Locs∨l.Vol=v)∧e.Chunks=c.Chunks.map g
theorem Rl.refl (v:Int) (c:aA):Rl v c c:=⟨Int.le_refl _,⟨id,λ_=>⟨rfl,rfl⟩,by simp⟩,⟨id,λ_=>⟨rfl,λ_ h=>h,λ_ h=>.inl h⟩,by simp⟩⟩
theorem Rl.trans {v:Int} {a b c:aA} (h:Rl v a b) (k:Rl v b c):Rl v a c:=by
 obtain⟨h1,⟨f,hf,ef⟩,g,hg,eg⟩:=h
 obtain⟨k1,⟨f',hf',ef'⟩,g',hg',eg'⟩:=k
 refine⟨Int.le_trans h1 k1,⟨f' ∘ f,λs=>⟨(hf' _).1.trans (hf s).1,(hf' _).2.trans (hf s).2⟩,by rw[ef',ef,List.map_map]⟩,g' ∘ g,λy=>⟨(hg' _).1.trans (hg y).1,λl hl=>(hg' _).2.1 l ((hg y).2.1 l hl),λl hl=> ?_⟩,by rw[eg',eg,List.map_map]⟩
 rcases(hg' _).2.2 l hl with h | h
 ·exact(hg y).2.2 l h
 ·exact .inr h
theorem U3 {p:Int} {c:aA} {i:aO} {a:bE}:Rl a.Vol c (uH p c i a):=by
 refine⟨?_,⟨z9 i a,uE i a,rfl⟩,λy=>qO p i (pK i a y),λy=> ?_,by show (c.Chunks.map _).map _=_; rw[List.map_map]; rfl⟩
 ·show c.Seq≤if i.Kind=3 then max c.Seq (i.Seq+1) else c.Seq
  split <;> omega
 ·have h1:(qO p i (pK i a y)).Locs=(pK i a y).Locs:=by unfold qO; split <;> rfl
  refine⟨(DH p i _).trans (rX i a y), ?_⟩
  rw[h1]
  unfold pK
  split
  ·refine⟨λl hl=>n6.2 (.inl hl),λl hl=> ?_⟩
   rcases n6.1 hl with h | h
   ·exact .inl h
   ·exact .inr (by rw[h])
  ·exact⟨λl hl=>hl,λl hl=>.inl hl⟩
theorem zD {p v f:Int}:∀(l:List aO) (c:aA),Rl v c (w9 p v f c l)
 | [],c=>.refl v c
 | i::l,c=>(U3 (a:=kT v f i)).trans (zD l _)
theorem QW {l:List aH} (h:l.Pairwise λy x=>(x.Man.Name==y.Man.Name)=false) {x y:aH} (hx:x∈l) (hy:y∈l) (e:x.Man.Name=y.Man.Name):x=y:=by
 obtain⟨i,hi,rfl⟩:=List.getElem_of_mem hx
 obtain⟨j,hj,rfl⟩:=List.getElem_of_mem hy
 rcases Nat.lt_trichotomy i j with w | w | w
 ·have:=KE h (List.getElem?_eq_getElem hi) (List.getElem?_eq_getElem hj) w
  rw[e,(iI _ _).2 rfl] at this; cases this
 ·subst w; rfl
 ·have:=KE h (List.getElem?_eq_getElem hj) (List.getElem?_eq_getElem hi) w
  rw[e,(iI _ _).2 rfl] at this; cases this
theorem N3 {l:List aH} (h:l.Pairwise λy x=>y.Seq < x.Seq) {g:aH→Bool} {q:Int} (hg:∀s∈l,g s=true→s.Seq=q) (ha:l.any g=true):(l.filter g).length=1:=by
 have h1:(l.filter g).Pairwise λy x=>y.Seq < x.Seq:=h.sublist List.filter_sublist
 have h2:∀s∈l.filter g,s.Seq=q:=λs hs=>hg s (List.mem_filter.1 hs).1 (List.mem_filter.1 hs).2
 obtain⟨s,hs,e⟩:=List.any_eq_true.1 ha
 have h3:s∈l.filter g:=List.mem_filter.2 ⟨hs,e⟩
 generalize l.filter g=m at h1 h2 h3
 cases m with
 | nil=>cases h3
 | cons a m=>
  cases m with
  | nil=>rfl
  | cons b m=>
   have:=(List.pairwise_cons.1 h1).1 b List.mem_cons_self
   have:=h2 a List.mem_cons_self
   have:=h2 b (List.mem_cons_of_mem _ List.mem_cons_self)
   omega
theorem J5 {c:aA} (G:Gd c) {s s':aH} (hs:s∈c.Snaps) (h:∃t∈c.Snaps,t.Man=s'.Man∧t≠s):(s'.Man.Name.toList==s.Man.Name.toList)=false:=by
 obtain⟨t,ht,e,ne⟩:=h
 rw[beq_eq_false_iff_ne]
 intro hn
 rw[← e] at hn
 exact ne (QW G.sm ht hs (yK hn))
open Go.Vm
def kL (v f:Int) (c:aA) (l:List aO):aA:=l.foldl (λc i=>wP c i (kT v f i)) c
theorem n7 (v f:Int) (c:aA) (l:List aO) (i:aO):kL v f c (l++ [i])=wP (kL v f c l) i (kT v f i):=by
 unfold kL
 rw[List.foldl_append]
 rfl
theorem FB (v f:Int):∀(l:List aO) (c:aA),(kL v f c l).Vols=c.Vols
 | [],_=>rfl
 | i::l,c=>FB v f l (wP c i (kT v f i))
theorem QX {c:aA} {i:aO} {a:bE}:uH 1 c i a=wP c i a:=by
 unfold uH
 rw[jS λy _=>by unfold qO; rw[if_neg (by omega)]]
theorem qL (v f:Int):∀(l:List aO) (c:aA),kL v f c l=w9 1 v f c l
 | [],_=>rfl
 | i::l,c=>by
  show kL v f (wP c i (kT v f i)) l=w9 1 v f (uH 1 c i (kT v f i)) l
  rw[QX,qL v f l]
def eE (p:Int) (l:List aO) (y:aB):aB:=l.foldl (λy i=>qO p i y) y
theorem xC (p:Int) (l:List aO) (y:aB):(eE p l y).Id=y.Id:=by
 unfold eE
 induction l generalizing y with
 | nil=>rfl
 | cons i l ih=>rw[List.foldl_cons,ih,DH]
theorem QY (p:Int) (i j:aO) (a:bE) (y:aB):qO p i (pK j a y)=pK j a (qO p i y):=by
 by_cases h2:j.Kind=1∧y.Id=j.Id <;> by_cases h1:p=0∧i.Kind=1∧y.Id=i.Id
 ·rw[show pK j a y= { y with Locs:=fZ y.Locs a} from if_pos h2,show qO p i y= { y with Staged:=false,Data:= []} from if_pos h1]
  exact(if_pos h1).trans (if_pos h2).symm
 ·rw[show pK j a y= { y with Locs:=fZ y.Locs a} from if_pos h2,show qO p i y=y from if_neg h1]
  exact(if_neg h1).trans (if_pos h2).symm
 ·rw[show pK j a y=y from if_neg h2,show qO p i y= { y with Staged:=false,Data:= []} from if_pos h1]
  exact(if_neg h2).symm
 ·rw[show pK j a y=y from if_neg h2,show qO p i y=y from if_neg h1]
  exact(if_neg h2).symm
theorem HE (p:Int) (l:List aO) (j:aO) (a:bE) (y:aB):eE p l (pK j a y)=pK j a (eE p l y):=by
 unfold eE
 induction l generalizing y with
 | nil=>rfl
 | cons i l ih=>rw[List.foldl_cons,List.foldl_cons,QY,ih]
theorem n8 {α:Type} {P:List α→Prop} (h0:P []) (h1:∀l x,P l→P (l++ [x])) (l:List α):P l:=by
 have:∀m:List α,P m.reverse:=λm=>by
  induction m with
  | nil=>exact h0
  | cons a m ih=>rw[List.reverse_cons]; exact h1 _ _ ih
 have:=this l.reverse
 rwa [List.reverse_reverse] at this
theorem o6 (p v f:Int) (c:aA):∀l:List aO,w9 p v f c l= { kL v f c l with Chunks:=(kL v f c l).Chunks.map (eE p l)}:=n8 (by
 show c= { c with Chunks:=c.Chunks.map (eE p [])}
 rw[show c.Chunks.map (eE p [])=c.Chunks from jS λy _=>rfl]) λl i ih=>by
 rw[E7,n7,ih]
 unfold uH wP
 simp only[List.map_map]
 congr 1
 refine List.map_congr_left λy _=> ?_
 show qO p i (pK i (kT v f i) (eE p l y))=eE p (l++ [i]) (pK i (kT v f i) y)
 rw[← HE]
 unfold eE
 rw[List.foldl_append]
 rfl
def Un (i j:aO):Prop:=¬(i.Kind=j.Kind∧(i.Kind=1→i.Id=j.Id)∧(i.Kind≠1→i.Seq=j.Seq))
theorem Mk.un {c:aA} {d:aN} (h:Mk c d):d.Items.Pairwise Un:=by
 rcases h.it with h | ⟨s,_,e⟩
 ·refine List.Pairwise.imp_of_mem (fun {a b} ha hb hn hu=> ?_) h.d
  obtain⟨u1,u2,u3⟩:=hu
  have wa:=(h.a a ha).w
  have wb:=(h.a b hb).w
  rcases wa with⟨ka,qa,_⟩ | ⟨ka,qa,_⟩ | ⟨ka,qa,_⟩ <;> rcases wb with⟨kb,qb,_⟩ | ⟨kb,qb,_⟩ | ⟨kb,qb,_⟩
  ·exact hn u1 (u2 ka) (by omega)
  ·omega
  ·omega
  ·omega
  ·exact hn u1 (by rw[qa,qb]) (u3 (by omega))
  ·omega
  ·omega
  ·omega
  ·exact hn u1 (by rw[qa,qb]) (u3 (by omega))
 ·rw[e]; exact List.pairwise_singleton _ _
theorem aA3 {v f:Int} {i:aO} (k:i.Kind=1):∀ {m:List aO} {c:aA} {y:aB},(∀j∈m,Un j i)→y∈(kL v f c m).Chunks→y.Id=i.Id→y∈c.Chunks
 | [],_,_,_,h,_=>h
 | j::m,c,y,hu,h,e=>by
  have:=aA3 k (m:=m) (λj hj=>hu j (List.mem_cons_of_mem _ hj)) h e
  obtain⟨z,hz,rfl⟩:=List.mem_map.1 this
  rw[rX] at e
  have hj:=hu j List.mem_cons_self
  unfold pK
  rw[if_neg (λh=>hj ⟨by omega,λ_=>by rw[← h.2,e],λh2=>absurd h.1 h2⟩)]
  exact hz
theorem aA4 {v f:Int} {i:aO} (k:i.Kind=2):∀ {m:List aO} {c:aA} {y:aH},(∀j∈m,Un j i)→y∈(kL v f c m).Snaps→y.Seq=i.Seq→y∈c.Snaps
 | [],_,_,_,h,_=>h
 | j::m,c,y,hu,h,e=>by
  have:=aA4 k (m:=m) (λj hj=>hu j (List.mem_cons_of_mem _ hj)) h e
  obtain⟨z,hz,rfl⟩:=List.mem_map.1 this
  rw[(uE _ _ _).1] at e
  have hj:=hu j List.mem_cons_self
  unfold z9
  rw[if_neg (λh=>hj ⟨by omega,λh2=>absurd h2 (by omega),λ_=>by omega⟩)]
  exact hz
theorem aA5 {v f:Int} {i:aO} (k:i.Kind=3):∀ {m:List aO} {c:aA} {y:aS},(∀j∈m,Un j i)→y∈(kL v f c m).Exps→y.Seq=i.Seq→y∈c.Exps
 | [],_,_,_,h,_=>h
 | j::m,c,y,hu,h,e=>by
  have this:y∈(if j.Kind=3 then nG c.Exps j (kT v f j) else c.Exps):=aA5 k (m:=m) (λj hj=>hu j (List.mem_cons_of_mem _ hj)) h e
  have hj:=hu j List.mem_cons_self
  split at this
  ·rename_i k3
   unfold nG at this
   rcases List.mem_append.1 this with h | h
   ·exact(List.mem_filter.1 h).1
   ·rcases List.mem_cons.1 h with rfl | h
    ·exact absurd ⟨by omega,λh2=>absurd h2 (by omega),λ_=>by rw[← e]; exact(yZ c.Exps j).symm⟩ hj
    ·exact(List.mem_filter.1 h).1
  ·exact this
theorem IR {c:aA} {v:Int} {x:aM} {l:List bE} {i:aO} (hx:c.Vols[v.toNat]? =some x) (h:Lk c.Vols l):Nw l (kT v (x.Files+1) i):=by
 refine⟨h.o,λy hy hk=> ?_⟩
 obtain⟨h1,h2,h3⟩:=hk
 obtain⟨q1,w,q2,q3,q4,q5⟩:=DL (h.a y hy)
 have h1:y.Vol=v:=h1
 have h2:y.File=x.Files+1:=h2
 rw[h1,hx] at q2
 cases q2
 omega
theorem N4 {c:aA} {d:aN} {x:aM} {k:Nat} {i:aO} (G:Gd c) (hx:c.Vols[d.Vol.toNat]? =some x) (hu:d.Items.Pairwise Un) (hi:d.Items[k]? =some i):NwI (kL d.Vol (x.Files+1) (ws c d.Vol x) (d.Items.take k)) i (kT d.Vol (x.Files+1) i):=by
 have hun:∀j∈d.Items.take k,Un j i:=λj hj=>by
  obtain⟨q,hq,rfl⟩:=List.getElem_of_mem hj
  simp only[List.length_take] at hq
  rw[List.getElem_take]
  exact KE hu (List.getElem?_eq_getElem (show q < d.Items.length by omega)) hi (by omega)
 exact⟨λk1 y hy e=>IR hx (G.cl y (aA3 (c:=ws c d.Vol x) k1 hun hy e)),λk2 y hy e=>IR hx (G.sl y (aA4 (c:=ws c d.Vol x) k2 hun hy e)),λk3 y hy e=>IR hx (G.el y (aA5 (c:=ws c d.Vol x) k3 hun hy e))⟩
theorem HF {v f:Int}:∀ {l:List aO} {c:aA},Lv c→Lv (kL v f c l)
 | [],_,h=>h
 | i::l,c,h=>HF (l:=l) λy hy=>by
  obtain⟨z,hz,rfl⟩:=List.mem_map.1 hy
  have:=h z hz
  unfold pK
  split
  ·unfold m8
   rw[lO]
   simp
  ·exact this
theorem IS {c:aA} (G:Gd c):Lv c:=λx hx=>by
 have:=G.cs x hx
 unfold m8
 cases e:x.Staged with
 | true=>rfl
 | false=>
  rw[e] at this
  have:=List.length_pos_iff.2 this.2
  simp; omega
theorem FC {v f:Int} {j:aO} {l:List aO} {c:aA}:jV (kL v f c l) j=jV c j:=by rw[qL,zA]
theorem N5 {v f:Int} {c:aA} {l:List aO} {q:Int}:(kL v f c l).Snaps.any (λs=>s.Seq==q)=c.Snaps.any λs=>s.Seq==q:=by
 obtain⟨-,⟨g,hg,e⟩, -⟩:=zD (p:=1) (v:=v) (f:=f) l c
 rw[qL,e,List.any_map]
 congr 1
 funext s
 simp[(hg s).1]
open Go.Vm
theorem zG {F:Nat} {c:aA} {d:aN} {e:aA} {n:Int} {r:Int×Int×List aH×List aB×List aS×List aM} (hF:1000≤F) (h:Sm c) (hg:Gd c) (hd:E5 d) (hk:1≤d.Kind∧d.Kind≤5) (h91:rU F c d=some r) (hr:(r.1=n∧n≠0)∨(n=0∧r=(0,e.Seq,e.Snaps,e.Chunks,e.Exps,e.Vols)∧Sm e)):
    E4 F c d=some (if n=0 then (if gG e=true then (e,0) else (bS,1)) else (bS,n)):=by
  unfold E4
  rw[m19 hF h,iF.2 hg]
  simp only[Option.bind_some,Bool.not_true,Bool.false_eq_true,if_false]
  rw[if_neg (by simp; omega)]
  simp only[aG]
  rw[if_neg (by simp; omega),aE5 hF h,p92 hF hd]
  simp only[Option.bind_some]
  rw[show rU F { Seq:=c.Seq,Snaps:=c.Snaps,Chunks:=c.Chunks,Exps:=c.Exps,Vols:=c.Vols} d=some r from h91]
  simp only[Option.bind_some]
  rcases hr with⟨h1,h2⟩ | ⟨rfl,rfl,hs⟩
  · rw[if_pos (by simpa [h1] using h2),if_neg h2,h1]
    rfl
  · rw[if_neg (by simp),if_pos rfl]
    rw[show TR F { Seq:=e.Seq,Snaps:=e.Snaps,Chunks:=e.Chunks,Exps:=e.Exps,Vols:=e.Vols}=some (gG e) from m19 hF hs]
    simp only[Option.bind_some]
    cases gG e <;> rfl
theorem U4 {F:Nat} {d:aN} {b:Bool} (hF:1000≤F) (hd:E5 d):aU (λs=>rS F d s.1 s.2) F (b,0)=some (.brk (b && kB d.Chunks,(d.Chunks.length:Int))):=by
 have hc:=hd.cn
 have:=jL (body:=λs:Bool×Int=>rS F d s.1 s.2) (s0:=(b,(0:Int))) (n:=d.Chunks.length) (F:=F) (λk:Nat=>(b && (d.Chunks.take k).all λx=>x.Staged && ((x.Locs.length:Int)==0),(k:Int))) (by omega) (by simp) (λk hk=>by
  have hx:d.Chunks[k]? =some d.Chunks[k]:=List.getElem?_eq_getElem hk
  unfold rS
  simp only
  rw[hH (by omega),List.take_succ_eq_append_getElem hk]
  simp only[a8,hx,Option.bind_some,Int.ofNat_lt,hk,decide_true,if_true,List.all_append,List.all_cons,List.all_nil,Bool.and_true]
  rw[← Bool.and_assoc]
  cases (b && (d.Chunks.take k).all λx=>x.Staged && ((x.Locs.length:Int)==0)) with
  | false=>simp[aG]
  | true=>cases (d.Chunks[k]).Staged <;> simp[aG]) (by unfold rS; simp)
 rw[this,List.take_length]
 congr 4
 unfold kB
 rw[List.all_eq_not_any_not]
 congr 2
 funext x
 cases x.Staged with
 | false=>simp
 | true=>
  cases x.Locs with
  | nil=>simp
  | cons a l=>simp; omega
theorem QZ {F:Nat} {c:aA} {d:aN} (hF:1000≤F) (h:Sm c) (hg:Gd c) (hd:E5 d) (k:d.Kind=1):
    E4 F c d=some (if d.Snap.Seq=c.Seq∧kB d.Chunks=true then (if c.Snaps.any (λs=>s.Man.Name.toList==d.Snap.Man.Name.toList) then (bS,9) else if gG (ad c d) then (ad c d,0) else (bS,1)) else (bS,1)):=by
  have hsn:=h.sn
  have hcn:=hg.cn
  have hdn:=hd.cn
  have hq:=hg.q
  unfold eY at hq
  simp only[Bool.and_eq_true,decide_eq_true_eq] at hq
  have hr:rZ c.Chunks:=o0.2 ⟨λx hx=>(h.g.2.2.1 x hx).1,hg.co⟩
  have go:∀(e:aA) (n:Int) (r),rU F c d=some r→_→_:=λe n r h1=>zG (e:=e) (n:=n) hF h hg hd (by omega) h1
  have l1:=λb=>U4 (b:=b) hF hd
  by_cases e1:d.Snap.Seq=c.Seq∧kB d.Chunks=true
  · rw[if_pos e1]
    have nm:=aEE hF (c:=c) (nm:=d.Snap.Man.Name) (by omega)
    cases ha:c.Snaps.any (λs=>s.Man.Name.toList==d.Snap.Man.Name.toList) with
    | true=>
      obtain⟨p,x,h1, -⟩:=iK ha
      rw[h1] at nm
      have e0:rU F c d=some (9,c.Seq,c.Snaps,c.Chunks,c.Exps,c.Vols):=by
        unfold rU
        rw[if_pos (by simp[k]),if_pos (by simp[e1.1]),hd.locs]
        simp only[aG,l1,e1.2]
        rw[if_neg (by simp),show yH F { Seq:=c.Seq,Snaps:=c.Snaps,Chunks:=c.Chunks,Exps:=c.Exps,Vols:=c.Vols} d.Snap.Man.Name=some (p:Int) from nm]
        simp[cF]
      rw[go bS 9 _ e0 (.inl ⟨rfl,by decide⟩)]
      rfl
    | false=>
      rw[iL ha] at nm
      have hloop:=jL (body:=λs:List aB×Int=>vO F d s.1 s.2) (s0:=(c.Chunks,(0:Int))) (n:=d.Chunks.length) (F:=F) (λi:Nat=>(lV c.Chunks (d.Chunks.take i),(i:Int))) (by omega) rfl (λi hi=>by
        have hx:d.Chunks[i]? =some d.Chunks[i]:=List.getElem?_eq_getElem hi
        have hm:=List.getElem_mem hi
        have ht:d.Chunks.take (i+1)=d.Chunks.take i++ [d.Chunks[i]]:=List.take_succ_eq_append_getElem hi
        have hR:=rW (ns:=d.Chunks.take i) hr λn hn=>(hd.ch n (List.mem_of_mem_take hn)).1
        have hL:=o5 (ns:=d.Chunks.take i) (l:=c.Chunks)
        have hA:=nA (P:=λx=>x.Locs.length≤300∧x.Data.length≤300) (ns:=d.Chunks.take i) (l:=c.Chunks) h.cl (λn hn=>⟨by simp,(hd.ch n (List.mem_of_mem_take hn)).2.1⟩) λx hx n hn=>⟨hx.1,(hd.ch n (List.mem_of_mem_take hn)).2.1⟩
        rw[List.length_take] at hL
        rw[ht]
        have hfr:(d.Chunks[i]).Staged=true:=by
          have:=e1.2
          unfold kB at this
          simp only[Bool.not_eq_true',List.any_eq_false] at this
          have:=this _ hm
          simp at this
          exact this.1
        generalize d.Chunks[i]=n at hx hm hfr
        unfold vO
        simp only
        rw[hH (by omega)]
        simp only[a8,hx,Option.bind_some,Int.ofNat_lt,hi,decide_true,if_true]
        rw[aF5 hF hR (hd.ch n hm).1 (by omega) hA hfr (hd.ch n hm).2.2.2 (hd.ch n hm).2.1]
        unfold lV
        rw[List.foldl_append]
        rfl) (by unfold vO; simp)
      have e0:rU F c d=some (0,(ad c d).Seq,(ad c d).Snaps,(ad c d).Chunks,(ad c d).Exps,(ad c d).Vols):=by
        unfold rU
        rw[if_pos (by simp[k]),if_pos (by simp[e1.1])]
        have hl0:=hd.locs
        simp only[hl0,aG,l1,e1.2]
        rw[if_neg (by simp),show yH F { Seq:=c.Seq,Snaps:=c.Snaps,Chunks:=c.Chunks,Exps:=c.Exps,Vols:=c.Vols} d.Snap.Man.Name=some (-1) from nm]
        simp only[Option.bind_some]
        rw[if_neg (by decide),bW (by simp; omega)]
        simp only[Option.bind_some]
        rw[hloop]
        simp only[aG,List.take_length,wr (n:=c.Seq+1) (by omega) (by omega)]
        have:d.Snap= { Seq:=d.Snap.Seq,Man:=d.Snap.Man,Locs:= []}:=by rw[← hl0]
        unfold ad
        simp only
        rw[← this]
      rw[go (ad c d) 0 _ e0 (.inr ⟨rfl,rfl,NS h hg hd⟩)]
      rfl
  · rw[if_neg e1]
    have e0:∃r,rU F c d=some r∧r.1=1:=by
      unfold rU
      rw[if_pos (by simp[k])]
      by_cases e2:d.Snap.Seq=c.Seq
      · have e3:kB d.Chunks=false:=by
          cases h:kB d.Chunks with
          | false=>rfl
          | true=>exact absurd ⟨e2,h⟩ e1
        rw[if_pos (by simp[e2])]
        simp only[aG,l1,e3,Bool.and_false]
        rw[if_pos (by simp)]
        exact⟨_,rfl,rfl⟩
      · rw[if_neg (by simpa using e2)]
        simp only[aG,l1,Bool.false_and]
        rw[if_pos (by simp)]
        exact⟨_,rfl,rfl⟩
    obtain⟨r,e0,e3⟩:=e0
    rw[go bS 1 r e0 (.inl ⟨e3,by decide⟩)]
    rfl
theorem N6 {F:Nat} {c:aA} {d:aN} (hF:1000≤F) (h:Sm c) (hg:Gd c) (hd:E5 d) (k:d.Kind=2):
    E4 F c d=some (if c.Snaps.any (λs=>s.Seq==d.Seq) then (if gG (p8 c d.Seq) then (p8 c d.Seq,0) else (bS,1)) else (bS,8)):=by
  have go:∀(e:aA) (n:Int) (r),rU F c d=some r→_→_:=λe n r h1=>zG (e:=e) (n:=n) hF h hg hd (by omega) h1
  have e1:CZ F { Seq:=c.Seq,Snaps:=c.Snaps,Chunks:=c.Chunks,Exps:=c.Exps,Vols:=c.Vols} d.Seq=_:=U2 hF h (IS hg)
  cases ha:c.Snaps.any (λs=>s.Seq==d.Seq) with
  | true=>
    rw[ha,if_pos rfl] at e1
    have e0:rU F c d=some (0,(p8 c d.Seq).Seq,(p8 c d.Seq).Snaps,(p8 c d.Seq).Chunks,(p8 c d.Seq).Exps,(p8 c d.Seq).Vols):=by
      unfold rU
      rw[if_neg (by simp[k]),if_pos (by simp[k]),e1]
      rfl
    rw[go (p8 c d.Seq) 0 _ e0 (.inr ⟨rfl,rfl,yX h⟩)]
    rfl
  | false=>
    rw[ha,if_neg (by decide)] at e1
    have e0:rU F c d=some (8,c.Seq,c.Snaps,c.Chunks,c.Exps,c.Vols):=by
      unfold rU
      rw[if_neg (by simp[k]),if_pos (by simp[k]),e1]
      rfl
    rw[go bS 8 _ e0 (.inl ⟨rfl,by decide⟩)]
    rfl
theorem Q0 {F:Nat} {c:aA} {d:aN} {x:aM} (hF:1000≤F) (h:Sm c) (hg:Gd c) (hd:E5 d) (k:d.Kind=4) (h0:0≤d.Vol) (hx:c.Vols[d.Vol.toNat]? =some x):
    E4 F c d=some (if x.State=2 then (if gG (ret c d.Vol x) then (ret c d.Vol x,0) else (bS,1)) else (bS,1)):=by
  have hsn:=h.sn
  have hch:=h.ch
  have hex:=h.ex
  have go:∀(e:aA) (n:Int) (r),rU F c d=some r→_→_:=λe n r h1=>zG (e:=e) (n:=n) hF h hg hd (by omega) h1
  have e1:z7 F { Seq:=c.Seq,Snaps:=c.Snaps,Chunks:=c.Chunks,Exps:=c.Exps,Vols:=c.Vols} d.Vol 2 2=_:=U1 (a:=2) (b:=2) h0 hx
  by_cases e2:x.State=2
  · rw[if_pos e2]
    have hl:=(List.getElem?_eq_some_iff.1 hx).1
    have e0:rU F c d=some (0,(ret c d.Vol x).Seq,(ret c d.Vol x).Snaps,(ret c d.Vol x).Chunks,(ret c d.Vol x).Exps,(ret c d.Vol x).Vols):=by
      unfold rU
      rw[if_neg (by simp[k]),if_neg (by simp[k]),if_neg (by simp[k]),if_pos (by simp[k]),e1]
      simp only[Option.bind_some,e2,beq_self_eq_true,Bool.or_self]
      rw[if_neg (by simp)]
      simp only[pU _ h0,hx,Option.bind_some,List.getElem?_set_self hl]
      rw[mN (l:=c.Chunks) [] (λy=> !ND (QE d.Vol y)) (QE d.Vol) (by omega) (λi y hy hm hi acc ha=>by
        simp only[List.length_nil] at ha
        unfold tZ
        simp only
        rw[hH (by omega)]
        have ea:∀z:aB,app acc [z]=some (acc++ [z]):=λz=>bW (by simp; omega)
        simp only[a8,hy,Option.bind_some,Int.ofNat_lt,hi,decide_true,if_true,U0 hF (h.cl y hm).1,ea]
        unfold ND QE
        simp only
        by_cases q:(lf d.Vol y.Locs).length=0
        · cases y.Staged <;> simp[q,aG]
        · have:0 < (lf d.Vol y.Locs).length:=by omega
          cases y.Staged <;> simp[q,this,aG]) (λacc=>by unfold tZ; simp)]
      simp only[aG,List.nil_append]
      rw[p7 (l:=c.Snaps) (λs=> { s with Locs:=lf d.Vol s.Locs}) (by omega) (λcur i y hc hy hm hi=>by
        unfold uA
        simp only
        rw[hH (by omega)]
        simp only[a8,hy,hc,Option.bind_some,Int.ofNat_lt,hi,decide_true,if_true,U0 hF (h.sl y hm),Int.toNat_natCast]) (λcur hc=>by unfold uA; simp[hc])]
      simp only[aG]
      rw[mN (l:=c.Exps) [] (λy=> !(((QF d.Vol y).Locs.length:Int)==0)) (QF d.Vol) (by omega) (λi y hy hm hi acc ha=>by
        simp only[List.length_nil] at ha
        unfold uB
        simp only
        rw[hH (by omega)]
        have ea:∀z:aS,app acc [z]=some (acc++ [z]):=λz=>bW (by simp; omega)
        simp only[a8,hy,Option.bind_some,Int.ofNat_lt,hi,decide_true,if_true,U0 hF (h.el y hm),ea]
        unfold QF
        simp only
        by_cases q:(lf d.Vol y.Locs).length=0
        · simp[q,aG]
        · have:0 < (lf d.Vol y.Locs).length:=by omega
          simp[q,this,aG]) (λacc=>by unfold uB; simp)]
      simp only[aG,List.nil_append,List.set_set]
      unfold ret
      simp only[List.filter_map]
      rfl
    rw[go (ret c d.Vol x) 0 _ e0 (.inr ⟨rfl,rfl,NZ h hx⟩)]
    rfl
  · rw[if_neg e2]
    have e0:rU F c d=some (1,c.Seq,c.Snaps,c.Chunks,c.Exps,c.Vols):=by
      unfold rU
      rw[if_neg (by simp[k]),if_neg (by simp[k]),if_neg (by simp[k]),if_pos (by simp[k]),e1]
      simp only[Option.bind_some]
      rw[if_pos (by simp[e2])]
      rfl
    rw[go bS 1 _ e0 (.inl ⟨rfl,by decide⟩)]
    rfl
theorem Q1 {F:Nat} {c:aA} {d:aN} {x:aM} (hF:1000≤F) (h:Sm c) (hg:Gd c) (hd:E5 d) (k:d.Kind=5) (h0:0≤d.Vol) (hx:c.Vols[d.Vol.toNat]? =some x):
    E4 F c d=some (if x.State=3 then (if gG (rel c d.Vol x) then (rel c d.Vol x,0) else (bS,1)) else (bS,1)):=by
  have go:∀(e:aA) (n:Int) (r),rU F c d=some r→_→_:=λe n r h1=>zG (e:=e) (n:=n) hF h hg hd (by omega) h1
  have e1:z7 F { Seq:=c.Seq,Snaps:=c.Snaps,Chunks:=c.Chunks,Exps:=c.Exps,Vols:=c.Vols} d.Vol 3 3=_:=U1 (a:=3) (b:=3) h0 hx
  have ep:=N1 hg hx
  by_cases e2:x.State=3
  · rw[if_pos e2]
    have hl:=(List.getElem?_eq_some_iff.1 hx).1
    have e0:rU F c d=some (0,(rel c d.Vol x).Seq,(rel c d.Vol x).Snaps,(rel c d.Vol x).Chunks,(rel c d.Vol x).Exps,(rel c d.Vol x).Vols):=by
      unfold rU
      rw[if_neg (by simp[k]),if_neg (by simp[k]),if_neg (by simp[k]),if_neg (by simp[k]),if_pos (by simp[k]),e1]
      simp only[Option.bind_some,e2,beq_self_eq_true,Bool.or_self]
      rw[if_neg (by simp)]
      simp only[pU _ h0,hx,Option.bind_some,List.getElem?_set_self hl,List.set_set,wr (n:=x.Epoch+1) (by omega) (by omega),aG]
      rfl
    rw[go (rel c d.Vol x) 0 _ e0 (.inr ⟨rfl,rfl,N0 h hx ⟨ep.2,ep.1⟩⟩)]
    rfl
  · rw[if_neg e2]
    have e0:rU F c d=some (1,c.Seq,c.Snaps,c.Chunks,c.Exps,c.Vols):=by
      unfold rU
      rw[if_neg (by simp[k]),if_neg (by simp[k]),if_neg (by simp[k]),if_neg (by simp[k]),if_pos (by simp[k]),e1]
      simp only[Option.bind_some]
      rw[if_pos (by simp[e2])]
      rfl
    rw[go bS 1 _ e0 (.inl ⟨rfl,by decide⟩)]
    rfl
open Go.Vm
theorem U5 {F:Nat} {d:aN} {b:Bool} (hF:1000≤F) (hn:d.Items.length≤64):aU (λs=>rT F d s.1 s.2) F (b,0)=some (.brk (b && !(d.Items.any λi=>decide (i.Kind < 1) || decide (3 < i.Kind)),(d.Items.length:Int))):=by
 have:=jL (body:=λs:Bool×Int=>rT F d s.1 s.2) (s0:=(b,(0:Int))) (n:=d.Items.length) (F:=F) (λk:Nat=>(b && (d.Items.take k).all λi=>decide (1≤i.Kind) && decide (i.Kind≤3),(k:Int))) (by omega) (by simp) (λk hk=>by
  have hx:d.Items[k]? =some d.Items[k]:=List.getElem?_eq_getElem hk
  unfold rT
  simp only
  rw[hH (by omega),List.take_succ_eq_append_getElem hk]
  simp only[a8,hx,Option.bind_some,Int.ofNat_lt,hk,decide_true,if_true,List.all_append,List.all_cons,List.all_nil,Bool.and_true]
  rw[← Bool.and_assoc]
  cases (b && (d.Items.take k).all λi=>decide (1≤i.Kind) && decide (i.Kind≤3)) with
  | false=>simp[aG]
  | true=>by_cases h1:1≤(d.Items[k]).Kind <;> simp[h1,aG]) (by unfold rT; simp)
 rw[this,List.take_length]
 congr 4
 rw[List.all_eq_not_any_not]
 congr 2
 funext x
 by_cases h1:1≤x.Kind <;> by_cases h2:x.Kind≤3 <;> simp[h1,h2] <;> omega
theorem U6 {F:Nat} {c:aA} {d:aN} {x:aM} {e:aA} (hF:1000≤F) (hS:Sm e) (hv:Lv e) (hn:d.Items.length≤64) (hV:(c.Vols.set d.Vol.toNat { x with State:=2}).set d.Vol.toNat { ({ x with State:=2}:aM) with Files:=IntKind.wrap .i64 (x.Files+1)}=e.Vols)
    (hno:∀i∈d.Items,i.Kind=3→e.Snaps.any (λs=>s.Seq==i.Of)=false):
    aU (λs=>m9 F c d x e.Seq e.Exps s.1 s.2.1 s.2.2) F (e.Snaps,e.Chunks,0)=some (.brk (e.Snaps,e.Chunks,(d.Items.length:Int))):=by
  refine jL (λk:Nat=>(e.Snaps,e.Chunks,(k:Int))) (by omega) rfl (λk hk=> ?_) (by unfold m9; simp)
  have hx:d.Items[k]? =some d.Items[k]:=List.getElem?_eq_getElem hk
  have hm:=List.getElem_mem hk
  generalize d.Items[k]=i at hx hm
  unfold m9
  simp only
  rw[hH (by omega)]
  simp only[a8,hx,Option.bind_some,Int.ofNat_lt,hk,decide_true,if_true,hV]
  rw[show CZ F { Seq:=e.Seq,Snaps:=e.Snaps,Chunks:=e.Chunks,Exps:=e.Exps,Vols:=e.Vols} i.Of=_ from U2 hF hS hv]
  by_cases k3:i.Kind=3
  · rw[if_pos (by simp[k3]),hno i hm k3]
    simp[aG]
  · rw[if_neg (by simpa using k3)]
    rfl
theorem Q2 {F:Nat} {c:aA} {d:aN} {x:aM} {q:Int} {ex:List aS} {sn:List aH} {l:List aB} (hF:1000≤F) (hr:rZ l) (hl:l.length≤400) (hn:d.Items.length≤64):
    aU (λs=>nN F c d x q ex sn s.1 s.2) F (l,0)=some (.brk (l.map (eE 0 d.Items),(d.Items.length:Int))):=by
  have:=jL (body:=λs:List aB×Int=>nN F c d x q ex sn s.1 s.2) (s0:=(l,(0:Int))) (n:=d.Items.length) (F:=F) (λk:Nat=>(l.map (eE 0 (d.Items.take k)),(k:Int))) (by omega) (by rw[show l.map (eE 0 (d.Items.take 0))=l from jS λy _=>rfl]; rfl) (λk hk=>by
    have hx:d.Items[k]? =some d.Items[k]:=List.getElem?_eq_getElem hk
    have ht:d.Items.take (k+1)=d.Items.take k++ [d.Items[k]]:=List.take_succ_eq_append_getElem hk
    have hR:=xA (xC 0 (d.Items.take k)) hr
    have hL:(l.map (eE 0 (d.Items.take k))).length≤400:=by simpa using hl
    have hM:l.map (eE 0 (d.Items.take (k+1)))=(l.map (eE 0 (d.Items.take k))).map (qO 0 d.Items[k]):=by
      rw[ht,List.map_map]
      refine List.map_congr_left λy _=> ?_
      unfold eE
      rw[List.foldl_append]
      rfl
    rw[hM]
    generalize l.map (eE 0 (d.Items.take k))=m at hR hL
    generalize d.Items[k]=i at hx
    unfold nN
    simp only
    rw[hH (by omega)]
    simp only[a8,hx,Option.bind_some,Int.ofNat_lt,hk,decide_true,if_true]
    have e88:∀c':aA,c'.Chunks=m→KB F c' i.Id=some (pX m λy=>decide (y.Id=i.Id)):=λc' h=>by rw[p88 hF (by rw[h]; exact hL),h]
    rw[e88 _ rfl]
    by_cases k1:i.Kind=1
    · rw[if_pos (by simp[k1])]
      cases hh:m.any λy=>decide (y.Id=i.Id) with
      | false=>
        rw[iL hh,jS λy hy=>by
          have:=List.any_eq_false.1 hh y hy
          unfold qO
          rw[if_neg λh=>this (decide_eq_true h.2.2)]]
        simp[aG]
      | true=>
        obtain⟨p,y,h1,h2,h3,h4⟩:=iK hh
        have h3:y.Id=i.Id:=by simpa using h3
        have hpl:=(List.getElem?_eq_some_iff.1 h2).1
        rw[h1]
        simp only[Option.bind_some]
        rw[if_pos (by simp)]
        simp only[a8,h2,Option.bind_some,Int.toNat_natCast]
        rw[List.getElem?_set_self hpl]
        simp only[Option.bind_some,List.set_set,aG]
        have e9:m.set p { y with Staged:=false,Data:= []}=m.map (qO 0 i):=by
          rw[qK (λz:aB=>z.Id=i.Id) (λz=> { z with Staged:=false,Data:= []}) h2 h3 (λz hz e=>by
            have:=h4 z hz
            simp[e] at this) (λz hz e=>by
            obtain⟨j,hj,rfl⟩:=List.getElem_of_mem hz
            simp only[List.length_drop] at hj
            rw[List.getElem_drop] at e
            have:=hR.2 p (p+1+j) _ _ h2 (List.getElem?_eq_getElem (by omega)) (by omega)
            rw[e,h3] at this; omega)]
          refine List.map_congr_left λz _=> ?_
          unfold qO
          simp only[k1,true_and]
        rw[e9]
    · rw[if_neg (by simpa using k1),jS λy _=>by unfold qO; rw[if_neg (by omega)]]
      rfl) (by unfold nN; simp)
  rw[this,List.take_length]
theorem A9 {p:Int} {l:List aO} {m:List aB} (h:p≠0∨∀i∈l,i.Kind≠1):m.map (eE p l)=m:=jS λy _=>by
 unfold eE
 induction l generalizing y with
 | nil=>rfl
 | cons i l ih=>
  rw[List.foldl_cons,show qO p i y=y from if_neg λhh=>by
   rcases h with h | h
   ·exact h hh.1
   ·exact h i List.mem_cons_self hh.2.1]
  exact ih (h.imp_right λh j hj=>h j (List.mem_cons_of_mem _ hj)) y ‹_›
theorem J6 {F:Nat} {c:aA} {d:aN} {x:aM} (hF:1000≤F) (h:Sm c) (hg:Gd c) (hd:E5 d) (hm:Mk c d) (k:d.Kind=3) (hx:c.Vols[d.Vol.toNat]? =some x):
    E4 F c d=some (if iV x d=true then (if d.Items.all (jV c)=true then (if gG (i6 c d x)=true then (i6 c d x,0) else (bS,1)) else (bS,8)) else (bS,1)):=by
  have go:∀(e:aA) (n:Int) (r),rU F c d=some r→_→_:=λe n r h1=>zG (e:=e) (n:=n) hF h hg hd (by omega) h1
  have hv:=hm.v
  have hn:=hd.it
  have hw:=hm.wd hg hd
  have gv:=hd.vol
  have hxb:=hg.v x (List.mem_of_getElem? hx)
  unfold mD eY at hxb
  simp only[Bool.and_eq_true,Bool.or_eq_true,decide_eq_true_eq,beq_iff_eq] at hxb
  have gf:0≤x.Files∧x.Files≤65535:=by omega
  have gF:gI (x.Files+1):=⟨by omega,by omega⟩
  have e1:z7 F { Seq:=c.Seq,Snaps:=c.Snaps,Chunks:=c.Chunks,Exps:=c.Exps,Vols:=c.Vols} d.Vol 1 2=_:=U1 (a:=1) (b:=2) hv.1 hx
  have l5:=λb=>U5 (b:=b) hF hn
  have hW:=IN h hg hx
  have pre:∀(Q:Int×Int×List aH×List aB×List aS×List aM→Prop),
      (iV x d=false→∀a b e f g,Q (1,a,b,e,f,g))→(iV x d=true→T ((ix c.Vols d.Vol).bind λx14318=>after (aU (λs=>qC F c d x14318 s.1 s.2.1 s.2.2.1 s.2.2.2.1 s.2.2.2.2) F (c.Seq,c.Snaps,c.Chunks,c.Exps,0)) λ⟨r14470,r14471,r14472,r14473,r14474⟩=>after (aU (λs=>m9 F c d x14318 r14470 r14473 s.1 s.2.1 s.2.2) F (r14471,r14472,0)) λ⟨r14611,r14612,r14613⟩=>after (if ((({ ({ x14318 with State:=2}:aM) with Files:=IntKind.wrap .i64 (x14318.Files+1)}:aM).Pool)==0)=true then (after (aU (λs=>nN F c d x14318 r14470 r14473 r14611 s.1 s.2) F (r14612,0)) λ⟨r15156,r15157⟩=>some (.brk r15156)) else some (.brk r14612):Option (Lp ((List aB)) (Lp (Int×(List aH)×(List aB)×(List aS)×(List aM)) (Lp (Int×(List aH)×(List aB)×(List aS)×(List aM)) (Lp (Int×(List aH)×(List aB)×(List aS)×(List aM)) (Int×Int×(List aH)×(List aB)×(List aS)×(List aM))))))) λj14888=>some (.brk (r14470,r14611,j14888,r14473,(c.Vols.set d.Vol.toNat ({ x14318 with State:=2})).set d.Vol.toNat ({ ({ x14318 with State:=2}:aM) with Files:=IntKind.wrap .i64 (x14318.Files+1)})))) (λy=>(∃r,y= .ret (.ret (.ret r))∧Q r)∨∃s,y= .brk s∧Q (0,s)))→T (rU F c d) Q:=λQ q1 q2=>by
    unfold rU
    rw[if_neg (by simp[k]),if_neg (by simp[k]),if_pos (by simp[k]),e1]
    simp only[Option.bind_some]
    have hcond:∀(ρ:Type) (kk:Bool→Option ρ),(after (if (x.State==1 || x.State==2)=true then (if (decide (1≤(d.Items.length:Int)))=true then (some (.brk (decide ((d.Items.length:Int)≤64)))) else some (.brk false)) else some (.brk false):Option (Lp (Bool) ρ)) kk)=kk (!(x.State==3) && !d.Items.isEmpty):=λρ kk=>by
      by_cases s3:x.State=3
      · rw[if_neg (by simp[s3])]
        simp[s3,aG]
      · rw[if_pos (by simp; omega)]
        by_cases em:d.Items= []
        · simp[em,aG]
        · have:=List.length_pos_iff.2 em
          rw[if_pos (decide_eq_true (by omega))]
          have e64:decide ((d.Items.length:Int)≤64)=true:=decide_eq_true (by omega)
          rw[e64]
          have em2:d.Items.isEmpty=false:=by simpa using em
          have s32:(x.State==3)=false:=by simpa using s3
          rw[s32,em2]
          rfl
    rw[hcond,l5]
    simp only[aG]
    have hwc:(!(x.State==3) && !d.Items.isEmpty && !(d.Items.any λi=>decide (i.Kind < 1) || decide (3 < i.Kind)))=iV x d:=rfl
    rw[hwc]
    cases hc:iV x d with
    | false=>
      rw[if_pos (by simp)]
      exact⟨_,rfl,q1 hc _ _ _ _ _⟩
    | true=>
      rw[if_neg (by simp)]
      obtain⟨y,hy,hq⟩:=q2 hc
      rw[hy]
      rcases hq with⟨r,rfl,hr⟩ | ⟨s,rfl,hs⟩
      · exact⟨_,rfl,hr⟩
      · exact⟨_,rfl,hs⟩
  have main:T (rU F c d) λr=>if iV x d=true then (if d.Items.all (jV c)=true then r=(0,(i6 c d x).Seq,(i6 c d x).Snaps,(i6 c d x).Chunks,(i6 c d x).Exps,(i6 c d x).Vols) else r.1=8) else r.1=1:=by
    refine pre _ (λhc a b e f g=>by rw[hc]; simp) λhc=> ?_
    rw[hc]
    simp only[if_true]
    have hI:∀i∈d.Items,It i:=λi hi=>by
      obtain⟨a1,a2,a3,a4,a5⟩:=hw.it i hi
      unfold iV at hc
      simp only[Bool.and_eq_true,Bool.not_eq_true',List.any_eq_false,Bool.or_eq_true,decide_eq_true_eq,not_or,Int.not_lt] at hc
      exact⟨a1,a2,hc.2 i hi,a3,a4,a5⟩
    refine .bindEq (by rw[pU _ hv.1,hx]) ?_
    have wF:IntKind.wrap .i64 (x.Files+1)=x.Files+1:=wr (by omega) (by omega)
    have hVw:∀m:List aO,(c.Vols.set d.Vol.toNat { x with State:=2}).set d.Vol.toNat { ({ x with State:=2}:aM) with Files:=x.Files+1}=(kL d.Vol (x.Files+1) (ws c d.Vol x) m).Vols:=λm=>by
      rw[FB,List.set_set]; rfl
    have hWi:∀n,Wm (200+(d.Items.take n).length) (kL d.Vol (x.Files+1) (ws c d.Vol x) (d.Items.take n)):=λn=>by
      rw[qL]
      exact vQ gv gF hW λj hj=>hI j (List.mem_of_mem_take hj)
    have key:=yY (body:=λs:Int×List aH×List aB×List aS×Int=>qC F c d x s.1 s.2.1 s.2.2.1 s.2.2.2.1 s.2.2.2.2) (n:=d.Items.length)
      (λn=>((kL d.Vol (x.Files+1) (ws c d.Vol x) (d.Items.take n)).Seq,(kL d.Vol (x.Files+1) (ws c d.Vol x) (d.Items.take n)).Snaps,(kL d.Vol (x.Files+1) (ws c d.Vol x) (d.Items.take n)).Chunks,(kL d.Vol (x.Files+1) (ws c d.Vol x) (d.Items.take n)).Exps,(n:Int)))
      (λn=>(d.Items[n]?).any (jV c)) (λy=>∃r,y= .ret (.ret (.ret r))∧r.1=8)
      (λn hn' hp=>by
        have hi:d.Items[n]? =some d.Items[n]:=List.getElem?_eq_getElem hn'
        have hmm:=List.getElem_mem hn'
        have hWn:=hWi n
        rw[List.length_take] at hWn
        have h156:=aA2 hF hWn (by omega) (hI _ hmm) (N4 hg hx hm.un hi)
        rw[FC] at h156
        rw[hi] at hp
        rw[show jV (ws c d.Vol x) d.Items[n]=true from hp,if_pos rfl] at h156
        rw[List.take_succ_eq_append_getElem hn',n7]
        generalize d.Items[n]=i at hi h156
        have hVn:=hVw (d.Items.take n)
        generalize kL d.Vol (x.Files+1) (ws c d.Vol x) (d.Items.take n)=e at h156 hVn
        unfold qC
        simp only
        rw[hH (by omega)]
        simp only[a8,hi,Option.bind_some,Int.ofNat_lt,hn',decide_true,if_true,wF,hVn]
        rw[show G6 F { Seq:=e.Seq,Snaps:=e.Snaps,Chunks:=e.Chunks,Exps:=e.Exps,Vols:=e.Vols} i { Vol:=d.Vol,File:=x.Files+1,Off:=i.Off,Len:=i.Len}=_ from h156]
        rfl)
      (λn hn' hp=>by
        have hi:d.Items[n]? =some d.Items[n]:=List.getElem?_eq_getElem hn'
        have hmm:=List.getElem_mem hn'
        have hWn:=hWi n
        rw[List.length_take] at hWn
        have h156:=aA2 hF hWn (by omega) (hI _ hmm) (N4 hg hx hm.un hi)
        rw[FC] at h156
        rw[hi] at hp
        rw[show jV (ws c d.Vol x) d.Items[n]=false from hp,if_neg (by decide)] at h156
        generalize d.Items[n]=i at hi h156
        have hVn:=hVw (d.Items.take n)
        generalize kL d.Vol (x.Files+1) (ws c d.Vol x) (d.Items.take n)=e at h156 hVn
        refine⟨.ret (.ret (.ret (8,e.Seq,e.Snaps,e.Chunks,e.Exps,e.Vols))),⟨_,rfl,rfl⟩, ?_⟩
        unfold qC
        simp only
        simp only[a8,hi,Option.bind_some,Int.ofNat_lt,hn',decide_true,if_true,wF,hVn]
        rw[show G6 F { Seq:=e.Seq,Snaps:=e.Snaps,Chunks:=e.Chunks,Exps:=e.Exps,Vols:=e.Vols} i { Vol:=d.Vol,File:=x.Files+1,Off:=i.Off,Len:=i.Len}=_ from h156]
        rfl)
      (by unfold qC; simp) d.Items.length 0 F (by omega) (by omega)
    have st0:(c.Seq,c.Snaps,c.Chunks,c.Exps,(0:Int))=((kL d.Vol (x.Files+1) (ws c d.Vol x) (d.Items.take 0)).Seq,(kL d.Vol (x.Files+1) (ws c d.Vol x) (d.Items.take 0)).Snaps,(kL d.Vol (x.Files+1) (ws c d.Vol x) (d.Items.take 0)).Chunks,(kL d.Vol (x.Files+1) (ws c d.Vol x) (d.Items.take 0)).Exps,((0:Nat):Int)):=rfl
    rw[st0]
    rcases key with⟨k1,k2⟩ | ⟨⟨j, -,k1,k2⟩,r,⟨r',rfl,k3⟩,k4⟩
    · have hall:d.Items.all (jV c)=true:=List.all_eq_true.2 λi hi=>by
        obtain⟨j,hj,rfl⟩:=List.getElem_of_mem hi
        have:=k1 j (Nat.zero_le _) hj
        rw[List.getElem?_eq_getElem hj] at this
        exact this
      rw[k2,hall]
      simp only[aG,List.take_length,if_true]
      have hWe:=hWi d.Items.length
      rw[List.take_length] at hWe
      have hV:=hVw d.Items
      have hLv:Lv (kL d.Vol (x.Files+1) (ws c d.Vol x) d.Items):=HF (c:=ws c d.Vol x) (by have h1:=IS hg; exact h1)
      have hsq:=λq=>N5 (v:=d.Vol) (f:=x.Files+1) (c:=ws c d.Vol x) (l:=d.Items) (q:=q)
      have hww:=o6 x.Pool d.Vol (x.Files+1) (ws c d.Vol x) d.Items
      have hw1:iY c d x=w9 x.Pool d.Vol (x.Files+1) (ws c d.Vol x) d.Items:=rfl
      rw[hww] at hw1
      have hS:=hWe.sm (by omega)
      have hWn:=hWe.cn
      have hWr:=hWe.r
      rw[wF]
      generalize kL d.Vol (x.Files+1) (ws c d.Vol x) d.Items=e at hWe hV hLv hsq hw1 hS hWn hWr
      suffices hfin:∃s l,rZ l∧l.length≤400∧aU (λs=>m9 F c d x e.Seq e.Exps s.1 s.2.1 s.2.2) F (e.Snaps,e.Chunks,0)=some (.brk (s,l,(d.Items.length:Int)))∧((0:Int),e.Seq,s,l.map (eE x.Pool d.Items),e.Exps,e.Vols)=(0,(i6 c d x).Seq,(i6 c d x).Snaps,(i6 c d x).Chunks,(i6 c d x).Exps,(i6 c d x).Vols) by
        obtain⟨s,l,h1,h2,h3,h4⟩:=hfin
        rw[h3]
        simp only[aG]
        by_cases p0:x.Pool=0
        · rw[if_pos (by simp[p0]),Q2 hF h1 h2 hn]
          simp only[aG]
          refine⟨_,rfl,.inr ⟨_,rfl, ?_⟩⟩
          rw[← h4,hV,p0]
        · rw[if_neg (by simpa using p0)]
          simp only[aG]
          refine⟨_,rfl,.inr ⟨_,rfl, ?_⟩⟩
          rw[← h4,hV,A9 (.inl p0)]
      by_cases hno:∀i∈d.Items,i.Kind=3→c.Snaps.any (λs=>s.Seq==i.Of)=false
      · refine⟨e.Snaps,e.Chunks,hWr,hWn,U6 hF hS hLv hn (by rw[wF]; exact hV) λi hi k3=>by rw[hsq]; exact hno i hi k3, ?_⟩
        have hng:∀s∈e.Snaps,iG d.Items s=false:=λs hs=>by
          unfold iG
          rw[List.any_eq_false]
          intro i hi
          by_cases k3:i.Kind=3
          · have:=hsq i.Of
            rw[show (ws c d.Vol x).Snaps.any (λs=>s.Seq==i.Of)=false from hno i hi k3] at this
            have:=List.any_eq_false.1 this s hs
            simpa [k3] using this
          · simp[k3]
        have e1:(iY c d x).Snaps=e.Snaps:=by rw[hw1]
        have e2:(qP c d x).Snaps=e.Snaps:=by
          show (iY c d x).Snaps.filter _=_
          rw[e1,List.filter_eq_self.2 λs hs=>by rw[hng s hs]; rfl]
        have e3:i6 c d x= { e with Chunks:=e.Chunks.map (eE x.Pool d.Items)}:=by
          unfold i6
          rw[if_neg (by rw[e1,e2]; omega)]
          unfold qP
          rw[List.filter_eq_self.2 λs hs=>by rw[e1] at hs; rw[hng s hs]; rfl,hw1]
        rw[e3]
      · have⟨i,hi,k3,ha⟩:∃i∈d.Items,i.Kind=3∧c.Snaps.any (λs=>s.Seq==i.Of)=true:=by
          by_cases hh:∃i∈d.Items,i.Kind=3∧c.Snaps.any (λs=>s.Seq==i.Of)=true
          · exact hh
          · refine absurd (λi hi k3=> ?_) hno
            cases hc:c.Snaps.any (λs=>s.Seq==i.Of) with
            | false=>rfl
            | true=>exact absurd ⟨i,hi,k3,hc⟩ hh
        have hone:d.Items= [i]:=by
          rcases hm.it with h | ⟨s,hs,e⟩
          · exfalso
            rcases(h.a i hi).w with⟨a,_⟩ | ⟨a,_⟩ | ⟨_,_,j,_,y,y1,y2,y3⟩
            · omega
            · omega
            · obtain⟨s,hs,e⟩:=List.any_eq_true.1 ha
              exact hg.ex y (List.mem_of_getElem? y1) s hs (by rw[y3]; simpa using e)
          · rw[e] at hi ⊢
            rw[List.mem_singleton.1 hi]
        have hae:e.Snaps.any (λs=>s.Seq==i.Of)=true:=by rw[hsq]; exact ha
        have hoff:∀m:List aB,m.map (eE x.Pool d.Items)=m:=λm=>A9 (.inr λj hj=>by
          rw[hone] at hj
          rw[List.mem_singleton.1 hj]; omega)
        have hD:=yX (n:=i.Of) hS
        have e1:iY c d x=e:=by rw[hw1,hoff]
        have hgn:∀s:aH,iG d.Items s=(s.Seq==i.Of):=λs=>by rw[hone]; simp[iG,k3]
        have e2:qP c d x=jU e i.Of:=by
          unfold qP jU
          rw[e1]
          rw[show (λs=> !iG d.Items s)=λs:aH=> !(s.Seq==i.Of) from funext λs=>by rw[hgn]]
        have hlt:(jU e i.Of).Snaps.length < e.Snaps.length:=by
          obtain⟨s,hs,e9⟩:=List.any_eq_true.1 hae
          rcases Nat.lt_or_ge (jU e i.Of).Snaps.length e.Snaps.length with w | w
          · exact w
          · have hl:=List.length_filter_le (λs:aH=> !(s.Seq==i.Of)) e.Snaps
            have w:e.Snaps.length≤(e.Snaps.filter λs=> !(s.Seq==i.Of)).length:=w
            have:=List.length_filter_eq_length_iff.1 (Nat.le_antisymm hl w) s hs
            simp[e9] at this
        have e3:i6 c d x=p8 e i.Of:=by
          unfold i6
          rw[e2,e1,if_pos hlt]
          rfl
        refine⟨(p8 e i.Of).Snaps,(p8 e i.Of).Chunks,o0.2 ⟨λy hy=> ?_, ?_⟩,hD.ch, ?_,by rw[e3,hoff]; rfl⟩
        · exact(hD.g.2.2.1 y hy).1
        · exact List.pairwise_map.2 (((o0.1 hWr).2.sublist List.filter_sublist).imp fun {a b} hab=>by rw[(gH _ a).2.1,(gH _ b).2.1]; exact hab)
        · have h154:=U2 (q:=i.Of) hF hS hLv
          rw[hae,if_pos rfl] at h154
          rw[hone]
          have:=jL (body:=λs:List aH×List aB×Int=>m9 F c d x e.Seq e.Exps s.1 s.2.1 s.2.2) (s0:=(e.Snaps,e.Chunks,(0:Int))) (n:=1) (F:=F) (λk:Nat=>(if k=0 then e.Snaps else (p8 e i.Of).Snaps,if k=0 then e.Chunks else (p8 e i.Of).Chunks,(k:Int))) (by omega) rfl (λk hk=>by
            obtain rfl:k=0:=by omega
            unfold m9
            simp only
            rw[hH (by omega),hone]
            have h154':CZ F { Seq:=e.Seq,Snaps:=e.Snaps,Chunks:=e.Chunks,Exps:=e.Exps,Vols:=e.Vols} i.Of=some (true,(p8 e i.Of).Snaps,(p8 e i.Of).Chunks):=h154
            simp only[a8,List.getElem?_cons_zero,Option.bind_some,wF,hV,if_true,k3,h154',beq_self_eq_true,aG,List.length_singleton]
            rfl) (by unfold m9; rw[hone]; simp)
          simpa using this
    · have hall:d.Items.all (jV c)=false:=by
        rw[List.all_eq_false]
        refine⟨d.Items[j],List.getElem_mem k1, ?_⟩
        rw[List.getElem?_eq_getElem k1] at k2
        simpa using k2
      rw[k4,hall]
      exact⟨_,rfl,.inl ⟨r',rfl,by simpa using k3⟩⟩
  obtain⟨r,hr,hq⟩:=main
  by_cases c1:iV x d=true
  · rw[if_pos c1] at hq ⊢
    by_cases c2:d.Items.all (jV c)=true
    · rw[if_pos c2] at hq ⊢
      rw[go (i6 c d x) 0 r hr (.inr ⟨rfl,hq,DI h hg hw gv hx λi hi=>by
        unfold iV at c1
        simp only[Bool.and_eq_true,Bool.not_eq_true',List.any_eq_false,Bool.or_eq_true,decide_eq_true_eq,not_or,Int.not_lt] at c1
        exact c1.2 i hi⟩)]
      rfl
    · rw[if_neg c2] at hq ⊢
      rw[go bS 8 r hr (.inl ⟨hq,by decide⟩)]
      rfl
  · rw[if_neg c1] at hq ⊢
    rw[go bS 1 r hr (.inl ⟨hq,by decide⟩)]
    rfl
open Go.Vm
theorem U7 {F:Nat} {c:aA} {d:aN} (hF:1000≤F) (h:Sm c) (hg:Gd c) (k:d.Kind=0):E4 F c d=some (bS,1):=by
 unfold E4
 rw[m19 hF h,iF.2 hg]
 simp only[Option.bind_some,Bool.not_true,Bool.false_eq_true,if_false]
 rw[if_pos (by simp[k])]
 rfl
theorem U8 {F:Nat} {c:aA} {d:aN} (hF:1000≤F) (h:Sm c) (hg:Gd c) (hd:E5 d) (hm:Mk c d):
    ∃e n,E4 F c d=some (e,n)∧((n≠0∧e=bS)∨(n=0∧Sm e∧Gd e∧Eff c d e)):=by
  have hk:=hm.k
  have no:∀n:Int,n≠0→E4 F c d=some (bS,n)→∃e n,E4 F c d=some (e,n)∧((n≠0∧e=bS)∨(n=0∧Sm e∧Gd e∧Eff c d e)):=λn hn e=>⟨_,_,e,.inl ⟨hn,rfl⟩⟩
  have yes:∀e,(gG e=true→Sm e∧Eff c d e)→E4 F c d=some (if gG e=true then (e,0) else (bS,1))→∃e n,E4 F c d=some (e,n)∧((n≠0∧e=bS)∨(n=0∧Sm e∧Gd e∧Eff c d e)):=λe he h2=>by
    by_cases hge:gG e=true
    · rw[if_pos hge] at h2
      exact⟨_,_,h2,.inr ⟨rfl,(he hge).1,iF.1 hge,(he hge).2⟩⟩
    · rw[if_neg hge] at h2
      exact no 1 (by decide) h2
  obtain⟨x,hx⟩:=UY hm.v
  by_cases k0:d.Kind=0
  · exact no 1 (by decide) (U7 hF h hg k0)
  by_cases k1:d.Kind=1
  · have:=QZ hF h hg hd k1
    by_cases c1:d.Snap.Seq=c.Seq∧kB d.Chunks=true
    · rw[if_pos c1] at this
      cases c2:c.Snaps.any (λs=>s.Man.Name.toList==d.Snap.Man.Name.toList) with
      | true=>rw[c2,if_pos rfl] at this; exact no 9 (by decide) this
      | false=>rw[c2,if_neg (by decide)] at this; exact yes _ (λ_=>⟨NS h hg hd,.add k1 c1 c2 rfl⟩) this
    · rw[if_neg c1] at this; exact no 1 (by decide) this
  by_cases k2:d.Kind=2
  · have:=N6 hF h hg hd k2
    by_cases c1:c.Snaps.any (λs=>s.Seq==d.Seq)=true
    · rw[if_pos c1] at this; exact yes _ (λ_=>⟨yX h,.drop k2 c1 rfl⟩) this
    · rw[if_neg c1] at this; exact no 8 (by decide) this
  by_cases k3:d.Kind=3
  · have:=J6 hF h hg hd hm k3 hx
    by_cases c1:iV x d=true
    · rw[if_pos c1] at this
      by_cases c2:d.Items.all (jV c)=true
      · rw[if_pos c2] at this
        exact yes _ (λ_=>⟨DI h hg (hm.wd hg hd) hd.vol hx λi hi=>by
          unfold iV at c1
          simp only[Bool.and_eq_true,Bool.not_eq_true',List.any_eq_false,Bool.or_eq_true,decide_eq_true_eq,not_or,Int.not_lt] at c1
          exact c1.2 i hi,.wrote k3 x hx c1 c2 rfl⟩) this
      · rw[if_neg c2] at this; exact no 8 (by decide) this
    · rw[if_neg c1] at this; exact no 1 (by decide) this
  by_cases k4:d.Kind=4
  · have:=Q0 hF h hg hd k4 hm.v.1 hx
    by_cases c1:x.State=2
    · rw[if_pos c1] at this; exact yes _ (λ_=>⟨NZ h hx,.ret k4 x hx c1 rfl⟩) this
    · rw[if_neg c1] at this; exact no 1 (by decide) this
  · have k5:d.Kind=5:=by omega
    have ep:=N1 hg hx
    have:=Q1 hF h hg hd k5 hm.v.1 hx
    by_cases c1:x.State=3
    · rw[if_pos c1] at this; exact yes _ (λ_=>⟨N0 h hx ⟨ep.2,ep.1⟩,.rel k5 x hx c1 rfl⟩) this
    · rw[if_neg c1] at this; exact no 1 (by decide) this
open Go.Vm
structure Bd (n:Nat) (c:aA):Prop where
 k:∀x∈c.Chunks,x.Locs.length≤n
 s:∀x∈c.Snaps,x.Locs.length≤n
 e:∀x∈c.Exps,x.Locs.length≤n
 f:∀x∈c.Vols,x.Files≤n
 q:c.Seq≤n
theorem Bd.mono {n m:Nat} {c:aA} (h:Bd n c) (hm:n≤m):Bd m c:=⟨λx hx=>Nat.le_trans (h.k x hx) hm,λx hx=>Nat.le_trans (h.s x hx) hm,λx hx=>Nat.le_trans (h.e x hx) hm,λx hx=>by have:=h.f x hx; omega,by have:=h.q; omega⟩
theorem IT {v f:Int} {c:aA}:∀ {l:List aO},l.Pairwise Un→∀y∈(kL v f c l).Chunks,∃z∈c.Chunks,y.Id=z.Id∧y.Staged=z.Staged∧y.Data=z.Data∧(y.Locs=z.Locs∨∃i∈l,i.Kind=1∧i.Id=z.Id∧y.Locs=fZ z.Locs (kT v f i)):=fun {l}=>n8 (P:=λl=>l.Pairwise Un→∀y∈(kL v f c l).Chunks,∃z∈c.Chunks,y.Id=z.Id∧y.Staged=z.Staged∧y.Data=z.Data∧(y.Locs=z.Locs∨∃i∈l,i.Kind=1∧i.Id=z.Id∧y.Locs=fZ z.Locs (kT v f i)))
 (λ_ y hy=>⟨y,hy,rfl,rfl,rfl,.inl rfl⟩) (λl i ih hu y hy=>by
  rw[n7] at hy
  obtain⟨y',hy',rfl⟩:=List.mem_map.1 hy
  obtain⟨hu1, -,hu2⟩:=List.pairwise_append.1 hu
  obtain⟨z,hz,e1,e2,e3,e4⟩:=ih hu1 y' hy'
  by_cases k:i.Kind=1∧y'.Id=i.Id
  ·rw[show pK i (kT v f i) y'= { y' with Locs:=fZ y'.Locs (kT v f i)} from if_pos k]
   refine⟨z,hz,e1,e2,e3,.inr ⟨i,by simp,k.1,by rw[← k.2,e1], ?_⟩⟩
   rcases e4 with e4 | ⟨j,hj,j1,j2,j3⟩
   ·show fZ y'.Locs _=_
    rw[e4]
   ·exact absurd ⟨by omega,λ_=>by rw[j2,← e1,k.2],λh=>absurd j1 h⟩ (hu2 j hj i List.mem_cons_self)
  ·rw[show pK i (kT v f i) y'=y' from if_neg k]
   exact⟨z,hz,e1,e2,e3,e4.imp_right λ⟨j,hj,h⟩=>⟨j,List.mem_append_left _ hj,h⟩⟩) l
theorem N7 {v f:Int} {c:aA}:∀ {l:List aO},l.Pairwise Un→∀y∈(kL v f c l).Snaps,∃z∈c.Snaps,y.Seq=z.Seq∧y.Man=z.Man∧(y.Locs=z.Locs∨∃i∈l,i.Kind=2∧i.Seq=z.Seq∧y.Locs=fZ z.Locs (kT v f i)):=fun {l}=>n8 (P:=λl=>l.Pairwise Un→∀y∈(kL v f c l).Snaps,∃z∈c.Snaps,y.Seq=z.Seq∧y.Man=z.Man∧(y.Locs=z.Locs∨∃i∈l,i.Kind=2∧i.Seq=z.Seq∧y.Locs=fZ z.Locs (kT v f i)))
 (λ_ y hy=>⟨y,hy,rfl,rfl,.inl rfl⟩) (λl i ih hu y hy=>by
  rw[n7] at hy
  obtain⟨y',hy',rfl⟩:=List.mem_map.1 hy
  obtain⟨hu1, -,hu2⟩:=List.pairwise_append.1 hu
  obtain⟨z,hz,e1,e2,e4⟩:=ih hu1 y' hy'
  by_cases k:i.Kind=2∧y'.Seq=i.Seq
  ·rw[show z9 i (kT v f i) y'= { y' with Locs:=fZ y'.Locs (kT v f i)} from if_pos k]
   refine⟨z,hz,e1,e2,.inr ⟨i,by simp,k.1,by rw[← k.2,e1], ?_⟩⟩
   rcases e4 with e4 | ⟨j,hj,j1,j2,j3⟩
   ·show fZ y'.Locs _=_
    rw[e4]
   ·exact absurd ⟨by omega,λh=>absurd h (by omega),λ_=>by rw[j2,← e1,k.2]⟩ (hu2 j hj i List.mem_cons_self)
  ·rw[show z9 i (kT v f i) y'=y' from if_neg k]
   exact⟨z,hz,e1,e2,e4.imp_right λ⟨j,hj,h⟩=>⟨j,List.mem_append_left _ hj,h⟩⟩) l
theorem BA {v f:Int} {c:aA}:∀ {l:List aO},l.Pairwise Un→∀y∈(kL v f c l).Exps,(∃z∈c.Exps,y.Seq=z.Seq∧y.Of=z.Of∧(y.Locs=z.Locs∨∃i∈l,i.Kind=3∧i.Seq=z.Seq∧y.Locs=fZ z.Locs (kT v f i)))∨∃i∈l,i.Kind=3∧y= { Seq:=i.Seq,Of:=i.Of,Locs:= [kT v f i]}:=fun {l}=>n8 (P:=λl=>l.Pairwise Un→∀y∈(kL v f c l).Exps,(∃z∈c.Exps,y.Seq=z.Seq∧y.Of=z.Of∧(y.Locs=z.Locs∨∃i∈l,i.Kind=3∧i.Seq=z.Seq∧y.Locs=fZ z.Locs (kT v f i)))∨∃i∈l,i.Kind=3∧y= { Seq:=i.Seq,Of:=i.Of,Locs:= [kT v f i]})
 (λ_ y hy=>.inl ⟨y,hy,rfl,rfl,.inl rfl⟩) (λl i ih hu y hy=>by
  rw[n7] at hy
  obtain⟨hu1, -,hu2⟩:=List.pairwise_append.1 hu
  have old:∀y'∈(kL v f c l).Exps,(∃z∈c.Exps,y'.Seq=z.Seq∧y'.Of=z.Of∧(y'.Locs=z.Locs∨∃j∈l++ [i],j.Kind=3∧j.Seq=z.Seq∧y'.Locs=fZ z.Locs (kT v f j)))∨∃j∈l++ [i],j.Kind=3∧y'= { Seq:=j.Seq,Of:=j.Of,Locs:= [kT v f j]}:=λy' hy'=>by
   rcases ih hu1 y' hy' with⟨z,hz,e1,e2,e4⟩ | ⟨j,hj,h⟩
   ·exact .inl ⟨z,hz,e1,e2,e4.imp_right λ⟨j,hj,h⟩=>⟨j,List.mem_append_left _ hj,h⟩⟩
   ·exact .inr ⟨j,List.mem_append_left _ hj,h⟩
  have hy:y∈(if i.Kind=3 then nG (kL v f c l).Exps i (kT v f i) else (kL v f c l).Exps):=hy
  split at hy
  ·rename_i k3
   unfold nG at hy
   rcases List.mem_append.1 hy with h | h
   ·exact old y (List.mem_filter.1 h).1
   ·rcases List.mem_cons.1 h with rfl | h
    ·have hs:=yZ (kL v f c l).Exps i
     rcases IM (kL v f c l).Exps i with ht | ht
     ·rcases ih hu1 _ ht with⟨z,hz,e1,e2,e4⟩ | ⟨j,hj,j1,j3⟩
      ·refine .inl ⟨z,hz,e1,e2,.inr ⟨i,by simp,k3,by omega, ?_⟩⟩
       rcases e4 with e4 | ⟨j,hj,j1,j2,j3⟩
       ·show fZ (vP _ i).Locs _=_
        rw[e4]
       ·exact absurd ⟨by omega,λh=>absurd h (by omega),λ_=>by omega⟩ (hu2 j hj i List.mem_cons_self)
      ·rw[j3] at hs
       exact absurd ⟨by omega,λh=>absurd h (by omega),λ_=>hs⟩ (hu2 j hj i List.mem_cons_self)
     ·refine .inr ⟨i,by simp,k3, ?_⟩
      rw[ht]
      simp[fZ]
    ·exact old y (List.mem_filter.1 h).1
  ·exact old y hy) l
theorem N8 {c:aA} {d:aN} {x:aM}:∀y∈(i6 c d x).Chunks,∃z∈(kL d.Vol (x.Files+1) (ws c d.Vol x) d.Items).Chunks,y.Id=z.Id∧y.Locs=z.Locs:=by
 have h1:∀y∈(iY c d x).Chunks,∃z∈(kL d.Vol (x.Files+1) (ws c d.Vol x) d.Items).Chunks,y.Id=z.Id∧y.Locs=z.Locs:=λy hy=>by
  unfold iY at hy
  rw[o6] at hy
  obtain⟨z,hz,rfl⟩:=List.mem_map.1 hy
  refine⟨z,hz,xC _ _ z, ?_⟩
  unfold eE
  generalize d.Items=l
  clear hy hz
  induction l generalizing z with
  | nil=>rfl
  | cons i l ih=>
   rw[List.foldl_cons,ih]
   unfold qO
   split <;> rfl
 intro y hy
 unfold i6 at hy
 split at hy
 ·obtain⟨w,hw,rfl⟩:=List.mem_map.1 hy
  obtain⟨z,hz,e1,e2⟩:=h1 w (List.mem_filter.1 hw).1
  exact⟨z,hz,(gH _ w).2.1.trans e1,(gH _ w).1.trans e2⟩
 ·exact h1 y hy
theorem SD {c:aA} {d:aN} {x:aM}:(i6 c d x).Seq=(kL d.Vol (x.Files+1) (ws c d.Vol x) d.Items).Seq∧(i6 c d x).Exps=(kL d.Vol (x.Files+1) (ws c d.Vol x) d.Items).Exps∧(i6 c d x).Snaps=(kL d.Vol (x.Files+1) (ws c d.Vol x) d.Items).Snaps.filter λs=> !iG d.Items s:=by
 have e:iY c d x= { kL d.Vol (x.Files+1) (ws c d.Vol x) d.Items with Chunks:=(kL d.Vol (x.Files+1) (ws c d.Vol x) d.Items).Chunks.map (eE x.Pool d.Items)}:=o6 _ _ _ _ _
 have e1:(iY c d x).Seq=(kL d.Vol (x.Files+1) (ws c d.Vol x) d.Items).Seq:=by rw[e]
 have e2:(iY c d x).Exps=(kL d.Vol (x.Files+1) (ws c d.Vol x) d.Items).Exps:=by rw[e]
 have e3:(iY c d x).Snaps=(kL d.Vol (x.Files+1) (ws c d.Vol x) d.Items).Snaps:=by rw[e]
 rw[← e1,← e2,← e3]
 unfold i6
 split <;> exact⟨rfl,rfl,rfl⟩
theorem N9 {v f:Int} {q:Int}:∀ {l:List aO} {c:aA},c.Seq≤q→(∀i∈l,i.Kind=3→i.Seq+1≤q)→(kL v f c l).Seq≤q
  | [],_,h,_=>h
  | i :: l, c, h, hi => N9 (l := l) (by
      show (if i.Kind=3 then max c.Seq (i.Seq+1) else c.Seq)≤q
      split
      · rename_i k; have:=hi i List.mem_cons_self k; omega
      · exact h) λj hj=>hi j (List.mem_cons_of_mem _ hj)
theorem U9 {n:Nat} {c:aA} {d:aN} {e:aA} (h:Bd n c) (G:Gd c) (hd:E5 d) (hm:Mk c d) (hr:rZ c.Chunks) (he:Eff c d e):Bd (n+1) e:=by
 have hq:=h.q
 cases he with
 | add k q nn w=>
  subst w
  refine⟨nA (P:=λx=>x.Locs.length≤n+1) (λx hx=>Nat.le_succ_of_le (h.k x hx)) (λ_ _=>by simp) λx hx _ _=>hx,λs hs=> ?_,λx hx=>Nat.le_succ_of_le (h.e x hx),λx hx=>by have:=h.f x hx; omega,by show c.Seq+1≤_; omega⟩
  rcases List.mem_append.1 hs with h1 | h1
  ·exact Nat.le_succ_of_le (h.s s h1)
  ·rw[List.mem_singleton.1 h1]; simp
 | drop k q w=>
  subst w
  refine⟨λy hy=> ?_,λs hs=>Nat.le_succ_of_le (h.s s (List.mem_filter.1 hs).1),λx hx=>Nat.le_succ_of_le (h.e x hx),λx hx=>by have:=h.f x hx; omega,by show c.Seq≤_; omega⟩
  obtain⟨z,hz,rfl⟩:=List.mem_map.1 hy
  rw[(gH _ z).1]
  exact Nat.le_succ_of_le (h.k z (List.mem_filter.1 hz).1)
 | ret k x hx q w=>
  subst w
  have lfl:∀(l:List bE),(lf d.Vol l).length≤l.length:=λl=>List.length_filter_le _ _
  refine⟨λy hy=> ?_,λy hy=> ?_,λy hy=> ?_,λy hy=> ?_,by show c.Seq≤_; omega⟩
  ·obtain⟨z,hz,rfl⟩:=List.mem_map.1 (List.mem_filter.1 hy).1
   exact Nat.le_trans (lfl _) (Nat.le_succ_of_le (h.k z hz))
  ·obtain⟨z,hz,rfl⟩:=List.mem_map.1 hy
   exact Nat.le_trans (lfl _) (Nat.le_succ_of_le (h.s z hz))
  ·obtain⟨z,hz,rfl⟩:=List.mem_map.1 (List.mem_filter.1 hy).1
   exact Nat.le_trans (lfl _) (Nat.le_succ_of_le (h.e z hz))
  ·rcases List.mem_or_eq_of_mem_set hy with h1 | rfl
   ·have:=h.f y h1; omega
   ·simp only; omega
 | rel k x hx q w=>
  subst w
  refine⟨λy hy=>Nat.le_succ_of_le (h.k y hy),λy hy=>Nat.le_succ_of_le (h.s y hy),λy hy=>Nat.le_succ_of_le (h.e y hy),λy hy=> ?_,by show c.Seq≤_; omega⟩
  rcases List.mem_or_eq_of_mem_set hy with h1 | rfl
  ·have:=h.f y h1; omega
  ·have:=h.f x (List.mem_of_getElem? hx); simp only; omega
 | wrote k x hx q p w=>
  subst w
  have hu:=hm.un
  obtain⟨o1,o2,o3⟩:=SD (c:=c) (d:=d) (x:=x)
  have pl:∀(l:List bE) (a:bE),l.length≤n→(fZ l a).length≤n+1:=λl a hl=>by rw[lO]; omega
  refine⟨λy hy=> ?_,λy hy=> ?_,λy hy=> ?_,λy hy=> ?_, ?_⟩
  ·obtain⟨w,hw, -,e⟩:=N8 y hy
   obtain⟨z,hz, -, -, -,e2⟩:=IT hu w hw
   rw[e]
   have hz:=h.k z hz
   rcases e2 with e2 | ⟨i, -, -, -,e2⟩ <;> rw[e2]
   ·omega
   ·exact pl _ _ hz
  ·rw[o3] at hy
   obtain⟨z,hz, -, -,e2⟩:=N7 hu y (List.mem_filter.1 hy).1
   have hz:=h.s z hz
   rcases e2 with e2 | ⟨i, -, -, -,e2⟩ <;> rw[e2]
   ·omega
   ·exact pl _ _ hz
  ·rw[o2] at hy
   rcases BA hu y hy with⟨z,hz, -, -,e2⟩ | ⟨i, -, -,rfl⟩
   ·have hz:=h.e z hz
    rcases e2 with e2 | ⟨i, -, -, -,e2⟩ <;> rw[e2]
    ·omega
    ·exact pl _ _ hz
   ·simp
  ·have e:(i6 c d x).Vols=c.Vols.set d.Vol.toNat { x with State:=2,Files:=x.Files+1}:=by
    have:(iY c d x).Vols=c.Vols.set d.Vol.toNat { x with State:=2,Files:=x.Files+1}:=qE _ _ _ _ _
    unfold i6
    split <;> exact this
   rw[e] at hy
   rcases List.mem_or_eq_of_mem_set hy with h1 | rfl
   ·have:=h.f y h1; omega
   ·have:=h.f x (List.mem_of_getElem? hx); simp only; omega
  ·rw[o1]
   refine N9 (by show c.Seq≤_; omega) λi hi k3=> ?_
   rcases hm.it with ht | ⟨s,hs,e⟩
   ·rcases(ht.a i hi).w with⟨a,_⟩ | ⟨a,_⟩ | ⟨_,_,j,_,y,y1,y2,y3⟩
    ·omega
    ·omega
    ·have:=(G.eq y (List.mem_of_getElem? y1)).1
     simp only[eY,Bool.and_eq_true,decide_eq_true_eq] at this
     omega
   ·rw[e] at hi
    rw[List.mem_singleton.1 hi]
    show c.Seq+1≤_
    omega
theorem VA (q:List Int):Bd 0 (nF q):=by
 refine⟨λx hx=> ?_,λx hx=> ?_,λx hx=> ?_,λx hx=> ?_, ?_⟩
 ·cases hx
 ·cases hx
 ·cases hx
 ·unfold nF at hx
  obtain⟨p,hp,rfl⟩:=List.mem_map.1 hx
  exact Int.le_refl _
 ·exact Int.le_refl _
theorem aF6 {F:Nat} {q:List Int} {l:List nX} (hF:1000≤F) (h1:eY q.length 1 8=true) (h2:q.all ES=true) (h3:gL gI q) (gl:gL HW l) (ho:∀a∈l.take 30,E9 a):T (M15 F q l) λc=>Sm c∧gG c=true∧Bd 30 c:=by
 have h8:q.length≤8:=by unfold eY at h1; simp at h1; omega
 unfold M15
 refine .bindEq (m32 hF (by omega)) ?_
 refine .loop (λs=>0≤s.2∧s.2≤30∧Sm s.1∧gG s.1=true∧Bd s.2.toNat s.1) (λs=>(30 - s.2).toNat) (λs=>Sm s.1∧gG s.1=true∧Bd 30 s.1) (by simp; omega) ⟨by simp,by simp,P3 h8 h3,JP h1 h2,VA q⟩ (λs hs=> ?_) (λs hs=>.some hs)
 obtain⟨c,i⟩:=s
 simp only at hs
 obtain⟨s1,s2,s3,s4,s5⟩:=hs
 have G:=iF.1 s4
 have fin:Bd 30 c:=s5.mono (by omega)
 unfold DF
 refine .after (.ite (λhc=>.brk (T.ite (λhc2=> ?_) λhc2=>.brk ⟨s3,s4,fin⟩)) λhc=>.brk (T.ite (λh=>by cases h) λ_=>.brk ⟨s3,s4,fin⟩))
 have hc:=of_decide_eq_true hc
 have hc2:=of_decide_eq_true hc2
 simp only at hc hc2
 rw[wr (n:=i+1) (by omega) (by omega)]
 have go:∀c':aA,Sm c'→gG c'=true→Bd (i+1).toNat c'→T (some (.go (c',i+1)):Option (Lp (aA×Int) aA)) (L3 (λs'=>(0≤s'.2∧s'.2≤30∧Sm s'.1∧gG s'.1=true∧Bd s'.2.toNat s'.1)∧(30 - s'.2).toNat < (30 - i).toNat) (λs=>Sm s.1∧gG s.1=true∧Bd 30 s.1) (λc=>Sm c∧gG c=true∧Bd 30 c)):=λc' h5 h6 h7=>.go ⟨⟨by first | omega | (simp only; omega),by first | omega | (simp only; omega),h5,h6,h7⟩,by first | omega | (simp only; omega)⟩
 have same:Bd (i+1).toNat c:=s5.mono (by omega)
 refine .ix (by omega) (by omega) λa ea ha=>.bind _ (t66 hF ⟨s3,rng s4⟩ G λf hf=>⟨ho a (NY ea (by simp only; omega)) f hf,((gl a ha).2.2.2.1 f hf).2⟩) λy hy=> ?_
 obtain⟨hd,hm⟩:=hy
 obtain⟨e,n,he2,hn⟩:=U8 hF s3 G hd hm
 refine .after (.ite (λ_=>.bindEq he2 (.after (.ite (λh0=> ?_) λ_=>.brk (.brk (go _ s3 s4 same))))) λ_=>.brk (go _ s3 s4 same))
 rcases hn with⟨hn,_⟩ | ⟨_,hS,hGe,hE⟩
 ·exact absurd (by simpa using h0) hn
 ·have hr:rZ c.Chunks:=o0.2 ⟨λx hx=>(s3.g.2.2.1 x hx).1,G.co⟩
  have:=U9 s5 G hd hm hr hE
  rw[show i.toNat+1=(i+1).toNat by omega] at this
  exact .brk (.brk (go _ hS (iF.2 hGe) this))
open Go.Vm
structure Wok (n:Nat) (c:aA) (d:aN) (x:aM):Prop where
 w:Wd d
 u:d.Items.Pairwise Un
 hx:c.Vols[d.Vol.toNat]? =some x
 v:0≤d.Vol
 g:gI d.Vol
 k:iV x d=true
 p:∀i∈d.Items,jV c i=true
 o:∀i∈d.Items,0≤i.Off∧i.Off≤16777215∧13≤i.Len∧i.Len≤8013
 e:∀i∈d.Items,i.Kind=3→0≤i.Of∧i.Of < i.Seq∧i.Seq≤n
theorem Wok.kd {n:Nat} {c:aA} {d:aN} {x:aM} (h:Wok n c d x):∀i∈d.Items,1≤i.Kind∧i.Kind≤3:=λi hi=>by
 have c1:=h.k
 unfold iV at c1
 simp only[Bool.and_eq_true,Bool.not_eq_true',List.any_eq_false,Bool.or_eq_true,decide_eq_true_eq,not_or,Int.not_lt] at c1
 exact c1.2 i hi
theorem Q3 {v f:Int} {c:aA}:∀l:List aO,∀i∈l,i.Kind=1→∀y∈(kL v f c l).Chunks,y.Id=i.Id→kT v f i∈y.Locs:=n8 (λi hi=>by cases hi) λl j ih i hi k y hy e=>by
 rw[n7] at hy
 obtain⟨z,hz,rfl⟩:=List.mem_map.1 hy
 rw[rX] at e
 rcases List.mem_append.1 hi with h | h
 ·have:=ih i h k z hz e
  unfold pK
  split
  ·exact n6.2 (.inl this)
  ·exact this
 ·rw[List.mem_singleton.1 h] at e ⊢
  rw[List.mem_singleton.1 h] at k
  unfold pK
  rw[if_pos ⟨k,e⟩]
  exact n6.2 (.inr rfl)
theorem VB {vs:List aM} {l:List bE} {a:bE} (h:Lk vs l) (hn:l.length < 200) (ha:tG vs a=true) (hw:∀y∈l,nk y a):Lk vs (fZ l a):=by
 refine⟨by rw[lO]; omega,λy hy=> ?_, ?_⟩
 ·rcases n6.1 hy with h1 | rfl
  ·exact h.a y h1
  ·exact ha
 ·rw[v8 h.o (by omega)]
  refine List.pairwise_append.2 ⟨h.o.sublist List.filter_sublist,List.pairwise_cons.2 ⟨λy hy=>(List.mem_filter.1 hy).2,h.o.sublist List.filter_sublist⟩,λy hy z hz=> ?_⟩
  obtain⟨h1,h2⟩:=List.mem_filter.1 hy
  have h2:jK y a=false:=by simpa using h2
  have hya:jK a y=true:=by
   have hk:=hw y h1
   unfold nk at hk
   have h3:¬jK y a=true:=by rw[h2]; decide
   rw[wV] at h3 ⊢
   omega
  rcases List.mem_cons.1 hz with rfl | hz
  ·exact hya
  ·exact yS y a z hya (List.mem_filter.1 hz).2
theorem VE {vs:List aM} {y:bE} {v:Nat} {x:aM} (h:tG vs y=true) (hx:vs[v]? =some x):tG (vs.set v { x with State:=2,Files:=x.Files+1}) y=true:=by
 have hl:=(List.getElem?_eq_some_iff.1 hx).1
 by_cases e:y.Vol.toNat=v
 ·subst e
  unfold tG at h ⊢
  rw[List.length_set,List.getElem?_set_self hl]
  rw[hx] at h
  simp only[Bool.and_eq_true,beq_iff_eq,eY,decide_eq_true_eq] at h ⊢
  exact⟨⟨⟨h.1.1.1,trivial,h.1.1.2.2.1,by omega⟩,h.1.2⟩,h.2⟩
 ·exact IP h e
theorem Lk.up {vs:List aM} {l:List bE} {v:Nat} {x:aM} (h:Lk vs l) (hx:vs[v]? =some x):Lk (vs.set v { x with State:=2,Files:=x.Files+1}) l:=⟨h.n,λy hy=>VE (h.a y hy) hx,h.o⟩
theorem FD {b:Int}:∀ {l:List aS} {a:Int},l.Pairwise (λy x=>y.Seq < x.Seq)→(∀x∈l,a≤x.Seq∧x.Seq < b)→a≤b→(l.length:Int)≤b - a
 | [],a,_,_,h=>by simp; omega
 | x::l,a,hp,hb,hab=>by
  obtain⟨h1,h2⟩:=List.pairwise_cons.1 hp
  have hx:=hb x List.mem_cons_self
  have:=FD (b:=b) (l:=l) (a:=x.Seq+1) h2 (λy hy=>⟨by have:=h1 y hy; omega,(hb y (List.mem_cons_of_mem _ hy)).2⟩) (by omega)
  simp only[List.length_cons]
  omega
theorem VF {n:Nat} {c:aA} {d:aN} {x:aM} (h:Sm c) (G:Gd c) (B:Bd n c) (hn:n≤190) (W:Wok n c d x):Gd (i6 c d x)∧Bd (n+1) (i6 c d x):=by
 have hxb:=G.v x (List.mem_of_getElem? W.hx)
 have hx:=W.hx
 have hl:=(List.getElem?_eq_some_iff.1 hx).1
 have gf:=B.f x (List.mem_of_getElem? hx)
 have hqc:=G.q
 simp only[eY,Bool.and_eq_true,decide_eq_true_eq] at hqc
 unfold mD eY at hxb
 simp only[Bool.and_eq_true,Bool.or_eq_true,decide_eq_true_eq,beq_iff_eq] at hxb
 have gF:gI (x.Files+1):=⟨by omega,by omega⟩
 have hI:∀i∈d.Items,It i:=λi hi=>by
  obtain⟨a1,a2,a3,a4,a5⟩:=W.w.it i hi
  exact⟨a1,a2,W.kd i hi,a3,a4,a5⟩
 have hWe:=vQ (p:=x.Pool) W.g gF (IN h G hx) hI
 have R:=zD (p:=1) (v:=d.Vol) (f:=x.Files+1) d.Items (ws c d.Vol x)
 rw[← qL] at R
 obtain⟨o1,o2,o3⟩:=SD (c:=c) (d:=d) (x:=x)
 have o4:(i6 c d x).Vols=c.Vols.set d.Vol.toNat { x with State:=2,Files:=x.Files+1}:=by
  have:(iY c d x).Vols=c.Vols.set d.Vol.toNat { x with State:=2,Files:=x.Files+1}:=qE _ _ _ _ _
  unfold i6
  split <;> exact this
 have hu:=W.u
 -- places
 have hpl:∀i∈d.Items,tG (i6 c d x).Vols (kT d.Vol (x.Files+1) i)=true:=λi hi=>by
  have:=W.o i hi
  have hv:=W.v
  rw[o4]
  unfold tG
  rw[List.length_set]
  show (eY d.Vol 0 _ && _ && eY i.Off _ _ && eY i.Len _ _)=true
  rw[show (kT d.Vol (x.Files+1) i).Vol=d.Vol from rfl,List.getElem?_set_self hl]
  simp only[eY,Bool.and_eq_true,decide_eq_true_eq,beq_iff_eq]
  refine⟨⟨⟨⟨hv,by omega⟩,trivial, ?_, ?_⟩,this.1,this.2.1⟩,this.2.2⟩
  ·show 1≤x.Files+1; omega
  ·show x.Files+1≤x.Files+1; omega
 have up:∀l:List bE,Lk c.Vols l→Lk (i6 c d x).Vols l:=λl hl=>by rw[o4]; exact hl.up hx
 have pt:∀(l:List bE),Lk c.Vols l→l.length≤n→∀i∈d.Items,Lk (i6 c d x).Vols (fZ l (kT d.Vol (x.Files+1) i)):=λl hl hn' i hi=>VB (up l hl) (by omega) (hpl i hi) (IR hx hl).2
 have kl:∀y∈(kL d.Vol (x.Files+1) (ws c d.Vol x) d.Items).Chunks,Lk (i6 c d x).Vols y.Locs:=λy hy=>by
  obtain⟨z,hz, -, -, -,e⟩:=IT hu y hy
  have hz:z∈c.Chunks:=hz
  rcases e with e | ⟨i,hi, -, -,e⟩ <;> rw[e]
  ·exact up _ (G.cl z hz)
  ·exact pt _ (G.cl z hz) (B.k z hz) i hi
 have sl:∀y∈(kL d.Vol (x.Files+1) (ws c d.Vol x) d.Items).Snaps,Lk (i6 c d x).Vols y.Locs:=λy hy=>by
  obtain⟨z,hz, -, -,e⟩:=N7 hu y hy
  have hz:z∈c.Snaps:=hz
  rcases e with e | ⟨i,hi, -, -,e⟩ <;> rw[e]
  ·exact up _ (G.sl z hz)
  ·exact pt _ (G.sl z hz) (B.s z hz) i hi
 have eo:(i6 c d x).Exps.Pairwise λy x=>y.Seq < x.Seq:=by
  have:=hWe.eo
  rw[o6] at this
  rw[o2]; exact this
 have wlv:Lv (kL d.Vol (x.Files+1) (ws c d.Vol x) d.Items):=HF (c:=ws c d.Vol x) (by have h1:=IS G; exact h1)
 -- chunks after clearing
 have cl1:∀z∈(kL d.Vol (x.Files+1) (ws c d.Vol x) d.Items).Chunks,(eE x.Pool d.Items z).Locs=z.Locs∧((eE x.Pool d.Items z=z)∨((eE x.Pool d.Items z).Staged=false∧(eE x.Pool d.Items z).Data= []∧z.Locs≠ [])):=λz hz=>by
  have:∀l:List aO,(∀i∈l,i∈d.Items)→(eE x.Pool l z).Locs=z.Locs∧((eE x.Pool l z=z)∨((eE x.Pool l z).Staged=false∧(eE x.Pool l z).Data= []∧z.Locs≠ [])):=n8 (λ_=>⟨rfl,.inl rfl⟩) λl i ih hs=>by
   obtain⟨i1,i2⟩:=ih λj hj=>hs j (List.mem_append_left _ hj)
   have e:eE x.Pool (l++ [i]) z=qO x.Pool i (eE x.Pool l z):=by unfold eE; rw[List.foldl_append]; rfl
   rw[e]
   by_cases hc:x.Pool=0∧i.Kind=1∧(eE x.Pool l z).Id=i.Id
   ·rw[show qO x.Pool i (eE x.Pool l z)= { eE x.Pool l z with Staged:=false,Data:= []} from if_pos hc]
    refine⟨i1,.inr ⟨rfl,rfl,λhn=> ?_⟩⟩
    have:=Q3 d.Items i (hs i (by simp)) hc.2.1 z hz (by rw[← hc.2.2,xC])
    rw[hn] at this
    cases this
   ·rw[show qO x.Pool i (eE x.Pool l z)=eE x.Pool l z from if_neg hc]
    exact⟨i1,i2⟩
  exact this d.Items λ_ h=>h
 have hw1:iY c d x= { kL d.Vol (x.Files+1) (ws c d.Vol x) d.Items with Chunks:=(kL d.Vol (x.Files+1) (ws c d.Vol x) d.Items).Chunks.map (eE x.Pool d.Items)}:=o6 _ _ _ _ _
 have cs1:∀y∈(iY c d x).Chunks,(if y.Staged=true then eY y.Data.length 1 64=true else y.Data= []∧y.Locs≠ [])∧m8 y=true:=λy hy=>by
  rw[hw1] at hy
  obtain⟨z,hz,rfl⟩:=List.mem_map.1 hy
  obtain⟨e1,e2⟩:=cl1 z hz
  rcases e2 with e2 | ⟨e2,e3,e4⟩
  ·rw[e2]
   refine⟨?_,wlv z hz⟩
   obtain⟨w,hw, -,f2,f3,f4⟩:=IT hu z hz
   have:=G.cs w hw
   rw[f2,f3]
   split
   ·rename_i hst; rw[if_pos hst] at this; exact this
   ·rename_i hst
    rw[if_neg hst] at this
    refine⟨this.1, ?_⟩
    rcases f4 with f4 | ⟨i, -, -, -,f4⟩ <;> rw[f4]
    ·exact this.2
    ·intro hn
     have:=lO (l:=w.Locs) (x:=kT d.Vol (x.Files+1) i)
     rw[hn] at this
     simp at this
  ·refine⟨by rw[if_neg (by rw[e2]; decide),e1]; exact⟨e3,e4⟩, ?_⟩
   have:=List.length_pos_iff.2 e4
   unfold m8
   rw[e1]
   simp; omega
 have us:∀y∈(i6 c d x).Chunks,∃w∈(iY c d x).Chunks,y=w∨(y=wX (qP c d x) w∧m8 y=true):=λy hy=>by
  unfold i6 at hy
  split at hy
  ·obtain⟨w,hw,rfl⟩:=List.mem_map.1 hy
   obtain⟨h1,h2⟩:=List.mem_filter.1 hw
   exact⟨w,h1,.inr ⟨rfl,h2⟩⟩
  ·exact⟨y,hy,.inl rfl⟩
 have hqe:c.Seq≤(i6 c d x).Seq∧(i6 c d x).Seq≤n+1:=by
  rw[o1]
  have hq:=B.q
  exact⟨R.q,N9 (by show c.Seq≤_; omega) λi hi k3=>by have:=(W.e i hi k3).2.2; omega⟩
 have esq:∀y∈(i6 c d x).Exps,0≤y.Of∧y.Of < y.Seq∧y.Seq < (i6 c d x).Seq:=λy hy=>by
  have hlt:y.Seq < (i6 c d x).Seq:=by
   have:=(hWe.eq y (by rw[o6]; rw[o2] at hy; exact hy)).2.2
   rw[o6] at this
   rw[o1]; exact this
  rw[o2] at hy
  rcases BA hu y hy with⟨z,hz,e1,e2, -⟩ | ⟨i,hi,k3,rfl⟩
  ·have:=G.eq z hz
   simp only[eY,Bool.and_eq_true,decide_eq_true_eq] at this
   omega
  ·have:=W.e i hi k3
   exact⟨this.1,this.2.1,hlt⟩
 obtain⟨-,⟨fs,hfs,efs⟩, -⟩:=R
 have snm:(i6 c d x).Snaps=((c.Snaps.map fs).filter λs=> !iG d.Items s):=by rw[o3,efs]; rfl
 have sgn:∀s,iG d.Items (fs s)=iG d.Items s:=λs=>by unfold iG; rw[(hfs s).1]
 have smem:∀s∈(i6 c d x).Snaps,∃t∈c.Snaps,s.Seq=t.Seq∧s.Man=t.Man∧iG d.Items s=false:=λs hs=>by
  rw[snm] at hs
  obtain⟨h1,h2⟩:=List.mem_filter.1 hs
  obtain⟨t,ht,rfl⟩:=List.mem_map.1 h1
  exact⟨t,ht,(hfs t).1,(hfs t).2,by simpa using h2⟩
 have spw:∀(P:aH→aH→Prop),(∀a b,P a b→P (fs a) (fs b))→c.Snaps.Pairwise P→(i6 c d x).Snaps.Pairwise P:=λP hP hp=>by
  rw[snm]
  exact(List.pairwise_map.2 (hp.imp fun {a b} h=>hP a b h)).sublist List.filter_sublist
 have cle:(i6 c d x).Chunks.length≤c.Chunks.length∧(i6 c d x).Chunks.Pairwise λy x=>ky y.Id < ky x.Id:=by
  have l1:(iY c d x).Chunks.length=c.Chunks.length:=by
   obtain⟨-, -,g, -,eg⟩:=zD (p:=x.Pool) (v:=d.Vol) (f:=x.Files+1) d.Items (ws c d.Vol x)
   show (w9 x.Pool d.Vol (x.Files+1) (ws c d.Vol x) d.Items).Chunks.length=_
   rw[eg,List.length_map]; rfl
  have p1:(iY c d x).Chunks.Pairwise λy x=>ky y.Id < ky x.Id:=(o0.1 hWe.r).2
  unfold i6
  split
  ·refine⟨?_,List.pairwise_map.2 ((p1.sublist List.filter_sublist).imp fun {a b} hab=>by rw[(gH _ a).2.1,(gH _ b).2.1]; exact hab)⟩
   show (List.map _ _).length≤_
   rw[List.length_map,← l1]
   exact List.length_filter_le _ _
  ·exact⟨by rw[← l1]; exact Nat.le_refl _,p1⟩
 have kfin:∀y∈(i6 c d x).Chunks,∃z∈(kL d.Vol (x.Files+1) (ws c d.Vol x) d.Items).Chunks,y.Id=z.Id∧y.Locs=z.Locs:=N8
 refine⟨{ q:= ?_,v:= ?_,vn:= ?_,cn:=Nat.le_trans cle.1 G.cn,co:=cle.2,cl:= ?_,cs:= ?_,sn:= ?_,so:= ?_,sq:= ?_,sm:= ?_,sb:= ?_,sl:= ?_,sp:= ?_,en:= ?_,eo:=eo,eq:= ?_,el:= ?_,ee:= ?_,ex:= ?_}, ?_⟩
 ·simp only[eY,Bool.and_eq_true,decide_eq_true_eq]; omega
 ·intro v hv
  rw[o4] at hv
  rcases List.mem_or_eq_of_mem_set hv with h1 | rfl
  ·exact G.v v h1
  ·unfold mD eY
   simp only[Bool.and_eq_true,Bool.or_eq_true,decide_eq_true_eq,beq_iff_eq]
   exact⟨hxb.1,.inl ⟨trivial,by omega,by omega⟩⟩
 ·rw[o4,List.length_set]; exact G.vn
 ·intro y hy
  obtain⟨z,hz, -,e⟩:=kfin y hy
  rw[e]; exact kl z hz
 ·intro y hy
  obtain⟨w,hw,e⟩:=us y hy
  obtain⟨c1,c2⟩:=cs1 w hw
  rcases e with rfl | ⟨rfl,e⟩
  ·exact c1
  ·unfold wX at e ⊢
   split
   ·exact c1
   ·rename_i hnu
    rw[if_neg hnu] at e
    simp only[m8,Bool.false_or,decide_eq_true_eq] at e
    rw[if_neg (show ¬(false=true) by decide)]
    refine⟨rfl,λhn=> ?_⟩
    have hn:w.Locs= []:=hn
    rw[hn] at e; simp at e
 ·rw[snm]
  exact Nat.le_trans (List.length_filter_le _ _) (by rw[List.length_map]; exact G.sn)
 ·exact spw _ (λa b h=>by rw[(hfs a).1,(hfs b).1]; exact h) G.so
 ·intro s hs
  obtain⟨t,ht,e, -⟩:=smem s hs
  have:=G.sq t ht
  simp only[eY,Bool.and_eq_true,decide_eq_true_eq] at this ⊢
  omega
 ·exact spw _ (λa b h=>by rw[(hfs a).2,(hfs b).2]; exact h) G.sm
 ·intro s hs
  obtain⟨t,ht, -,e, -⟩:=smem s hs
  rw[e]; exact G.sb t ht
 ·intro s hs
  rw[o3] at hs
  exact sl s (List.mem_filter.1 hs).1
 ·intro s hs
  obtain⟨t,ht, -,e, -⟩:=smem s hs
  have hp:=G.sp t ht
  unfold KC at hp ⊢
  rw[e]
  refine List.all_eq_true.2 λp hp1=>List.all_eq_true.2 λid hid=> ?_
  have h1:=List.all_eq_true.1 (List.all_eq_true.1 hp p hp1) id hid
  have hu1:kU (qP c d x) id=true:=by
   have es:(qP c d x).Snaps=(i6 c d x).Snaps:=by unfold i6; split <;> rfl
   refine List.any_eq_true.2 ⟨s,by rw[es]; exact hs,List.any_eq_true.2 ⟨p,by rw[e]; exact hp1,List.any_eq_true.2 ⟨id,hid,decide_eq_true rfl⟩⟩⟩
  have h2:(iY c d x).Chunks.any (λy=>decide (y.Id=id))=true:=by
   have:=qD (l:=(kL d.Vol (x.Files+1) (ws c d.Vol x) d.Items).Chunks) (f:=eE x.Pool d.Items) (xC x.Pool d.Items) id
   have e9:(iY c d x).Chunks=(kL d.Vol (x.Files+1) (ws c d.Vol x) d.Items).Chunks.map (eE x.Pool d.Items):=by rw[hw1]
   rw[e9]
   refine this.trans ?_
   obtain⟨-, -,g,hg,eg⟩:=zD (p:=1) (v:=d.Vol) (f:=x.Files+1) d.Items (ws c d.Vol x)
   rw[← qL] at eg
   rw[eg,qD λy=>(hg y).1]
   exact h1
  obtain⟨y,hy,ey⟩:=List.any_eq_true.1 h2
  have ey:y.Id=id:=of_decide_eq_true ey
  refine List.any_eq_true.2 ?_
  unfold i6
  split
  ·refine⟨wX (qP c d x) y,List.mem_map.2 ⟨y,List.mem_filter.2 ⟨hy, ?_⟩,rfl⟩,decide_eq_true ((gH _ y).2.1.trans ey)⟩
   unfold wX
   rw[if_pos (by rw[ey]; exact hu1)]
   exact(cs1 y hy).2
  ·exact⟨y,hy,decide_eq_true ey⟩
 ·have:=FD (b:=(i6 c d x).Seq) (a:=0) eo (λy hy=>⟨by have:=esq y hy; omega,(esq y hy).2.2⟩) (by omega)
  omega
 ·intro y hy
  have:=esq y hy
  simp only[eY,Bool.and_eq_true,decide_eq_true_eq]
  omega
 ·intro y hy
  rw[o2] at hy
  rcases BA hu y hy with⟨z,hz, -, -,e⟩ | ⟨i,hi,k3,rfl⟩
  ·have hz:z∈c.Exps:=hz
   rcases e with e | ⟨i,hi, -, -,e⟩ <;> rw[e]
   ·exact up _ (G.el z hz)
   ·exact pt _ (G.el z hz) (B.e z hz) i hi
  ·exact⟨by simp,λy hy=>by rw[List.mem_singleton.1 hy]; exact hpl i hi,List.pairwise_singleton _ _⟩
 ·intro y hy hn
  rw[o2] at hy
  rcases BA hu y hy with⟨z,hz, -, -,e⟩ | ⟨i,hi,k3,rfl⟩
  ·rcases e with e | ⟨i,hi, -, -,e⟩ <;> rw[e] at hn
   ·exact G.ee z hz hn
   ·have:=lO (l:=z.Locs) (x:=kT d.Vol (x.Files+1) i)
    rw[hn] at this
    simp at this
  ·cases hn
 ·intro y hy s hs e
  obtain⟨t,ht,e1, -,e2⟩:=smem s hs
  rw[o2] at hy
  rcases BA hu y hy with⟨z,hz, -,f2, -⟩ | ⟨i,hi,k3,rfl⟩
  ·exact G.ex z hz t ht (by omega)
  ·have:=List.any_eq_false.1 e2 i hi
   have e:s.Seq=i.Of:=e
   simp[k3,e] at this
 ·have pl:∀(l:List bE) (a:bE),l.length≤n→(fZ l a).length≤n+1:=λl a hl=>by rw[lO]; omega
  refine⟨λy hy=> ?_,λy hy=> ?_,λy hy=> ?_,λy hy=> ?_,by have:=hqe.2; omega⟩
  ·obtain⟨w,hw, -,e⟩:=N8 y hy
   obtain⟨z,hz, -, -, -,e2⟩:=IT hu w hw
   rw[e]
   have hz:=B.k z hz
   rcases e2 with e2 | ⟨i, -, -, -,e2⟩ <;> rw[e2]
   ·omega
   ·exact pl _ _ hz
  ·rw[o3] at hy
   obtain⟨z,hz, -, -,e2⟩:=N7 hu y (List.mem_filter.1 hy).1
   have hz:=B.s z hz
   rcases e2 with e2 | ⟨i, -, -, -,e2⟩ <;> rw[e2]
   ·omega
   ·exact pl _ _ hz
  ·rw[o2] at hy
   rcases BA hu y hy with⟨z,hz, -, -,e2⟩ | ⟨i, -, -,rfl⟩
   ·have hz:=B.e z hz
    rcases e2 with e2 | ⟨i, -, -, -,e2⟩ <;> rw[e2]
    ·omega
    ·exact pl _ _ hz
   ·simp
  ·rw[o4] at hy
   rcases List.mem_or_eq_of_mem_set hy with h1 | rfl
   ·have:=B.f y h1; omega
   ·simp only; omega
end Go.Proofs.YtbbifdfldpfphaaGreat
