import Derived.Test.YtbbifdfldpfphaaGreatK4P7
import Derived.Test.YtbbifdfldpfphaaGreatK4P8
import Derived.Test.YtbbifdfldpfphaaGreatK4P3
import Derived.Test.YtbbifdfldpfphaaGreatK4P5
import Derived.Test.YtbbifdfldpfphaaGreatK4P4
import Derived.Test.YtbbifdfldpfphaaGreatK4P10
import Derived.Test.YtbbifdfldpfphaaGreatK4P9
set_option linter.unusedSimpArgs false
set_option linter.unusedVariables false
set_option maxHeartbeats 4000000
set_option maxRecDepth 100000
namespace Go.Proofs.YtbbifdfldpfphaaGreat
open Go.Vm
def zY (m:Nat) (p0:List Int) (p1:Int) (p2:Int):Option ((List Int)):=
 (IG m [] p1 p2).bind λy3=>(app p0 y3.1).bind λz0=>some z0
theorem DV {w:Nat} {p0:List Int} {p1:Int} {p2:Int} {o:(List Int)} (h:aF) {t_p0:Option cE} (ot_p0:t_p0=none→p0= []) (K0:bV h [(t_p0,.tok 5 1 ((p0:List Int).length*1))]) (m:zY w p0 p1 p2=some o):
 aL Tryz.prog 95 [ow t_p0 1 (List.map dF p0),nZ p1,nZ p2] (hp h [(t_p0,.tok 5 1 ((p0:List Int).length*1))]) (λr h'=>∃t,(t=none→o= [])∧bV h [(t,.tok 5 1 (o.length*1))]∧r=ow t 1 (List.map dF o)∧h'=hp h [(t,.tok 5 1 (o.length*1))]):=by
 refine uE K0 18 [.tmp 6] Tryz.func95 rfl rfl rfl rfl ?_
 unfold zY at m
 refine v (v ?_)
 obtain⟨_,Y4,m⟩:=aC m
 refine ve λu=>cM (uP (.cons (aY _) (.k2 .nil)) (R4 _ Y4)) rfl R5 rfl ?_
 rintro x h' ⟨tg5,t6,K7,rfl,rfl⟩
 refine qk (bV.co u K7) (iV _ _ _) (v ?_)
 obtain⟨z0,Z0,m⟩:=aC m
 refine ve λu=>fE (c:=dF) 1 Z0 jJ rfl rfl rfl ot_p0 u (nU t6) λtg0 t0 K1=>qk K1 rfl (v ?_)
 obtain rfl:=eE m
 exact vr λu=>dX.one (.inl rfl) (aS (.cons _ (.cons_cons _ (List.nil_sublist _))) u).1 (bJ.refl _ _) ⟨tg0,t0,(aS (.cons _ (.cons_cons _ (List.nil_sublist _))) u).2,rfl,rfl⟩
theorem DW:aN Tryz.prog 95=true:=by kernel_rfl
def AQ (m:Nat) (p0:Int) (p1:Int):Option (Bool):=
 after (if (decide (0≤p0))=true then (some (.brk (decide (p0≤p1)))) else some (.brk false):Option (Lp (Bool) (Bool))) λj4=>some j4
theorem FQ {u:Nat} {p0:Int} {p1:Int} {o:Bool} (h:aF) (m:AQ u p0 p1=some o):
 aL Tryz.prog 161 [nZ p0,nZ p1] h (λr h'=>r= .sc (.bool o)∧h'=h):=by
 refine fQ 12 [.tmp 4] Tryz.func161 rfl rfl rfl rfl ?_
 unfold AQ at m
 refine v (vs (fL m (σ:=Bool) (λs=> []) (λs=>.c 4 (.sc (.bool s)) .nil) (λx m=> ?_) ?_))
 refine v ?_
 apply vi m <;> intro b5 m
 rw[b5]
 exact iZ m
 rw[b5]
 exact iZ m
 rintro _ j4 m
 refine v ?_
 obtain rfl:=eE m
 exact dU rfl
theorem v8:aN Tryz.prog 161=true:=by kernel_rfl
def U7 (m:Nat) (p0:aU):Option (Bool):=
 after ((AQ m p0.Seq 4294967295).bind λy0=>if (!y0)=true then (some (.brk true)) else (AQ m p0.Of 4294967295).bind λy1=>if (!y1)=true then (some (.brk true)) else (AQ m p0.Off 16777215).bind λy2=>if (!y2)=true then (some (.brk true)) else (AQ m p0.Len 65535).bind λy3=>some (.brk (!y3)):Option (Lp (Bool) (Bool))) λj0=>if j0=true then (some false) else if (p0.Kind==1)=true then (after (if (p0.Seq==0)=true then (some (.brk (p0.Of==0))) else some (.brk false):Option (Lp (Bool) (Bool))) λj1=>some j1) else if (p0.Kind==2)=true then (after (if (decide (p0.Id=kG))=true then (some (.brk (p0.Of==0))) else some (.brk false):Option (Lp (Bool) (Bool))) λj2=>some j2) else after (if (p0.Kind==3)=true then (some (.brk (decide (p0.Id=kG)))) else some (.brk false):Option (Lp (Bool) (Bool))) λj3=>some j3
theorem aGX {u:Nat} {p0:aU} {o:Bool} (h:aF) (m:U7 u p0=some o):
 aL Tryz.prog 163 [.agg (a8 p0)] h (λr h'=>r= .sc (.bool o)∧h'=h):=by
 refine fQ 57 [.tmp 2] Tryz.func163 rfl rfl rfl rfl ?_
 unfold U7 at m
 refine v (gO rfl rfl λk2 K3=>vs (vs (fL m (σ:=Bool) (λs=> [(some k2,.obj 38 (a8 p0))]) (λs=>.c 1 (.ptr k2 0) (.c 24 (.sc (.bool s)) .nil)) (λx m=> ?_) ?_)))
 refine v (vl 0 _ bZ rfl rfl rfl (vk FQ v8 m rfl rfl λ_ m=> ?_))
 apply vi m <;> intro b0 m
 rw[b0]
 exact rC m
 rw[b0]
 refine vl 0 _ bZ rfl rfl rfl (vk FQ v8 m rfl rfl λ_ m=> ?_)
 apply vi m <;> intro b1 m
 rw[b1]
 exact rC m
 rw[b1]
 refine vl 0 _ bZ rfl rfl rfl (vk FQ v8 m rfl rfl λ_ m=> ?_)
 apply vi m <;> intro b2 m
 rw[b2]
 exact rC m
 rw[b2]
 exact vl 0 _ bZ rfl rfl rfl (vk FQ v8 m rfl rfl λ_ m=>rC m)
 rintro _ j0 m
 refine v ?_
 apply vi m <;> intro c0 m
 refine v (v ?_)
 obtain rfl:=eE m
 exact dU rfl
 refine v (v (vl 0 _ bZ rfl rfl rfl (v (v (v ?_)))))
 apply vi m <;> intro c1 m
 refine vs (fL m (σ:=Bool) (λs=> [(some k2,.obj 38 (a8 p0))]) (λs=>.c 2 (.sc (.bool s)) .nil) (λx m=> ?_) ?_)
 refine v (vl 0 _ bZ rfl rfl rfl ?_)
 apply vi m <;> intro b3 m
 rw[b3]
 exact vl 0 _ bZ rfl rfl rfl (iZ m)
 rw[b3]
 exact iZ m
 rintro _ j1 m
 refine v ?_
 obtain rfl:=eE m
 exact dU rfl
 refine v (v ?_)
 apply vi m <;> intro c2 m
 refine vs (fL m (σ:=Bool) (λs=> [(some k2,.obj 38 (a8 p0))]) (λs=>.c 2 (.sc (.bool s)) .nil) (λx m=> ?_) ?_)
 refine v (vl 0 (.agg (bL p0.Id)) fR rfl rfl rfl (bW (GL (bL kG) (show xX Tryz.prog 36=some (List.replicate 32 (.int .u8 0),(List.range 32).map λi=>(i,1)) from by kernel_rfl) rfl) (bW (vS CP P3 u5 D0 rfl rfl) ?_)))
 apply vi m <;> intro b4 m
 rw[b4]
 exact vl 0 _ bZ rfl rfl rfl (iZ m)
 rw[b4]
 exact iZ m
 rintro _ j2 m
 refine v ?_
 obtain rfl:=eE m
 exact dU rfl
 refine v (vs (fL m (σ:=Bool) (λs=> [(some k2,.obj 38 (a8 p0))]) (λs=>.c 2 (.sc (.bool s)) .nil) (λx m=> ?_) ?_))
 refine v (vl 0 _ bZ rfl rfl rfl ?_)
 apply vi m <;> intro b5 m
 rw[b5]
 exact vl 0 (.agg (bL p0.Id)) fR rfl rfl rfl (bW (GL (bL kG) (show xX Tryz.prog 36=some (List.replicate 32 (.int .u8 0),(List.range 32).map λi=>(i,1)) from by kernel_rfl) rfl) (bW (vS CP P3 u5 D0 rfl rfl) (iZ m)))
 rw[b5]
 exact iZ m
 rintro _ j3 m
 refine v ?_
 obtain rfl:=eE m
 exact dU rfl
theorem aBG:aN Tryz.prog 163=true:=by kernel_rfl
def U8 (m:Nat) (p0:aU):Option (Bool):=
 (U7 m p0).bind λy6=>some (!y6)
theorem aGY {u:Nat} {p0:aU} {o:Bool} (h:aF) (m:U8 u p0=some o):
 aL Tryz.prog 162 [.agg (a8 p0)] h (λr h'=>r= .sc (.bool o)∧h'=h):=by
 refine fQ 6 [.tmp 2] Tryz.func162 rfl rfl rfl rfl ?_
 unfold U8 at m
 refine v (gO rfl rfl λk2 K3=>v (vl 0 (.agg (a8 p0)) GV rfl rfl rfl (vk aGX aBG m rfl rfl λ_ m=>v ?_)))
 cases m
 exact dU rfl
theorem aBH:aN Tryz.prog 162=true:=by kernel_rfl
def U9 (m:Nat) (p0:aR):Option (Bool):=
 after (if (p0.Snap.Seq==0)=true then (if (p0.Snap.Man.Name.toList==(ByteArray.mk #[]).toList)=true then (some (.brk ((IntKind.wrap .i64 ((p0.Snap.Man.Parts.length:Int)+(p0.Snap.Locs.length:Int)))==0))) else some (.brk false)) else some (.brk false):Option (Lp (Bool) (Bool))) λj8=>if (p0.Kind==1)=true then (after (if (p0.Seq==0)=true then (if (p0.Vol==0)=true then (some (.brk ((p0.Items.length:Int)==0))) else some (.brk false)) else some (.brk false):Option (Lp (Bool) (Bool))) λj0=>some j0) else if (p0.Kind==2)=true then (after (if j8=true then (if ((p0.Chunks.length:Int)==0)=true then (if (p0.Vol==0)=true then (some (.brk ((p0.Items.length:Int)==0))) else some (.brk false)) else some (.brk false)) else some (.brk false):Option (Lp (Bool) (Bool))) λj1=>some j1) else if (p0.Kind==3)=true then (after (if j8=true then (if ((p0.Chunks.length:Int)==0)=true then (some (.brk (p0.Seq==0))) else some (.brk false)) else some (.brk false):Option (Lp (Bool) (Bool))) λj2=>some j2) else after (if j8=true then (if ((p0.Chunks.length:Int)==0)=true then (if (p0.Seq==0)=true then (some (.brk ((p0.Items.length:Int)==0))) else some (.brk false)) else some (.brk false)) else some (.brk false):Option (Lp (Bool) (Bool))) λj3=>some j3
theorem aGZ {u:Nat} {p0:aR} {o:Bool} (h:aF) (m:U9 u p0=some o):
 aL Tryz.prog 158 [.agg (aD p0)] h (λr h'=>r= .sc (.bool o)∧h'=h):=by
 refine fQ 98 [.tmp 2] Tryz.func158 rfl rfl rfl rfl ?_
 unfold U9 at m
 refine v (gO rfl rfl λk2 K3=>vs (fL m (σ:=Bool) (λs=> [(some k2,.obj 62 (aD p0))]) (λs=>.c 1 (.ptr k2 0) (.c 3 (.sc (.bool s)) .nil)) (λx m=> ?_) ?_))
 refine v (vl 0 _ bZ rfl rfl rfl ?_)
 apply vi m <;> intro b9 m
 rw[b9]
 refine vl 0 _ uF rfl rfl rfl (bW (wE rfl rfl rfl trivial) ?_)
 apply vi m <;> intro b0 m
 rw[b0]
 exact vl 0 _ lB rfl rfl rfl (dE qN rfl (vl 0 _ eZ rfl rfl rfl (dE i9 rfl (rC m))))
 rw[b0]
 exact rC m
 rw[b9]
 exact rC m
 rintro _ j8 m
 refine v (vl 0 _ bZ rfl rfl rfl (v (v (v ?_))))
 apply vi m <;> intro c0 m
 refine vs (fL m (σ:=Bool) (λs=> [(some k2,.obj 62 (aD p0))]) (λs=>.c 2 (.sc (.bool s)) .nil) (λx m=> ?_) ?_)
 refine v (vl 0 _ bZ rfl rfl rfl ?_)
 apply vi m <;> intro b1 m
 rw[b1]
 refine vl 0 _ bZ rfl rfl rfl ?_
 apply vi m <;> intro b2 m
 rw[b2]
 exact vl 0 _ kZ rfl rfl rfl (dE pB rfl (iZ m))
 rw[b2]
 exact iZ m
 rw[b1]
 exact iZ m
 rintro _ j0 m
 refine v ?_
 obtain rfl:=eE m
 exact dU rfl
 refine v (v ?_)
 apply vi m <;> intro c1 m
 refine vs (fL m (σ:=Bool) (λs=> [(some k2,.obj 62 (aD p0))]) (λs=>.c 2 (.sc (.bool s)) .nil) (λx m=> ?_) ?_)
 refine v ?_
 apply vi m <;> intro b3 m
 rw[b3]
 refine vl 0 _ eU rfl rfl rfl (dE iX rfl ?_)
 apply vi m <;> intro b4 m
 rw[b4]
 refine vl 0 _ bZ rfl rfl rfl ?_
 apply vi m <;> intro b5 m
 rw[b5]
 exact vl 0 _ kZ rfl rfl rfl (dE pB rfl (iZ m))
 rw[b5]
 exact iZ m
 rw[b4]
 exact iZ m
 rw[b3]
 exact iZ m
 rintro _ j1 m
 refine v ?_
 obtain rfl:=eE m
 exact dU rfl
 refine v (v ?_)
 apply vi m <;> intro c2 m
 refine vs (fL m (σ:=Bool) (λs=> [(some k2,.obj 62 (aD p0))]) (λs=>.c 2 (.sc (.bool s)) .nil) (λx m=> ?_) ?_)
 refine v ?_
 apply vi m <;> intro b6 m
 rw[b6]
 refine vl 0 _ eU rfl rfl rfl (dE iX rfl ?_)
 apply vi m <;> intro b7 m
 rw[b7]
 exact vl 0 _ bZ rfl rfl rfl (iZ m)
 rw[b7]
 exact iZ m
 rw[b6]
 exact iZ m
 rintro _ j2 m
 refine v ?_
 obtain rfl:=eE m
 exact dU rfl
 refine v (vs (fL m (σ:=Bool) (λs=> [(some k2,.obj 62 (aD p0))]) (λs=>.c 2 (.sc (.bool s)) .nil) (λx m=> ?_) ?_))
 refine v ?_
 apply vi m <;> intro b8 m
 rw[b8]
 refine vl 0 _ eU rfl rfl rfl (dE iX rfl ?_)
 apply vi m <;> intro b49 m
 rw[b49]
 refine vl 0 _ bZ rfl rfl rfl ?_
 apply vi m <;> intro b50 m
 rw[b50]
 exact vl 0 _ kZ rfl rfl rfl (dE pB rfl (iZ m))
 rw[b50]
 exact iZ m
 rw[b49]
 exact iZ m
 rw[b8]
 exact iZ m
 rintro _ j3 m
 refine v ?_
 obtain rfl:=eE m
 exact dU rfl
theorem aBI:aN Tryz.prog 158=true:=by kernel_rfl
def VA (m:Nat) (p0:aB):Option (Bool):=
 some (decide (255 < (p0.Data.length:Int)))
theorem aG0 {u:Nat} {p0:aB} {o:Bool} (h:aF) (m:VA u p0=some o):
 aL Tryz.prog 160 [.agg (aJ p0)] h (λr h'=>r= .sc (.bool o)∧h'=h):=by
 refine fQ 7 [.tmp 2] Tryz.func160 rfl rfl rfl rfl ?_
 unfold VA at m
 refine v (gO rfl rfl λk2 K3=>v (vl 0 _ lR rfl rfl rfl (dE kU rfl (v ?_))))
 cases m
 exact dU rfl
theorem aBJ:aN Tryz.prog 160=true:=by kernel_rfl
def M94 (m:Nat) (p0:aR):Option (Bool):=
 (U9 m p0).bind λy7=>if (!y7)=true then (some false) else if (p0.Kind==1)=true then ((NL m p0.Chunks (λx0=>VA m x0)).bind λy0=>after ((AQ m p0.Snap.Seq 4294967295).bind λy1=>if y1=true then (if ((p0.Snap.Locs.length:Int)==0)=true then ((ET m p0.Snap.Man).bind λy2=>if (y2==0)=true then (if (decide ((p0.Chunks.length:Int)≤65535))=true then ((KF m p0.Chunks).bind λy3=>if y3=true then (some (.brk (!y0))) else some (.brk false)) else some (.brk false)) else some (.brk false)) else some (.brk false)) else some (.brk false):Option (Lp (Bool) (Bool))) λj0=>some j0) else if (p0.Kind==2)=true then ((AQ m p0.Seq 4294967295).bind λy4=>some y4) else if (p0.Kind==3)=true then (after ((AQ m p0.Vol 255).bind λy5=>if y5=true then (if (decide ((p0.Items.length:Int)≤255))=true then ((KD m p0.Items (λx0=>U8 m x0)).bind λy6=>some (.brk (!y6))) else some (.brk false)) else some (.brk false):Option (Lp (Bool) (Bool))) λj1=>some j1) else after (if (p0.Kind==4)=true then (some (.brk (p0.Kind==4))) else some (.brk (p0.Kind==5)):Option (Lp (Bool) (Bool))) λj2=>if j2=true then ((AQ m p0.Vol 255).bind λy8=>some y8) else some false
theorem W94 {u:Nat} {p0:aR} {o:Bool} (h:aF) (m:M94 u p0=some o):
 aL Tryz.prog 94 [.agg (aD p0)] h (λr h'=>r= .sc (.bool o)∧h'=h):=by
 refine fQ 75 [.tmp 2] Tryz.func94 rfl rfl rfl rfl ?_
 unfold M94 at m
 refine v (gO rfl rfl λk2 K3=>v (vl 0 (.agg (aD p0)) oK rfl rfl rfl (vk aGZ aBI m rfl rfl λ_ m=>v ?_)))
 apply vi m <;> intro c9 m
 refine v (v ?_)
 obtain rfl:=eE m
 exact dU rfl
 refine v (v (vl 0 _ bZ rfl rfl rfl (v (v (v ?_)))))
 apply vi m <;> intro c0 m
 refine v (vl 0 _ eU rfl rfl rfl ?_)
 obtain⟨_,Y0,m⟩:=aC m
 refine bW (cC (aAE _ aBJ (λx0 o h0 hs ho=>aG0 _ ho) Y0) rfl SJ rfl) (vs (fL m (σ:=Bool) (λs=> [(some k2,.obj 62 (aD p0))]) (λs=>.c 2 (.sc (.bool s)) .nil) (λx m=> ?_) ?_))
 refine v (vl 0 _ bZ rfl rfl rfl (vk FQ v8 m rfl rfl λ_ m=> ?_))
 apply vi m <;> intro b0 m
 rw[b0]
 refine vl 0 _ eZ rfl rfl rfl (dE i9 rfl ?_)
 apply vi m <;> intro b1 m
 rw[b1]
 refine vl 0 (.agg (aX p0.Snap.Man)) m6 rfl rfl rfl (vk P7 IE m rfl rfl λ_ m=> ?_)
 apply vi m <;> intro b2 m
 rw[b2]
 refine vl 0 _ eU rfl rfl rfl (dE iX rfl ?_)
 apply vi m <;> intro b3 m
 rw[b3]
 refine vl 0 _ eU rfl rfl rfl (vk aAF SK m rfl rfl λ_ m=> ?_)
 apply vi m <;> intro b4 m
 rw[b4]
 exact iZ m
 rw[b4]
 exact iZ m
 rw[b3]
 exact iZ m
 rw[b2]
 exact iZ m
 rw[b1]
 exact iZ m
 rw[b0]
 exact iZ m
 rintro _ j0 m
 refine v ?_
 obtain rfl:=eE m
 exact dU rfl
 refine v (v ?_)
 apply vi m <;> intro c1 m
 refine v (vl 0 _ bZ rfl rfl rfl (vk FQ v8 m rfl rfl λ_ m=>v ?_))
 obtain rfl:=eE m
 exact dU rfl
 refine v (v ?_)
 apply vi m <;> intro c2 m
 refine vs (fL m (σ:=Bool) (λs=> [(some k2,.obj 62 (aD p0))]) (λs=>.c 2 (.sc (.bool s)) .nil) (λx m=> ?_) ?_)
 refine v (vl 0 _ bZ rfl rfl rfl (vk FQ v8 m rfl rfl λ_ m=> ?_))
 apply vi m <;> intro b5 m
 rw[b5]
 refine vl 0 _ kZ rfl rfl rfl (dE pB rfl ?_)
 apply vi m <;> intro b6 m
 rw[b6]
 refine vl 0 _ kZ rfl rfl rfl ?_
 obtain⟨_,Y1,m⟩:=aC m
 exact bW (cC (ZP _ aBH (λx0 o h0 hs ho=>aGY _ ho) Y1) rfl SH rfl) (iZ m)
 rw[b6]
 exact iZ m
 rw[b5]
 exact iZ m
 rintro _ j1 m
 refine v ?_
 obtain rfl:=eE m
 exact dU rfl
 refine v (fL m (σ:=Bool) (λs=> [(some k2,.obj 62 (aD p0))]) (λs=>.c 1 (.ptr k2 0) (.c 69 (.sc (.bool s)) .nil)) (λx m=> ?_) ?_)
 refine v ?_
 apply vi m <;> intro c3 m
 exact v (rC m)
 exact v (rC m)
 rintro _ j2 m
 refine v ?_
 apply vi m <;> intro c4 m
 refine v (vl 0 _ bZ rfl rfl rfl (vk FQ v8 m rfl rfl λ_ m=>v ?_))
 obtain rfl:=eE m
 exact dU rfl
 refine v (v (v ?_))
 obtain rfl:=eE m
 exact dU rfl
theorem aG2:aN Tryz.prog 94=true:=by kernel_rfl
def HS (m:Nat) (p0:aR) (q0:List Int) (q1:Int):Option (Lp ((List Int)×Int) (Lp ((List Int)) ((List Int)×Int))):=
 if (decide (q1 < (p0.Chunks.length:Int)))=true then ((ix p0.Chunks q1).bind λx0=>(app q0 x0.Id.1).bind λz0=>(zY m z0 (x0.Data.length:Int) 1).bind λy0=>(app y0 x0.Data).bind λz1=>some (.go (z1,IntKind.wrap .i64 (q1+1)))) else some (.brk (q0,q1))
def HT (m:Nat) (p0:aR) (q0:List Int) (q1:Int):Option (Lp ((List Int)×Int) (Lp ((List Int)) (Lp ((List Int)) (Lp ((List Int)) ((List Int)×Int))))):=
 if (decide (q1 < (p0.Items.length:Int)))=true then ((ix p0.Items q1).bind λx0=>(app q0 ([IntKind.wrap .u8 x0.Kind]:List Int)).bind λz0=>(app z0 x0.Id.1).bind λz1=>(zY m z1 x0.Seq 4).bind λy0=>(zY m y0 x0.Of 4).bind λy1=>(zY m y1 x0.Off 3).bind λy2=>(zY m y2 x0.Len 2).bind λy3=>some (.go (y3,IntKind.wrap .i64 (q1+1)))) else some (.brk (q0,q1))
def M40 (m:Nat) (p0:aR):Option ((List Int)×Int):=
 (M94 m p0).bind λy7=>if (!y7)=true then (some ([],1)) else after (if (p0.Kind==1)=true then ((M42 m p0.Snap.Man).bind λy0=>(zY m ([IntKind.wrap .u8 p0.Kind]:List Int) p0.Snap.Seq 4).bind λy1=>(zY m y1 (y0.1.length:Int) 4).bind λy2=>(app y2 y0.1).bind λz0=>(zY m z0 (p0.Chunks.length:Int) 2).bind λy3=>after (aT (λs=>HS m p0 s.1 s.2) m (y3,0)) λ⟨r0,r1⟩=>some (.brk r0)) else after (if (p0.Kind==2)=true then ((zY m ([IntKind.wrap .u8 p0.Kind]:List Int) p0.Seq 4).bind λy4=>some (.brk y4)) else after (if (p0.Kind==3)=true then ((app ([IntKind.wrap .u8 p0.Kind]:List Int) ([IntKind.wrap .u8 p0.Vol,IntKind.wrap .u8 (p0.Items.length:Int)]:List Int)).bind λz1=>after (aT (λs=>HT m p0 s.1 s.2) m (z1,0)) λ⟨r2,r3⟩=>some (.brk r2)) else (app ([IntKind.wrap .u8 p0.Kind]:List Int) ([IntKind.wrap .u8 p0.Vol]:List Int)).bind λz2=>some (.brk z2):Option (Lp ((List Int)) (Lp ((List Int)) (Lp ((List Int)) ((List Int)×Int))))) λj0=>some (.brk j0):Option (Lp ((List Int)) (Lp ((List Int)) ((List Int)×Int)))) λj1=>some (.brk j1):Option (Lp ((List Int)) ((List Int)×Int))) λj2=>(R0 m j2).bind λy5=>some (y5,0)
theorem W40 {w:Nat} {p0:aR} {o:(List Int)×Int} (h:aF) (m:M40 w p0=some o):
 aL Tryz.prog 40 [.agg (aD p0)] h (λr h'=>r= .tup [.sl none 1 (List.map dF o.1),nZ o.2]∧h'=h):=by
 refine fQ 120 [.tmp 2,.tmp 3] Tryz.func40 rfl rfl rfl rfl ?_
 unfold M40 at m
 refine v (gO rfl rfl λk2 K3=>v (vl 0 (.agg (aD p0)) oK rfl rfl rfl (vk W94 aG2 m rfl rfl λ_ m=>v ?_)))
 apply vi m <;> intro c9 m
 refine v (v ?_)
 cases m
 exact vr λu=>dX.of2 (.inl rfl) (fT _ _ (.sc (.slice _ _ _)) rfl) (fT _ _ (.sc (.int _ _)) rfl) (aS (List.nil_sublist _) u).1 (aY _) (bJ.refl _ _) ⟨rfl,rfl⟩
 refine v (v (vl 0 _ bZ rfl rfl rfl (ve λu=>GC (c:=dF) ([IntKind.wrap .u8 p0.Kind]:List Int) u jJ rfl rfl rfl rfl λtg0 t0 K0=>qk K0 rfl (v (vl 1 _ bZ rfl rfl rfl (v (v (pJ m (σ:=(List Int)) (τ:=Option cE) (λg s=> [(g,.tok 5 1 ((s:List Int).length*1)),(some k2,.obj 62 (aD p0))]) (λg s=>(g=none→s= [])) (λg s=>.c 4 (ow g 1 (List.map dF s)) .nil) (λx m=> ?_) ?_))))))))
 refine v ?_
 apply vi m <;> intro c0 m
 refine v (vl 1 (.agg (aX p0.Snap.Man)) m6 rfl rfl rfl (vk W42 aDR m rfl rfl λ_ m=>v (vl 1 _ bZ rfl rfl rfl ?_)))
 obtain⟨y0,Y0,m⟩:=aC m
 refine ve λu=> ?_
 have ho0:=mB (A:= [(tg0,.tok 5 1 ((([IntKind.wrap .u8 p0.Kind]:List Int):List Int).length*1))]) (R:= [(some k2,.obj 62 (aD p0))]) u [[_], [_]] rfl [0] [1] rfl rfl rfl
 refine dC ho0.1 (cM (DV _ t0 ho0.2.2 Y0) rfl DW rfl ?_)
 rintro x h' ⟨tg1,t1,K1,rfl,rfl⟩
 have K2:=mC (L':= [(tg1,.tok 5 1 ((y0:List Int).length*1)),(some k2,.obj 62 (aD p0))]) ho0.2.1 K1 [[_]] [[_]] rfl rfl [0,1] rfl rfl
 refine qk K2.2 K2.1 (dE kU rfl ?_)
 obtain⟨y1,Y1,m⟩:=aC m
 refine ve λu=> ?_
 have ho1:=mB (A:= [(tg1,.tok 5 1 ((y0:List Int).length*1))]) (R:= [(some k2,.obj 62 (aD p0))]) u [[_], [_]] rfl [0] [1] rfl rfl rfl
 refine dC ho1.1 (cM (DV _ t1 ho1.2.2 Y1) rfl DW rfl ?_)
 rintro x h' ⟨tg2,t2,K4,rfl,rfl⟩
 have K5:=mC (L':= [(tg2,.tok 5 1 ((y1:List Int).length*1)),(some k2,.obj 62 (aD p0))]) ho1.2.1 K4 [[_]] [[_]] rfl rfl [0,1] rfl rfl
 refine qk K5.2 K5.1 ?_
 obtain⟨z0,Z0,m⟩:=aC m
 refine ve λu=>fE (c:=dF) 0 Z0 jJ rfl rfl rfl t2 u rfl λtg3 t3 K6=>qk K6 rfl (v (vl 1 _ eU rfl rfl rfl (dE iX rfl ?_)))
 obtain⟨y2,Y2,m⟩:=aC m
 refine ve λu=> ?_
 have ho2:=mB (A:= [(tg3,.tok 5 1 ((z0:List Int).length*1))]) (R:= [(some k2,.obj 62 (aD p0))]) u [[_], [_]] rfl [0] [1] rfl rfl rfl
 refine dC ho2.1 (cM (DV _ t3 ho2.2.2 Y2) rfl DW rfl ?_)
 rintro x h' ⟨tg4,t4,K7,rfl,rfl⟩
 have K8:=mC (L':= [(tg4,.tok 5 1 ((y2:List Int).length*1)),(some k2,.obj 62 (aD p0))]) ho2.2.1 K7 [[_]] [[_]] rfl rfl [0,1] rfl rfl
 refine qk K8.2 K8.1 (v (vl 1 _ eU rfl rfl rfl (dE iX rfl (nP m (σ:=(List Int)×Int) (τ:=Option cE) (λg s=> [(g,.tok 5 1 ((s.1:List Int).length*1)),(some k2,.obj 62 (aD p0))]) (λg s=>(g=none→s.1= [])) (λg s=>.c 4 (ow g 1 (List.map dF s.1)) (.c 51 (.sl none 35 (List.map aJ p0.Chunks)) (.c 52 (nZ (p0.Chunks.length:Int)) (.c 53 (nZ s.2) .nil)))) tg4 t4 (lx (.k4 .nil)) ?_ ?_))))
 rintro tg5 ⟨q0,q1⟩ x t5 m
 replace m:HS w p0 q0 q1=some x:=m
 unfold HS at m
 refine v (v ?_)
 apply vi m <;> intro c1 m
 refine v (v (v (vx m fJ rfl rfl λx0 _ m=>va (.agg (aJ x0)) lZ rfl rfl (ve λu=>bH (bL kG++(KT:List AV)) u nR rfl rfl λk1507 K9=>qk K9 rfl (ve λu=>aK 0 (aJ x0) u rfl rfl rfl rfl xY rfl rfl λK10=>qk K10 rfl (v (bW (EK sJ rfl) ?_)))))))
 obtain⟨z1,Z1,m⟩:=aC m
 refine ve λu=>fE (c:=dF) 1 Z1 jJ rfl rfl rfl t5 u (xS (bC 0 u rfl) rfl rfl) λtg6 t6 K11=>qk K11 rfl (v (vz [(1000000,some k1507,.obj 44 (aJ x0))] mixed (λu=>⟨λ_=>aI 0 u rfl,trivial⟩) λu=>zC 0 rfl (eS (ow _ _ _) rfl) (zF 1 rfl jR rfl (zL 2 0 (.sl none 1 (List.map dF x0.Data)) rfl lR rfl rfl rfl (zC 3 rfl (uR kU rfl) (zF 5 rfl jR rfl (zL 6 0 (.sl none 1 (List.map dF x0.Data)) rfl lR rfl rfl rfl ?_)))))))
 obtain⟨y3,Y3,m⟩:=aC m
 refine zE 4 rfl ?_
 have ho3:=mB (A:= [(tg6,.tok 5 1 ((z1:List Int).length*1))]) (R:= [(some k1507,.obj 44 (aJ x0)),(some k2,.obj 62 (aD p0))]) u [[_], [_], [_]] rfl [1] [0,2] rfl rfl rfl
 refine dC ho3.1 (cM (DV _ t6 ho3.2.2 Y3) rfl DW rfl ?_)
 rintro x h' ⟨tg7,t7,K12,rfl,rfl⟩
 have K13:=mC (L':= [(some k1507,.obj 44 (aJ x0)),(tg7,.tok 5 1 ((y3:List Int).length*1)),(some k2,.obj 62 (aD p0))]) ho3.2.1 K12 [[_]] [[_], [_]] rfl rfl [1,0,2] rfl rfl
 refine kT K13.1 (⟨⟨λ_=>aI 0 K13.2 rfl,trivial⟩, ?_⟩)
 obtain⟨z2,Z2,m⟩:=aC m
 refine zE 7 rfl (fE (c:=dF) 1 Z2 jJ rfl rfl rfl t7 K13.2 rfl λtg8 t8 K15=>⟨⟨λ_=>aI 0 K15 rfl,trivial⟩, ?_⟩)
 exact zC 8 rfl (iI (ow _ _ _) rfl) (zX (qk (f:=.c 4 _ (.c 68 _ (.c 65 _ (.c 67 _ (.c 66 _ (PU 64 _ _ _ _ _)))))) K15 rfl (v (eW m tg8 t8 (lJ [1,2] rfl rfl (.k4 .nil))))))
 exact v (lK m tg5 t5 (lx (.k4 .nil)))
 rintro tg9 ⟨r0,r1⟩ t9 m
 exact eW m tg9 t9 (lx (.cons (bJ.refl _ _) .nil))
 refine v (pJ m (σ:=(List Int)) (τ:=Option cE) (λg s=> [(g,.tok 5 1 ((s:List Int).length*1)),(some k2,.obj 62 (aD p0))]) (λg s=>(g=none→s= [])) (λg s=>.c 4 (ow g 1 (List.map dF s)) .nil) (λx m=> ?_) ?_)
 refine v ?_
 apply vi m <;> intro c2 m
 refine v (vl 1 _ bZ rfl rfl rfl ?_)
 obtain⟨y4,Y4,m⟩:=aC m
 refine ve λu=> ?_
 have ho4:=mB (A:= [(tg0,.tok 5 1 ((([IntKind.wrap .u8 p0.Kind]:List Int):List Int).length*1))]) (R:= [(some k2,.obj 62 (aD p0))]) u [[_], [_]] rfl [0] [1] rfl rfl rfl
 refine dC ho4.1 (cM (DV _ t0 ho4.2.2 Y4) rfl DW rfl ?_)
 rintro x h' ⟨tg10,t10,K16,rfl,rfl⟩
 have K17:=mC (L':= [(tg10,.tok 5 1 ((y4:List Int).length*1)),(some k2,.obj 62 (aD p0))]) ho4.2.1 K16 [[_]] [[_]] rfl rfl [0,1] rfl rfl
 exact qk K17.2 K17.1 (eW m tg10 t10 (lx (.cons (bJ.refl _ _) .nil)))
 refine v (pJ m (σ:=(List Int)) (τ:=Option cE) (λg s=> [(g,.tok 5 1 ((s:List Int).length*1)),(some k2,.obj 62 (aD p0))]) (λg s=>(g=none→s= [])) (λg s=>.c 4 (ow g 1 (List.map dF s)) .nil) (λx m=> ?_) ?_)
 refine v ?_
 apply vi m <;> intro c3 m
 refine v (vl 1 _ bZ rfl rfl rfl (vl 1 _ kZ rfl rfl rfl (dE pB rfl (bW (eL (List.map dF ([IntKind.wrap .u8 p0.Vol,IntKind.wrap .u8 (p0.Items.length:Int)]:List Int)) jJ rfl rfl rfl rfl) ?_))))
 obtain⟨z3,Z3,m⟩:=aC m
 refine ve λu=>fE (c:=dF) 0 Z3 jJ rfl rfl rfl t0 u rfl λtg11 t11 K18=>qk K18 rfl (v (vl 1 _ kZ rfl rfl rfl (dE pB rfl (nP m (σ:=(List Int)×Int) (τ:=Option cE) (λg s=> [(g,.tok 5 1 ((s.1:List Int).length*1)),(some k2,.obj 62 (aD p0))]) (λg s=>(g=none→s.1= [])) (λg s=>.c 4 (ow g 1 (List.map dF s.1)) (.c 89 (.sl none 37 (List.map a8 p0.Items)) (.c 90 (nZ (p0.Items.length:Int)) (.c 91 (nZ s.2) .nil)))) tg11 t11 (lx (.k4 .nil)) ?_ ?_))))
 rintro tg13 ⟨q2,q3⟩ x t12 m
 replace m:HT w p0 q2 q3=some x:=m
 unfold HT at m
 refine v (v ?_)
 apply vi m <;> intro c4 m
 refine v (v (v (vx m wN rfl rfl λx1 _ m=>va (.agg (a8 x1)) GV rfl rfl (ve λu=>bH (([nZ 0]:List AV)++bL kG++(I9:List AV)) u TK rfl rfl λk2640 K19=>qk K19 rfl (ve λu=>aK 0 (a8 x1) u rfl rfl rfl rfl TJ rfl rfl λK20=>qk K20 rfl (v (vz [(1000000,some k2640,.obj 38 (a8 x1))] mixed (λu=>⟨λ_=>aI 0 u rfl,trivial⟩) λu=>zC 0 rfl (eS (ow _ _ _) rfl) (zF 1 rfl lY rfl (zL 2 0 (nZ x1.Kind) rfl bZ rfl rfl rfl (zC 3 rfl (JN WV ti5 rfl) (zC 4 rfl (eL (List.map dF ([IntKind.wrap .u8 x1.Kind]:List Int)) jJ rfl rfl rfl rfl) (zF 6 rfl uW rfl (zC 7 rfl (EK sJ rfl) ?_)))))))))))))
 obtain⟨z4,Z4,m⟩:=aC m
 refine zE 5 rfl (fE (c:=dF) 1 Z4 jJ rfl rfl rfl t12 u rfl λtg14 t14 K21=>⟨⟨λ_=>aI 0 K21 rfl,trivial⟩, ?_⟩)
 obtain⟨z5,Z5,m⟩:=aC m
 refine zE 8 rfl (fE (c:=dF) 1 Z5 jJ rfl rfl rfl t14 K21 (xS (bC 0 K21 rfl) rfl rfl) λtg15 t15 K22=>⟨⟨λ_=>aI 0 K22 rfl,trivial⟩, ?_⟩)
 refine zC 9 rfl (iI (ow _ _ _) rfl) (zX (qk (f:=.c 4 _ (.c 103 _ (.c 100 _ (.c 102 _ (.c 101 _ (fq5 99 _ _ _ _ _ _)))))) K22 rfl (v (vz [(1000000,some k2640,.obj 38 (a8 x1))] mixed (λu=>⟨λ_=>aI 0 u rfl,trivial⟩) λu=>zC 0 rfl (eS (ow _ _ _) rfl) (zF 1 rfl lA rfl (zL 2 0 (nZ x1.Seq) rfl bZ rfl rfl rfl (zF 4 rfl uX rfl (zL 5 0 (nZ x1.Of) rfl bZ rfl rfl rfl (zF 7 rfl GW rfl (zL 8 0 (nZ x1.Off) rfl bZ rfl rfl rfl (zF 10 rfl GX rfl (zL 11 0 (nZ x1.Len) rfl bZ rfl rfl rfl ?_))))))))))))
 obtain⟨y5,Y5,m⟩:=aC m
 refine zE 3 rfl ?_
 have ho5:=mB (A:= [(tg15,.tok 5 1 ((z5:List Int).length*1))]) (R:= [(some k2640,.obj 38 (a8 x1)),(some k2,.obj 62 (aD p0))]) u [[_], [_], [_]] rfl [1] [0,2] rfl rfl rfl
 refine dC ho5.1 (cM (DV _ t15 ho5.2.2 Y5) rfl DW rfl ?_)
 rintro x h' ⟨tg16,t16,K23,rfl,rfl⟩
 have K24:=mC (L':= [(some k2640,.obj 38 (a8 x1)),(tg16,.tok 5 1 ((y5:List Int).length*1)),(some k2,.obj 62 (aD p0))]) ho5.2.1 K23 [[_]] [[_], [_]] rfl rfl [1,0,2] rfl rfl
 refine kT K24.1 (⟨⟨λ_=>aI 0 K24.2 rfl,trivial⟩, ?_⟩)
 obtain⟨y6,Y6,m⟩:=aC m
 refine zE 6 rfl ?_
 have ho6:=mB (A:= [(tg16,.tok 5 1 ((y5:List Int).length*1))]) (R:= [(some k2640,.obj 38 (a8 x1)),(some k2,.obj 62 (aD p0))]) K24.2 [[_], [_], [_]] rfl [1] [0,2] rfl rfl rfl
 refine dC ho6.1 (cM (DV _ t16 ho6.2.2 Y6) rfl DW rfl ?_)
 rintro x h' ⟨tg17,t17,K25,rfl,rfl⟩
 have K26:=mC (L':= [(some k2640,.obj 38 (a8 x1)),(tg17,.tok 5 1 ((y6:List Int).length*1)),(some k2,.obj 62 (aD p0))]) ho6.2.1 K25 [[_]] [[_], [_]] rfl rfl [1,0,2] rfl rfl
 refine kT K26.1 (⟨⟨λ_=>aI 0 K26.2 rfl,trivial⟩, ?_⟩)
 obtain⟨y7,Y7,m⟩:=aC m
 refine zE 9 rfl ?_
 have ho7:=mB (A:= [(tg17,.tok 5 1 ((y6:List Int).length*1))]) (R:= [(some k2640,.obj 38 (a8 x1)),(some k2,.obj 62 (aD p0))]) K26.2 [[_], [_], [_]] rfl [1] [0,2] rfl rfl rfl
 refine dC ho7.1 (cM (DV _ t17 ho7.2.2 Y7) rfl DW rfl ?_)
 rintro x h' ⟨tg18,t18,K27,rfl,rfl⟩
 have K28:=mC (L':= [(some k2640,.obj 38 (a8 x1)),(tg18,.tok 5 1 ((y7:List Int).length*1)),(some k2,.obj 62 (aD p0))]) ho7.2.1 K27 [[_]] [[_], [_]] rfl rfl [1,0,2] rfl rfl
 refine kT K28.1 (⟨⟨λ_=>aI 0 K28.2 rfl,trivial⟩, ?_⟩)
 obtain⟨y8,Y8,m⟩:=aC m
 refine zE 12 rfl ?_
 have ho8:=mB (A:= [(tg18,.tok 5 1 ((y7:List Int).length*1))]) (R:= [(some k2640,.obj 38 (a8 x1)),(some k2,.obj 62 (aD p0))]) K28.2 [[_], [_], [_]] rfl [1] [0,2] rfl rfl rfl
 refine dC ho8.1 (cM (DV _ t18 ho8.2.2 Y8) rfl DW rfl ?_)
 rintro x h' ⟨tg19,t19,K29,rfl,rfl⟩
 have K30:=mC (L':= [(some k2640,.obj 38 (a8 x1)),(tg19,.tok 5 1 ((y8:List Int).length*1)),(some k2,.obj 62 (aD p0))]) ho8.2.1 K29 [[_]] [[_], [_]] rfl rfl [1,0,2] rfl rfl
 refine kT K30.1 (⟨⟨λ_=>aI 0 K30.2 rfl,trivial⟩, ?_⟩)
 exact zC 13 rfl (iI (ow _ _ _) rfl) (zX (qk (f:=.c 4 _ (.c 116 _ (.c 113 _ (.c 110 _ (.c 107 _ (.c 115 _ (.c 114 _ (.c 112 _ (.c 111 _ (.c 109 _ (.c 108 _ (.c 106 _ (.c 105 _ (.c 104 _ _)))))))))))))) K30.2 rfl (v (eW m tg19 t19 (lJ [1,2] rfl rfl (.k4 .nil))))))
 exact v (lK m tg13 t12 (lx (.k4 .nil)))
 rintro tg20 ⟨r2,r3⟩ t20 m
 exact eW m tg20 t20 (lx (.cons (bJ.refl _ _) .nil))
 refine v (vl 1 _ bZ rfl rfl rfl (bW (eL (List.map dF ([IntKind.wrap .u8 p0.Vol]:List Int)) jJ rfl rfl rfl rfl) ?_))
 obtain⟨z6,Z6,m⟩:=aC m
 exact ve λu=>fE (c:=dF) 0 Z6 jJ rfl rfl rfl t0 u rfl λtg21 t21 K31=>qk K31 rfl (eW m tg21 t21 (lx (.cons (bJ.refl _ _) .nil)))
 rintro tg22 j0 t22 m
 exact eW m tg22 t22 (lx (.cons (bJ.refl _ _) .nil))
 rintro tg23 j1 t23 m
 exact eW m tg23 t23 (lx (.cons (bJ.refl _ _) .nil))
 rintro tg24 j2 t24 m
 refine v ?_
 obtain⟨_,Y9,m⟩:=aC m
 refine ve λu=>CJ (t:=118) (.sl none 1 (List.map dF j2)) (aS (List.eraseIdx_sublist _ 0) u).1 (mZ _ 0 t24 u rfl (.refl _)) (cM (W96 _ Y9) rfl P9 rfl ?_)
 rintro x h' ⟨tg25,t25,K32,rfl,rfl⟩
 refine qk (bV.co ((aS (List.eraseIdx_sublist _ 0) u).2) K32) (iV _ _ _) (v ?_)
 cases m
 exact vr λu=>dX.of2 (.inl rfl) (fT _ _ (ow _ _ _) rfl) (fT _ _ (.sc (.int _ _)) rfl) (aS (List.nil_sublist _) u).1 ((eY _ 0 t25 u rfl)) (bJ.refl _ _) ⟨rfl,rfl⟩
theorem aG4:aN Tryz.prog 40=true:=by kernel_rfl
def M37 (m:Nat):Option (Bool):=
 (VU m ([0]:List Int)).bind λy3=>(C7 m y3.1 ({ Kind:=1,Snap:=({ Seq:=0,Man:=({ Name:=(ByteArray.mk #[97]),Parts:= []}:bD),Locs:= []}:aH),Chunks:= [],Seq:=0,Vol:=0,Items:= []}:aR)).bind λy0=>(M40 m ({ Kind:=1,Snap:=({ Seq:=0,Man:=({ Name:=(ByteArray.mk #[97]),Parts:= []}:bD),Locs:= []}:aH),Chunks:= [],Seq:=0,Vol:=0,Items:= []}:aR)).bind λy1=>after (if (y3.2==0)=true then (if (y0.2==0)=true then (if (y1.2==0)=true then (if ((y0.1.Snaps.length:Int)==1)=true then (if (y0.1.Seq==1)=true then (some (.brk ((y1.1.length:Int)==14))) else some (.brk false)) else some (.brk false)) else some (.brk false)) else some (.brk false)) else some (.brk false):Option (Lp (Bool) (Bool))) λj0=>some j0
theorem W37 {w:Nat} {o:Bool} (h:aF) (m:M37 w=some o):
 aL Tryz.prog 37 [] h (λr h'=>r= .sc (.bool o)∧h'=h):=by
 refine fQ 53 [.tmp 0] Tryz.func37 rfl rfl rfl rfl ?_
 unfold M37 at m
 refine v (v (bW (eL (List.map jI ([0]:List Int)) P0 rfl rfl rfl rfl) (vk W32 YU m rfl rfl λy3 m=>ve λu=>bH (iK) u qM rfl rfl λk5 K6=>qk K6 rfl (ve λu=>aK 0 (aE y3.1) u rfl rfl rfl rfl lX rfl rfl λK8=>qk K8 rfl (v (bW (fI ([.sc (.string (ByteArray.mk #[97])),sZ]) P5 rfl) (bW (fI ([nZ 0,.sc (.string (ByteArray.mk #[97])),sZ,sZ]) TM rfl) (bW (fI ([nZ 1,nZ 0,.sc (.string (ByteArray.mk #[97])),sZ,sZ,sZ,nZ 0,nZ 0,sZ]) CT rfl) (ve λu=>bH (xE) u L2 rfl rfl λk10 K0=>qk K0 rfl (ve λu=>aK 0 ([nZ 1,nZ 0,.sc (.string (ByteArray.mk #[97])),sZ,sZ,sZ,nZ 0,nZ 0,sZ]) u rfl rfl rfl rfl wO rfl rfl λK1=>qk K1 rfl (v (vl 1 (.agg (aE y3.1)) eV rfl rfl rfl (vl 0 (.agg ([nZ 1,nZ 0,.sc (.string (ByteArray.mk #[97])),sZ,sZ,sZ,nZ 0,nZ 0,sZ])) oK rfl rfl rfl ?_)))))))))))))
 obtain⟨y0,Y0,m⟩:=aC m
 refine bW (cC (uP (.cons (bJ.refl _ _) (.cons (bJ.agg (.k3 (.cons (aY _) (.cons (aY _) (.cons (aY _) (.k2 (.cons (aY _) .nil))))))) .nil)) (W29 _ Y0)) rfl aAO rfl) (ve λu=>bH (iK) u qM rfl rfl λk17 K2=>qk K2 rfl (ve λu=>aK 0 (aE y0.1) u rfl rfl rfl rfl lX rfl rfl λK3=>qk K3 rfl (v (vl 1 (.agg ([nZ 1,nZ 0,.sc (.string (ByteArray.mk #[97])),sZ,sZ,sZ,nZ 0,nZ 0,sZ])) oK rfl rfl rfl ?_))))
 obtain⟨_,Y1,m⟩:=aC m
 refine bW (cC (uP (.cons (bJ.agg (.k3 (.cons (aY _) (.cons (aY _) (.cons (aY _) (.k2 (.cons (aY _) .nil))))))) .nil) (W40 _ Y1)) rfl aG4 rfl) (vs (fL m (σ:=Bool) (λs=> [(some k17,.obj 30 (aE y0.1)),(some k10,.obj 62 ([nZ 1,nZ 0,.sc (.string (ByteArray.mk #[97])),sZ,sZ,sZ,nZ 0,nZ 0,sZ])),(some k5,.obj 30 (aE y3.1))]) (λs=>.c 0 (.sc (.bool s)) .nil) (λx m=> ?_) ?_))
 refine v ?_
 apply vi m <;> intro b0 m
 rw[b0]
 apply vi m <;> intro b1 m
 rw[b1]
 apply vi m <;> intro b2 m
 rw[b2]
 refine vl 0 _ fC rfl rfl rfl (dE jQ rfl ?_)
 apply vi m <;> intro b3 m
 rw[b3]
 refine vl 0 _ bZ rfl rfl rfl ?_
 apply vi m <;> intro b4 m
 rw[b4]
 exact dE kU rfl (iZ m)
 rw[b4]
 exact iZ m
 rw[b3]
 exact iZ m
 rw[b2]
 exact iZ m
 rw[b1]
 exact iZ m
 rw[b0]
 exact iZ m
 rintro _ j0 m
 refine v ?_
 obtain rfl:=eE m
 exact dU rfl
theorem aG5:aN Tryz.prog 37=true:=by kernel_rfl
open Go.Vm
theorem aG6:M37 1000=some true:=by decide+kernel
theorem Lk.filt {vs:List aP} {l:List bG} (h:Lk vs l) (q:bG→Bool):Lk vs (l.filter q):=
 ⟨Nat.le_trans (List.length_filter_le _ _) h.n,λx hx=>h.a x (List.mem_filter.1 hx).1,h.o.sublist (List.filter_sublist)⟩
theorem RD {vs:List aP} {x:bG} {v:Nat} {z:aP} (h:E6 vs x=true) (hv:x.Vol.toNat≠v):E6 (vs.set v z) x=true:=by
 unfold E6 at*
 rw[List.length_set,List.getElem?_set_ne (λe=>hv e.symm)]
 exact h
theorem DX {vs:List aP} {x:bG} (h:E6 vs x=true):0≤x.Vol∧∃v,vs[x.Vol.toNat]? =some v∧v.State=2∧1≤x.File∧x.File≤v.Files:=by
 unfold E6 at h
 simp only[Bool.and_eq_true,gN,decide_eq_true_eq] at h
 obtain⟨⟨⟨h1,h2⟩, -⟩, -⟩:=h
 refine⟨h1.1, ?_⟩
 cases e:vs[x.Vol.toNat]? with
 | none=>rw[e] at h2; cases h2
 | some v=>
  rw[e] at h2
  simp only[Bool.and_eq_true,beq_iff_eq,decide_eq_true_eq] at h2
  exact⟨v,rfl,h2.1,h2.2.1,h2.2.2⟩
theorem Lk.set {vs:List aP} {l:List bG} {v:Int} {z:aP} (h:Lk vs l) (h0:0≤v) (hv:∀x∈l,x.Vol≠v):Lk (vs.set v.toNat z) l:=
 ⟨h.n,λx hx=>RD (h.a x hx) (by have:=(DX (h.a x hx)).1; have:=hv x hx; omega),h.o⟩
theorem Lk.lf {vs:List aP} {l:List bG} {v:Int} {z:aP} (h:Lk vs l) (h0:0≤v):Lk (vs.set v.toNat z) (lf v l):=
 Lk.set (h.filt _) h0 λx hx=>by
  have:=(List.mem_filter.1 hx).2
  simpa using this
theorem Lk.off {vs:List aP} {l:List bG} {v:Int} {z:aP} (h:Lk vs l) (hz:vs[v.toNat]? =some z) (hs:z.State≠2):∀x∈l,x.Vol≠v:=λx hx e=>by
 obtain⟨-,y,hy,h2, -⟩:=DX (h.a x hx)
 rw[e,hz] at hy
 obtain rfl:=Option.some.inj hy
 exact hs h2
theorem HU {c:aA} {v:Int} {x:aP} (h:Sm c) (hx:c.Vols[v.toNat]? =some x):Sm (ret c v x):=by
 obtain⟨g0,g1,g2,g3,g4⟩:=h.g
 have lfm:∀ {l:List bG} {y},y∈lf v l→y∈l:=λhy=>(List.mem_filter.1 hy).1
 have lfl:∀(l:List bG),(lf v l).length≤l.length:=λl=>List.length_filter_le _ _
 refine⟨⟨g0, ?_, ?_, ?_, ?_⟩, ?_, ?_, ?_, ?_, ?_, ?_, ?_, ?_⟩
 ·intro s hs
  obtain⟨s0,h0,rfl⟩:=List.mem_map.1 hs
  exact⟨(g1 s0 h0).1,(g1 s0 h0).2.1,λy hy=>(g1 s0 h0).2.2 y (lfm hy)⟩
 ·intro s hs
  obtain⟨s0,h0,rfl⟩:=List.mem_map.1 (List.mem_filter.1 hs).1
  exact⟨(g2 s0 h0).1,(g2 s0 h0).2.1,(g2 s0 h0).2.2.1,λy hy=>(g2 s0 h0).2.2.2 y (lfm hy)⟩
 ·intro s hs
  obtain⟨s0,h0,rfl⟩:=List.mem_map.1 (List.mem_filter.1 hs).1
  exact⟨(g3 s0 h0).1,(g3 s0 h0).2.1,λy hy=>(g3 s0 h0).2.2 y (lfm hy)⟩
 ·intro s hs
  rcases List.mem_or_eq_of_mem_set hs with h1 | rfl
  ·exact g4 s h1
  ·have:=g4 x (List.mem_of_getElem? hx)
   exact⟨this.1,this.2.1,(⟨by decide,by decide⟩:gI 3),(⟨by decide,by decide⟩:gI 0)⟩
 ·simpa [ret] using h.sn
 ·exact Nat.le_trans (List.length_filter_le _ _) (by simpa using h.ch)
 ·exact Nat.le_trans (List.length_filter_le _ _) (by simpa using h.ex)
 ·simpa [ret] using h.vo
 ·intro s hs
  obtain⟨s0,h0,rfl⟩:=List.mem_map.1 hs
  exact Nat.le_trans (lfl _) (h.sl s0 h0)
 ·intro s hs
  obtain⟨s0,h0,rfl⟩:=List.mem_map.1 (List.mem_filter.1 hs).1
  exact⟨Nat.le_trans (lfl _) (h.cl s0 h0).1,(h.cl s0 h0).2⟩
 ·intro s hs
  obtain⟨s0,h0,rfl⟩:=List.mem_map.1 (List.mem_filter.1 hs).1
  exact Nat.le_trans (lfl _) (h.el s0 h0)
 ·intro s hs
  obtain⟨s0,h0,rfl⟩:=List.mem_map.1 hs
  exact h.man s0 h0
theorem HV {c:aA} {v:Int} {x:aP} (h:Sm c) (hx:c.Vols[v.toNat]? =some x) (he:x.Epoch≤1048576∧0≤x.Epoch):Sm (rel c v x):=by
 obtain⟨g0,g1,g2,g3,g4⟩:=h.g
 refine { h with g:=⟨g0,g1,g2,g3, ?_⟩,vo:=by simpa [rel] using h.vo}
 intro s hs
 rcases List.mem_or_eq_of_mem_set hs with h1 | rfl
 ·exact g4 s h1
 ·have:=g4 x (List.mem_of_getElem? hx)
  exact⟨this.1,⟨by simp only; omega,by simp only; omega⟩,(⟨by decide,by decide⟩:gI 1),this.2.2.2⟩
open Go.Vm
theorem BN {F:Nat} {c:aA} {d:aR} {x:aP} (hF:1000≤F) (h:Sm c) (hg:Gd c) (hk:d.Kind=4) (h0:0≤d.Vol) (hx:c.Vols[d.Vol.toNat]? =some x):
    C7 F c d=some (if x.State=2 then (if iB (ret c d.Vol x) then (ret c d.Vol x,0) else (bU,1)) else (bU,1)):=by
  have hk2:kB.find? (λe=>e.1==d.Kind)=some (d.Kind,75):=by rw[hk]; rfl
  have go:∀(e:aA) (n:Int),gW F 75 c d=some (e,n)→(n=0→Sm e)→_:=λe n=>n29 (n:=n) hF h (jV.2 hg) hk2
  have e0:gW F 75 c d=(VZ F c d).bind λo=>some ({ c with Snaps:=o.2.1,Chunks:=o.2.2.1,Exps:=o.2.2.2.1,Vols:=o.2.2.2.2},o.1):=by
    unfold gW
    simp only[if_neg (show ¬(75:Nat)=72 by decide),if_neg (show ¬(75:Nat)=73 by decide),if_neg (show ¬(75:Nat)=74 by decide),if_true]
  rw[n75 hF h h0 hx] at e0
  by_cases e1:x.State=2
  · rw[if_pos e1] at e0 ⊢
    rw[go (ret c d.Vol x) 0 e0 λ_=>HU h hx]
    rfl
  · rw[if_neg e1] at e0 ⊢
    rw[go _ _ e0 nofun]
    rfl
theorem zZ {F:Nat} {c:aA} {d:aR} {x:aP} (hF:1000≤F) (h:Sm c) (hg:Gd c) (hk:d.Kind=5) (h0:0≤d.Vol) (hx:c.Vols[d.Vol.toNat]? =some x) (he:0≤x.Epoch∧x.Epoch≤1048576) (hs:Sm (rel c d.Vol x)):
    C7 F c d=some (if x.State=3 then (if iB (rel c d.Vol x) then (rel c d.Vol x,0) else (bU,1)) else (bU,1)):=by
  have hk2:kB.find? (λe=>e.1==d.Kind)=some (d.Kind,76):=by rw[hk]; rfl
  have go:∀(e:aA) (n:Int),gW F 76 c d=some (e,n)→(n=0→Sm e)→_:=λe n=>n29 (n:=n) hF h (jV.2 hg) hk2
  have e0:gW F 76 c d=(VW F c d).bind λo=>some ({ c with Vols:=o.2},o.1):=by
    unfold gW
    simp only[if_neg (show ¬(76:Nat)=72 by decide),if_neg (show ¬(76:Nat)=73 by decide),if_neg (show ¬(76:Nat)=74 by decide),if_neg (show ¬(76:Nat)=75 by decide),if_true]
  rw[n76 h0 hx he] at e0
  by_cases e1:x.State=3
  · rw[if_pos e1] at e0 ⊢
    rw[go (rel c d.Vol x) 0 e0 λ_=>hs]
    rfl
  · rw[if_neg e1] at e0 ⊢
    rw[go _ _ e0 nofun]
    rfl
open Go.Vm
theorem Mk.wd {c:aA} {d:aR} (h:Mk c d) (hG:Gd c) (hd:F1 d):Wd d:=by
 refine⟨hd.it,λi hi=> ?_⟩
 obtain⟨-,a2,a3,a4⟩:=hd.iti i hi
 refine⟨?_, ?_,a2,a3,a4⟩
 ·rcases h.it with h1 | ⟨s,hs,e⟩
  ·exact(h1.a i hi).id
  ·rw[e] at hi
   rw[List.mem_singleton.1 hi]
   exact N0
 ·rcases h.it with h1 | ⟨s,hs,e⟩
  ·exact(h1.a i hi).q
  ·rw[e] at hi
   rw[List.mem_singleton.1 hi]
   have:=hG.q
   simpa [gN] using this
inductive Eff (c:aA) (d:aR) (e:aA):Prop
 | add (k:d.Kind=1) (q:d.Snap.Seq=c.Seq∧kC d.Chunks=true) (n:c.Snaps.any (λs=>s.Man.Name.toList==d.Snap.Man.Name.toList)=false) (w:e=ad c d)
 | drop (k:d.Kind=2) (q:c.Snaps.any (λs=>s.Seq==d.Seq)=true) (w:e=wX c d.Seq)
 | wrote (k:d.Kind=3) (x:aP) (hx:c.Vols[d.Vol.toNat]? =some x) (q:jW x d=true) (p:d.Items.all (kD c)=true) (w:e=tZ c d x)
 | ret (k:d.Kind=4) (x:aP) (hx:c.Vols[d.Vol.toNat]? =some x) (q:x.State=2) (w:e=ret c d.Vol x)
 | rel (k:d.Kind=5) (x:aP) (hx:c.Vols[d.Vol.toNat]? =some x) (q:x.State=3) (w:e=rel c d.Vol x)
theorem OF {c:aA} {v:Int} (h:0≤v∧v < c.Vols.length):∃x,c.Vols[v.toNat]? =some x:=⟨_,List.getElem?_eq_getElem (show v.toNat < c.Vols.length by omega)⟩
theorem HW {c:aA} (hG:Gd c) {n:Nat} {x:aP} (hx:c.Vols[n]? =some x):0≤x.Epoch∧x.Epoch≤1048576:=by
 have:=hG.v x (List.mem_of_getElem? hx)
 unfold nE gN at this
 simp only[Bool.and_eq_true,decide_eq_true_eq] at this
 exact this.1.2
theorem aBK {F:Nat} {c:aA} {d:aR} (hk:d.Kind=0):C7 F c d=some (bU,1):=by
 have hk2:kB.find? (λe=>e.1==d.Kind)=none:=by rw[hk]; rfl
 unfold C7
 rw[hk2]
theorem VB {F:Nat} {c:aA} {d:aR} (hF:1000≤F) (h:Sm c) (hg:Gd c) (hd:F1 d) (hm:Mk c d):
    ∃e n,C7 F c d=some (e,n)∧((n≠0∧e=bU)∨(n=0∧Sm e∧Gd e∧Eff c d e)):=by
  have hk:=hm.k
  have no:∀n:Int,n≠0→C7 F c d=some (bU,n)→∃e n,C7 F c d=some (e,n)∧((n≠0∧e=bU)∨(n=0∧Sm e∧Gd e∧Eff c d e)):=λn hn e=>⟨_,_,e,.inl ⟨hn,rfl⟩⟩
  have yes:∀e,(iB e=true→Sm e∧Eff c d e)→C7 F c d=some (if iB e=true then (e,0) else (bU,1))→∃e n,C7 F c d=some (e,n)∧((n≠0∧e=bU)∨(n=0∧Sm e∧Gd e∧Eff c d e)):=λe he h2=>by
    by_cases hge:iB e=true
    · rw[if_pos hge] at h2
      exact⟨_,_,h2,.inr ⟨rfl,(he hge).1,jV.1 hge,(he hge).2⟩⟩
    · rw[if_neg hge] at h2
      exact no 1 (by decide) h2
  obtain⟨x,hx⟩:=OF hm.v
  by_cases k0:d.Kind=0
  · exact no 1 (by decide) (aBK k0)
  by_cases k1:d.Kind=1
  · have:=N7 hF h hg hd k1
    by_cases c1:d.Snap.Seq=c.Seq∧kC d.Chunks=true
    · rw[if_pos c1] at this
      cases c2:c.Snaps.any (λs=>s.Man.Name.toList==d.Snap.Man.Name.toList) with
      | true=>rw[c2,if_pos rfl] at this; exact no 9 (by decide) this
      | false=>rw[c2,if_neg (by decide)] at this; exact yes _ (λ_=>⟨N6 h hg hd,.add k1 c1 c2 rfl⟩) this
    · rw[if_neg c1] at this; exact no 1 (by decide) this
  by_cases k2:d.Kind=2
  · have:=I2 hF h hg k2
    by_cases c1:c.Snaps.any (λs=>s.Seq==d.Seq)=true
    · rw[if_pos c1] at this; exact yes _ (λ_=>⟨DT h,.drop k2 c1 rfl⟩) this
    · rw[if_neg c1] at this; exact no 8 (by decide) this
  by_cases k3:d.Kind=3
  · have:=FP hF h hg k3 (hm.wd hg hd) hd.vol hm.v.1 hx
    by_cases c1:jW x d=true
    · rw[if_pos c1] at this
      by_cases c2:d.Items.all (kD c)=true
      · rw[if_pos c2] at this
        exact yes _ (λ_=>⟨HR h hg (hm.wd hg hd) hd.vol hx λi hi=>by
          unfold jW at c1
          simp only[Bool.and_eq_true,Bool.not_eq_true',List.any_eq_false,Bool.or_eq_true,decide_eq_true_eq,not_or,Int.not_lt] at c1
          exact c1.2 i hi,.wrote k3 x hx c1 c2 rfl⟩) this
      · rw[if_neg c2] at this; exact no 8 (by decide) this
    · rw[if_neg c1] at this; exact no 1 (by decide) this
  by_cases k4:d.Kind=4
  · have:=BN hF h hg k4 hm.v.1 hx
    by_cases c1:x.State=2
    · rw[if_pos c1] at this; exact yes _ (λ_=>⟨HU h hx,.ret k4 x hx c1 rfl⟩) this
    · rw[if_neg c1] at this; exact no 1 (by decide) this
  · have k5:d.Kind=5:=by omega
    have ep:=HW hg hx
    have hs:=HV h hx ⟨ep.2,ep.1⟩
    have:=zZ hF h hg k5 hm.v.1 hx ep hs
    by_cases c1:x.State=3
    · rw[if_pos c1] at this; exact yes _ (λ_=>⟨hs,.rel k5 x hx c1 rfl⟩) this
    · rw[if_neg c1] at this; exact no 1 (by decide) this
open Go.Vm
theorem xB {ρ:Type} {body:Int→Option (Lp Int ρ)} {c:Nat→Bool} {n:Nat} (hb:∀k:Nat,k≤n→body (k:Int)=some (if decide (k < n) && c k then .go ((k+1:Nat):Int) else .brk (k:Int))):∀(G k:Nat),k≤n→n - k < G→
    ∃p:Nat,k≤p∧p≤n∧aT body G (k:Int)=some (.brk (p:Int))∧(∀j,k≤j→j < p→c j=true)∧(p < n→c p=false)
  | 0,_,_,h=>by omega
  | G+1,k,hk,h=>by
    unfold aT
    rw[hb k hk]
    cases e:decide (k < n) && c k with
    | false=>
      refine⟨k,Nat.le_refl _,hk,by simp,λj h1 h2=>by omega,λh0=> ?_⟩
      simpa [h0] using e
    | true=>
      simp only[Bool.and_eq_true,decide_eq_true_eq] at e
      obtain⟨p,h1,h2,h3,h4,h5⟩:=xB (body:=body) (c:=c) (n:=n) hb G (k+1) (by omega) (by omega)
      refine⟨p,by omega,h2,by simpa using h3,λj hj1 hj2=> ?_,h5⟩
      by_cases ej:j=k
      · rw[ej]; exact e.2
      · exact h4 j (by omega) hj2
def ahB (a b:bG):Bool:=if a.Vol !=b.Vol then decide (a.Vol < b.Vol) else if a.File !=b.File then decide (a.File < b.File) else if a.Off !=b.Off then decide (a.Off < b.Off) else decide (a.Len < b.Len)
def nk (a b:bG):Prop:=¬(a.Vol=b.Vol∧a.File=b.File∧a.Off=b.Off)
theorem OH {a b:bG} (h:nk a b):ahB a b= !kA a b:=by
 rw[Bool.eq_iff_iff,Bool.not_eq_true',← Bool.not_eq_true,C0]
 unfold nk at h
 unfold ahB
 by_cases h1:a.Vol=b.Vol <;> by_cases h2:a.File=b.File <;> by_cases h3:a.Off=b.Off <;> simp[h1,h2,h3] <;> omega
theorem Fq {l:List bG} {x:bG} (h:l.Pairwise λy z=>kA z y=true) (hl:l.length≤400):kQ l x=(l.filter λy=> !kA y x)++x::l.filter λy=>kA y x:=by
 obtain⟨p,hp, -⟩:=aAR (F:=1000) (l:=l) (x:=x) (Nat.le_refl _) hl
 have hle:=hp.le
 rw[← I3 hp]
 have lo:∀y∈l.take p,kA y x=false:=λy hy=>by
  obtain⟨j,hj,rfl⟩:=List.getElem_of_mem hy
  simp only[List.length_take] at hj
  rw[List.getElem_take]
  have hq:l[p - 1]? =some l[p - 1]:=List.getElem?_eq_getElem (by omega)
  have h0:=hp.lo _ (by omega) hq
  by_cases e:j=p - 1
  ·subst e; exact h0
  ·cases ha:kA l[j] x with
   | false=>rfl
   | true=>
    have:=OX h (List.getElem?_eq_getElem (show j < l.length by omega)) hq (by omega)
    rw[C1 x l[j] l[p - 1] ha this] at h0
    cases h0
 have e:∀q:bG→Bool,l.filter q=(l.take p).filter q++(l.drop p).filter q:=λq=>by rw[← List.filter_append,List.take_append_drop]
 rw[e,e,List.filter_eq_self.2 λy hy=>by rw[lo y hy]; rfl,List.filter_eq_nil_iff.2 λy hy=>by rw[hp.hi y hy]; decide,List.filter_eq_nil_iff.2 λy hy=>by rw[lo y hy]; decide,List.filter_eq_self.2 λy hy=>hp.hi y hy]
 simp
theorem VE {F:Nat} {l:List bG} {x:bG} (hF:1000≤F) (h:l.Pairwise λy z=>kA z y=true) (hl:l.length≤300) (hn:∀y∈l,nk y x):HJ F l x=some (kQ l x):=by
 obtain⟨p, -,hp,h1,h2,h3⟩:=xB (body:=λs=>tM F l x s) (c:=λk=>(l[k]?).any λy=>ahB y x) (n:=l.length) (λk hk=>by
  unfold tM Q2
  by_cases hlt:k < l.length
  ·have hx:l[k]? =some l[k]:=List.getElem?_eq_getElem hlt
   generalize l[k]=y at hx
   rw[f9 (by omega)]
   simp only[bB,hx,Int.ofNat_lt,hlt,decide_true,if_true,Option.bind_some,Bool.true_and,Option.any_some]
   have:(if (y.Vol !=x.Vol)=true then some (decide (y.Vol < x.Vol)) else if (y.File !=x.File)=true then some (decide (y.File < x.File)) else if (y.Off !=x.Off)=true then some (decide (y.Off < x.Off)) else some (decide (y.Len < x.Len)))=some (ahB y x):=by
    unfold ahB; split <;> (try rfl); split <;> (try rfl); split <;> rfl
   rw[this]
   simp only[Option.bind_some,aG]
   split <;> rfl
  ·have:¬((k:Int) < (l.length:Int)):=by omega
   simp[this,hlt,aG]) F 0 (Nat.zero_le _) (by omega)
 unfold HJ
 rw[show ((0:Int))=((0:Nat):Int) from rfl,h1]
 simp only[aG]
 have s1:slc l ((0:Nat):Int) (p:Int)=some (l.take p):=by
  unfold slc; rw[if_pos ⟨by omega,by omega,by omega⟩]; simp
 have s2:slc l (p:Int) (l.length:Int)=some (l.drop p):=by
  unfold slc; rw[if_pos ⟨by omega,by omega,by omega⟩]; simp
 rw[s1,s2]
 simp only[Option.bind_some]
 rw[cB (by simp; omega)]
 simp only[Option.bind_some,List.nil_append]
 rw[cB (by simp; omega)]
 simp only[Option.bind_some]
 rw[cB (by simp; omega)]
 simp only[Option.bind_some,List.append_assoc,List.singleton_append]
 have a1:∀y∈l.take p,kA y x=false:=λy hy=>by
  obtain⟨j,hj,rfl⟩:=List.getElem_of_mem hy
  simp only[List.length_take] at hj
  have hq:l[j]? =some l[j]:=List.getElem?_eq_getElem (by omega)
  have:=h2 j (Nat.zero_le _) (by omega)
  simp only[hq,Option.any_some] at this
  rw[List.getElem_take]
  rw[OH (hn _ (List.getElem_mem _))] at this
  simpa using this
 have a2:∀y∈l.drop p,kA y x=true:=λy hy=>by
  obtain⟨j,hj,rfl⟩:=List.getElem_of_mem hy
  simp only[List.length_drop] at hj
  have hq:l[p]? =some l[p]:=List.getElem?_eq_getElem (by omega)
  have:=h3 (by omega)
  simp only[hq,Option.any_some] at this
  rw[OH (hn _ (List.getElem_mem _))] at this
  have this:kA l[p] x=true:=by simpa using this
  rw[List.getElem_drop]
  cases j with
  | zero=>exact this
  | succ j=>exact C1 x _ _ this (OX h hq (List.getElem?_eq_getElem (show p+(j+1) < l.length by omega)) (by omega))
 rw[Fq h (by omega)]
 have e:∀q:bG→Bool,l.filter q=(l.take p).filter q++(l.drop p).filter q:=λq=>by rw[← List.filter_append,List.take_append_drop]
 rw[e,e,List.filter_eq_self.2 λy hy=>by rw[a1 y hy]; rfl,List.filter_eq_nil_iff.2 λy hy=>by rw[a2 y hy]; decide,List.filter_eq_nil_iff.2 λy hy=>by rw[a1 y hy]; decide,List.filter_eq_self.2 a2]
 simp
theorem VF {F:Nat} {l:List bG} {v:Int} (hF:1000≤F) (hl:l.length≤300):HK F l v=some (lf v l):=by
 unfold HK
 rw[mQ (l:=l) [] (λy=> !(y.Vol==v)) id (by omega) (λi x hx hm hi acc ha=>by
  simp only[List.length_nil] at ha
  unfold tN
  simp only
  rw[f9 (by omega)]
  simp only[bB,hx,Option.bind_some,Int.ofNat_lt,hi,decide_true,if_true]
  rw[cB (by simp; omega)]
  by_cases e:x.Vol=v <;> simp[e,aG]) (λacc=>by unfold tN; simp)]
 simp[aG,lf]
theorem VG {F:Nat} {c:aA} {v a b:Int} {x:aP} (h0:0≤v) (hx:c.Vols[v.toNat]? =some x):AN F c v a b=some (x.State==a || x.State==b):=by
 have hlt:=(List.getElem?_eq_some_iff.1 hx).1
 unfold AN
 rw[if_pos (by simpa using h0),if_pos (by simp; omega)]
 simp only[nS _ h0,hx,Option.bind_some]
 cases h:x.State==a <;> simp[aG]
def Lv (c:aA):Prop:=∀x∈c.Chunks,vY x=true
theorem VH {F:Nat} {c:aA} {q:Int} (hF:1000≤F) (h:Sm c) (hv:Lv c):DC F c q=some (if c.Snaps.any (λs=>s.Seq==q) then (true,(wX c q).Snaps,(wX c q).Chunks) else (false,c.Snaps,c.Chunks)):=by
 have hsn:=h.sn
 have hch:=h.ch
 have hD:=p7 h λs=> !(s.Seq==q)
 unfold DC
 rw[mQ (l:=c.Snaps) [] (λs=> !(s.Seq==q)) id (by omega) (λi x hx hm hi acc ha=>by
  simp only[List.length_nil] at ha
  unfold tO
  simp only
  rw[f9 (by omega)]
  simp only[bB,hx,Option.bind_some,Int.ofNat_lt,hi,decide_true,if_true]
  rw[cB (by simp; omega)]
  by_cases e:x.Seq=q <;> simp[e,aG]) (λacc=>by unfold tO; simp)]
 simp only[aG,List.nil_append,List.map_id]
 have len:=List.length_filter_le (λs:aH=> !(s.Seq==q)) c.Snaps
 cases ha:c.Snaps.any (λs=>s.Seq==q) with
 | false=>
  rw[List.filter_eq_self.2 λs hs=>by simpa using List.any_eq_false.1 ha s hs,if_pos (by simp)]
  rfl
 | true=>
  have hne:¬((c.Snaps.filter λs=> !(s.Seq==q)).length=c.Snaps.length):=λe=>by
   obtain⟨s,hs,e2⟩:=List.any_eq_true.1 ha
   have:=List.length_filter_eq_length_iff.1 e s hs
   simp[e2] at this
  rw[if_neg (by simp; omega)]
  rw[mQ (l:=c.Chunks) [] (λy=>vY (KG (qS c q) y)) (KG (qS c q)) (by omega) (λi x hx hm hi acc ha=>by
   simp only[List.length_nil] at ha
   unfold tP
   simp only
   rw[f9 (by omega)]
   have ea:∀z:aB,app acc [z]=some (acc++ [z]):=λz=>cB (by simp; omega)
   have hl:=hv x hm
   simp only[bB,hx,Option.bind_some,Int.ofNat_lt,hi,decide_true,if_true,ea,m65 hF (c:= { Seq:=c.Seq,Snaps:=c.Snaps.filter λs=> !(s.Seq==q),Chunks:=c.Chunks,Exps:=c.Exps,Vols:=c.Vols}) hD]
   unfold KG
   rw[show o8 { Seq:=c.Seq,Snaps:=c.Snaps.filter λs=> !(s.Seq==q),Chunks:=c.Chunks,Exps:=c.Exps,Vols:=c.Vols} x.Id=o8 (qS c q) x.Id from rfl]
   cases o8 (qS c q) x.Id with
   | true=>
    simp only[Bool.not_true,Bool.false_eq_true,if_false,aG,if_true,hl]
   | false=>
    simp only[Bool.not_false,Bool.false_eq_true,if_true,if_false,aG,vY,Bool.false_or]
    by_cases e:x.Locs.length=0
    ·rw[if_pos (by simp[e])]
     simp[e,aG,cO]
    ·rw[if_neg (by simpa using e)]
     have:(0:Int) < (x.Locs.length:Int):=by omega
     simp[this,aG]
     exact λh=>e (by rw[h]; rfl)) (λacc=>by unfold tP; simp)]
  simp only[aG,List.nil_append]
  rfl
theorem aG7 {F:Nat} {l:List aB} {n:aB} (hF:1000≤F) (hr:uG l) (hn:mP n.Id) (hl:l.length≤360) (hm:∀x∈l,x.Locs.length≤300∧x.Data.length≤300) (hs:n.Staged=true) (ho:n.Locs= []) (hd:n.Data.length≤300):FK F l n=some (rR l n):=by
  obtain⟨p, -,hp,h1,h2,h3⟩:=xB (body:=λs=>p9 F l n s) (c:=λk=>(l[k]?).any λy=>decide (ky y.Id < ky n.Id)) (n:=l.length) (λk hk=>by
    unfold p9
    by_cases hlt:k < l.length
    · have hx:l[k]? =some l[k]:=List.getElem?_eq_getElem hlt
      have gx:=hr.1 l[k] (List.getElem_mem hlt)
      generalize l[k]=y at hx gx
      rw[f9 (by omega)]
      simp only[bB,hx,Int.ofNat_lt,hlt,decide_true,if_true,Option.bind_some,Bool.true_and,Option.any_some,m60 hF gx hn,aG]
      split <;> rfl
    · have:¬((k:Int) < (l.length:Int)):=by omega
      simp[this,hlt,aG]) F 0 (Nat.zero_le _) (by omega)
  have ha:At l n.Id p:=⟨hp,λy hy=>by
      obtain⟨j,hj,rfl⟩:=List.getElem_of_mem hy
      simp only[List.length_take] at hj
      have:=h2 j (Nat.zero_le _) (by omega)
      rw[List.getElem?_eq_getElem (show j < l.length by omega)] at this
      rw[List.getElem_take]
      simpa using this,λy hy=>by
      obtain⟨j,hj,rfl⟩:=List.getElem_of_mem hy
      simp only[List.length_drop] at hj
      have hq:l[p]? =some l[p]:=List.getElem?_eq_getElem (by omega)
      have:=h3 (by omega)
      rw[hq] at this
      have this:¬ky (l[p]).Id < ky n.Id:=by simpa using this
      rw[List.getElem_drop]
      cases j with
      | zero=>show ky n.Id≤ky (l[p+0]).Id; simp only[Nat.add_zero]; omega
      | succ j=>
        have:=hr.2 p (p+(j+1)) _ _ hq (List.getElem?_eq_getElem (show p+(j+1) < l.length by omega)) (by omega)
        omega⟩
  unfold FK
  rw[show ((0:Int))=((0:Nat):Int) from rfl,h1]
  simp only[aG]
  have eN:({ Id:=n.Id,Staged:=true,Data:=n.Data,Locs:= []}:aB)=n:=by
    cases n; simp only at hs ho; subst hs; subst ho; rfl
  cases hh:kJ l n.Id with
  | true=>
    obtain⟨x,e1,e2⟩:=C9 hr ha hn hh
    obtain⟨hpl,e0⟩:=List.getElem?_eq_some_iff.1 e1
    have e152:BL F l=some l:=by
      unfold BL
      rw[nY (l:=l) (by omega) (λi x hx hm' hi=>by
        have:=hm x hm'
        have el:x.Locs.length≤300:=this.1
        unfold p8 vK wQ
        simp only
        rw[f9 (by omega)]
        have a1:app [] x.Data=some x.Data:=by rw[cB (by simp; omega)]; rfl
        have a2:app [] x.Locs=some x.Locs:=by rw[cB (by simp; omega)]; rfl
        simp only[bB,hx,Option.bind_some,Int.ofNat_lt,hi,decide_true,if_true,a1,a2]
        rw[cB (by simp; omega)]
        rfl) (by unfold p8; simp)]
      rfl
    have e141:vK F n.Data=some n.Data:=by unfold vK; rw[cB (by simp; omega)]; rfl
    rw[if_pos (by simp; omega)]
    simp only[bB,e1,Option.bind_some,aG,e2,decide_true,if_true,e152,e141,Int.toNat_natCast]
    rw[List.getElem?_set_self hpl]
    simp only[Option.bind_some,List.set_set]
    have hf:=IZ hr e1
    rw[e2] at hf
    unfold rR
    rw[hf,← DS ha,← IY ha hr e1 e2]
    simp only
    rw[List.set_eq_take_append_cons_drop,if_pos hpl,e2]
  | false=>
    have hne:∀y:aB,l[p]? =some y→y.Id≠n.Id:=λy hy e=>by
      have:=List.any_eq_false.1 hh y (List.mem_of_getElem? hy)
      simp[e] at this
    have s1:slc l ((0:Nat):Int) (p:Int)=some (l.take p):=by
      unfold slc; rw[if_pos ⟨by omega,by omega,by omega⟩]; simp
    have s2:slc l (p:Int) (l.length:Int)=some (l.drop p):=by
      unfold slc; rw[if_pos ⟨by omega,by omega,by omega⟩]; simp
    have fin:((slc l ((0:Nat):Int) (p:Int)).bind λx102=>(app ([]:List aB) x102).bind λz104=>(app z104 ([n]:List aB)).bind λz112=>(slc l (p:Int) (l.length:Int)).bind λx120=>(app z112 x120).bind λz122=>some z122)=some (rR l n):=by
      rw[s1,s2]
      simp only[Option.bind_some]
      rw[cB (by simp; omega)]
      simp only[Option.bind_some,List.nil_append]
      rw[cB (by simp; omega)]
      simp only[Option.bind_some]
      rw[cB (by simp; omega)]
      have hf:(l.find? λx=>decide (x.Id=n.Id))=none:=List.find?_eq_none.2 λx hx=>by
        have:=List.any_eq_false.1 hh x hx
        simpa using this
      unfold rR
      rw[hf,← DS ha,← N2 ha hr hn hh]
      simp only[Option.bind_some,eN]
      simp
    by_cases hlt:p < l.length
    · have hx:l[p]? =some l[p]:=List.getElem?_eq_getElem hlt
      rw[if_pos (by simpa using hlt)]
      simp only[bB,hx,Option.bind_some,aG]
      rw[if_neg (by simpa using hne _ hx)]
      exact fin
    · rw[if_neg (by simpa using hlt)]
      simp only[aG,Bool.false_eq_true,if_false]
      exact fin
open Go.Vm
theorem I7 {S ρ:Type} {body:S→Option (Lp S ρ)} (emb:Nat→S) {p:Nat} {r:ρ} (hb:∀j,j < p→body (emb j)=some (.go (emb (j+1)))) (hr:body (emb p)=some (.ret r)):∀(G k:Nat),k≤p→p - k < G→aT body G (emb k)=some (.ret r)
 | 0,_,_,h=>by omega
 | G+1,k,hk,h=>by
  unfold aT
  by_cases e:k=p
  ·subst e; rw[hr]
  ·rw[hb k (by omega)]
   exact I7 emb hb hr G (k+1) (by omega) (by omega)
theorem p88 {F:Nat} {c:aA} {d:bO} (hF:1000≤F) (hl:c.Chunks.length≤400):KS F c d=some (n3 c.Chunks λx=>decide (x.Id=d)):=by
 unfold KS
 refine iC (l:=c.Chunks) (λx:aB=>decide (x.Id=d)) (by omega) (λi x hx hm hi=> ?_) (by unfold oO; simp)
 unfold oO
 rw[f9 (by omega)]
 simp only[bB,hx,Option.bind_some,Int.ofNat_lt,hi,decide_true,if_true]
 split <;> rfl
def Nw (l:List bG) (a:bG):Prop:=(l.Pairwise λy z=>kA z y=true)∧∀y∈l,nk y a
structure NwI (c:aA) (i:aU) (a:bG):Prop where
 k:i.Kind=1→∀y∈c.Chunks,y.Id=i.Id→Nw y.Locs a
 s:i.Kind=2→∀y∈c.Snaps,y.Seq=i.Seq→Nw y.Locs a
 e:i.Kind=3→∀y∈c.Exps,y.Seq=i.Seq→Nw y.Locs a
theorem HX {l:List aQ} {q:Int} {p:Nat} (h:l.Pairwise λy x=>y.Seq < x.Seq) (hp:p≤l.length) (h1:∀j x,l[j]? =some x→j < p→x.Seq < q) (h2:∀x,l[p]? =some x→q≤x.Seq):
    (l.filter λx=>decide (x.Seq < q))=l.take p∧(l[p]?.all (λx=>x.Seq !=q)=true→(l.filter λx=>decide (q < x.Seq))=l.drop p∧(l.find? λx=>decide (x.Seq=q))=none)∧
    (∀x,l[p]? =some x→x.Seq=q→(l.filter λx=>decide (q < x.Seq))=l.drop (p+1)∧(l.find? λx=>decide (x.Seq=q))=some x):=by
  have lo:∀y∈l.take p,y.Seq < q:=λy hy=>by
    obtain⟨j,hj,rfl⟩:=List.getElem_of_mem hy
    simp only[List.length_take] at hj
    rw[List.getElem_take]
    exact h1 j _ (List.getElem?_eq_getElem (by omega)) (by omega)
  have hi:∀y∈l.drop (p+1),q < y.Seq:=λy hy=>by
    obtain⟨j,hj,rfl⟩:=List.getElem_of_mem hy
    simp only[List.length_drop] at hj
    have hq:l[p]? =some l[p]:=List.getElem?_eq_getElem (by omega)
    have:=h2 _ hq
    have:=OX h hq (List.getElem?_eq_getElem (show p+1+j < l.length by omega)) (by omega)
    rw[List.getElem_drop]; omega
  have hm:∀y∈l.drop p,q≤y.Seq:=λy hy=>by
    by_cases hl:p < l.length
    · rw[List.drop_eq_getElem_cons hl] at hy
      rcases List.mem_cons.1 hy with rfl | hy
      · exact h2 _ (List.getElem?_eq_getElem hl)
      · have:=hi y hy; omega
    · rw[List.drop_eq_nil_of_le (by omega)] at hy; cases hy
  have e:∀f:aQ→Bool,l.filter f=(l.take p).filter f++(l.drop p).filter f:=λf=>by rw[← List.filter_append,List.take_append_drop]
  have lo2:((l.take p).filter λx=>decide (q < x.Seq))= []:=List.filter_eq_nil_iff.2 λy hy=>by have:=lo y hy; simp; omega
  have fp:(l.find? λx=>decide (x.Seq=q))=(l.drop p).find? λx=>decide (x.Seq=q):=by
    have:(l.find? λx=>decide (x.Seq=q))=(l.take p++l.drop p).find? λx=>decide (x.Seq=q):=by rw[List.take_append_drop]
    rw[this,List.find?_append,List.find?_eq_none.2 λy hy=>by have:=lo y hy; simp; omega]
    rfl
  refine⟨?_,λhn=> ?_,λx hx hq=> ?_⟩
  · rw[e,List.filter_eq_self.2 λy hy=>decide_eq_true (lo y hy),List.filter_eq_nil_iff.2 λy hy=>by have:=hm y hy; simp; omega]
    simp
  · have ne:∀y∈l.drop p,q < y.Seq:=λy hy=>by
      by_cases hl:p < l.length
      · rw[List.drop_eq_getElem_cons hl] at hy
        rcases List.mem_cons.1 hy with rfl | hy
        · have hq:=List.getElem?_eq_getElem hl
          rw[hq] at hn
          have:=h2 _ hq
          have hn:l[p].Seq≠q:=by simpa using hn
          omega
        · exact hi y hy
      · rw[List.drop_eq_nil_of_le (by omega)] at hy; cases hy
    refine⟨by rw[e,lo2,List.filter_eq_self.2 λy hy=>decide_eq_true (ne y hy)]; rfl, ?_⟩
    rw[fp]
    exact List.find?_eq_none.2 λy hy=>by have:=ne y hy; simp; omega
  · obtain⟨hl,rfl⟩:=List.getElem?_eq_some_iff.1 hx
    refine⟨?_, ?_⟩
    · rw[e,lo2,List.drop_eq_getElem_cons hl,List.filter_cons_of_neg (by simp; omega),List.filter_eq_self.2 λy hy=>decide_eq_true (hi y hy)]; rfl
    · rw[fp,List.drop_eq_getElem_cons hl,List.find?_cons_of_pos (by simpa using hq)]
theorem aBM {F n:Nat} {c:aA} {i:aU} {a:bG} (hF:1000≤F) (h:Wm n c) (hn:n≤300) (hi:It i) (hw:NwI c i a):
    HM F c i a=some (if kD c i then (true,(w9 c i a).Seq,(w9 c i a).Snaps,(w9 c i a).Chunks,(w9 c i a).Exps) else (false,c.Seq,c.Snaps,c.Chunks,c.Exps)):=by
  have hcn:=h.cn
  have hsn:=h.sn
  have hen:=h.en
  have hk:=hi.k
  have hq0:=hi.q0
  have hcq:=h.q
  unfold HM w9 kD
  by_cases k1:i.Kind=1
  · have e2:c.Snaps.map (D3 i a)=c.Snaps:=kR λy _=>by unfold D3; rw[if_neg (by omega)]
    rw[if_pos (by simp[k1])]
    rw[show KS F { Seq:=c.Seq,Snaps:=c.Snaps,Chunks:=c.Chunks,Exps:=c.Exps,Vols:=c.Vols} i.Id=some (n3 c.Chunks λx=>decide (x.Id=i.Id)) from p88 hF hcn]
    simp only[Option.bind_some,k1,if_true,e2,show ¬((1:Int)=3) by omega,if_false]
    cases hh:kJ c.Chunks i.Id with
    | false=>
      rw[gP hh]
      simp[cO]
    | true=>
      obtain⟨p,x,h1,h2,h3,h4⟩:=gH hh
      have h3:x.Id=i.Id:=by simpa using h3
      have hx:=List.mem_of_getElem? h2
      obtain⟨w1,w2⟩:=hw.k k1 x hx h3
      rw[h1,if_neg (by simp)]
      simp only[bB,h2,Option.bind_some,VE hF w1 (Nat.le_trans (h.cl x hx).1 hn) w2,aG,Int.toNat_natCast]
      rw[qK (λy:aB=>y.Id=i.Id) (λy=> { y with Locs:=kQ y.Locs a}) h2 h3 (λy hy e=>by
        have:=h4 y hy
        simp[e] at this) (λy hy e=>by
        obtain⟨j,hj,rfl⟩:=List.getElem_of_mem hy
        simp only[List.length_drop] at hj
        rw[List.getElem_drop] at e
        have:=h.r.2 p (p+1+j) _ _ h2 (List.getElem?_eq_getElem (by omega)) (by omega)
        rw[e,h3] at this; omega)]
      simp[rU,k1]
  · have e1:c.Chunks.map (rU i a)=c.Chunks:=kR λy _=>by unfold rU; rw[if_neg (by omega)]
    rw[if_neg (by simpa using k1)]
    by_cases k2:i.Kind=2
    · rw[if_pos (by simp[k2])]
      simp only[k2,show ¬((2:Int)=1) by omega,if_true,e1,show ¬((2:Int)=3) by omega,if_false]
      cases ha:c.Snaps.any (λs=>s.Seq==i.Seq) with
      | false=>
        have:=jX (body:=λs=>mL F c i a s) (s0:=0) (n:=c.Snaps.length) (F:=F) (λk:Nat=>(k:Int)) (by omega) rfl (λk hk'=>by
          have hx:c.Snaps[k]? =some c.Snaps[k]:=List.getElem?_eq_getElem hk'
          have:=List.any_eq_false.1 ha _ (List.getElem_mem hk')
          unfold mL
          rw[f9 (by omega)]
          simp only[bB,hx,Option.bind_some,Int.ofNat_lt,hk',decide_true,if_true]
          rw[if_neg this]) (by unfold mL; simp)
        rw[this]
        simp[aG,cO]
      | true=>
        obtain⟨p,x,h1,h2,h3,h4⟩:=gH ha
        have hpl:=(List.getElem?_eq_some_iff.1 h2).1
        have hx:=List.mem_of_getElem? h2
        have h3:x.Seq=i.Seq:=by simpa using h3
        obtain⟨w1,w2⟩:=hw.s k2 x hx h3
        have:=I7 (body:=λs=>mL F c i a s) (λk:Nat=>(k:Int)) (p:=p) (r:=.ret (true,c.Seq,c.Snaps.set p { x with Locs:=kQ x.Locs a},c.Chunks,c.Exps)) (λj hj=>by
          have hx:c.Snaps[j]? =some c.Snaps[j]:=List.getElem?_eq_getElem (by omega)
          have:=h4 c.Snaps[j] (List.mem_of_getElem? (i:=j) (by rw[List.getElem?_take_of_lt hj]; exact hx))
          unfold mL
          rw[f9 (by omega)]
          simp only[bB,hx,Option.bind_some,Int.ofNat_lt,show j < c.Snaps.length by omega,decide_true,if_true]
          rw[if_neg (by simp[this])]) (by
          unfold mL
          simp only[bB,h2,Option.bind_some,Int.ofNat_lt,hpl,decide_true,if_true,VE hF w1 (Nat.le_trans (h.sl x hx) hn) w2,Int.toNat_natCast]
          rw[if_pos (by simp[h3])]) F 0 (Nat.zero_le _) (by omega)
        rw[show ((0:Int))=((0:Nat):Int) from rfl,this]
        simp only[cO]
        rw[qK (λy:aH=>y.Seq=i.Seq) (λy=> { y with Locs:=kQ y.Locs a}) h2 h3 (λy hy e=>by
          have:=h4 y hy
          simp[e] at this) (λy hy e=>by
          obtain⟨j,hj,rfl⟩:=List.getElem_of_mem hy
          simp only[List.length_drop] at hj
          rw[List.getElem_drop] at e
          have:=OX h.so h2 (List.getElem?_eq_getElem (show p+1+j < c.Snaps.length by omega)) (by omega)
          omega)]
        simp[D3,k2]
    · have k3:i.Kind=3:=by omega
      have e2:c.Snaps.map (D3 i a)=c.Snaps:=kR λy _=>by unfold D3; rw[if_neg (by omega)]
      rw[if_neg (by simpa using k2)]
      simp only[k3,if_true,e1,e2,show ¬((3:Int)=1) by omega,show ¬((3:Int)=2) by omega,if_false]
      obtain⟨p, -,hp,l1,l2,l3⟩:=xB (body:=λs=>tQ F c i s) (c:=λk=>(c.Exps[k]?).any λy=>decide (y.Seq < i.Seq)) (n:=c.Exps.length) (λk hk=>by
        unfold tQ
        by_cases hlt:k < c.Exps.length
        · have hx:c.Exps[k]? =some c.Exps[k]:=List.getElem?_eq_getElem hlt
          generalize c.Exps[k]=y at hx
          rw[f9 (by omega)]
          simp only[bB,hx,Int.ofNat_lt,hlt,decide_true,if_true,Option.bind_some,Bool.true_and,Option.any_some,aG]
          split <;> rfl
        · have:¬((k:Int) < (c.Exps.length:Int)):=by omega
          simp[this,hlt,aG]) F 0 (Nat.zero_le _) (by omega)
      obtain⟨s1,s2,s3⟩:=HX h.eo hp (q:=i.Seq) (λj x hx hj=>by
        have:=l2 j (Nat.zero_le _) hj
        rw[hx] at this
        simpa using this) (λx hx=>by
        have:=l3 (List.getElem?_eq_some_iff.1 hx).1
        rw[hx] at this
        simpa using this)
      rw[show ((0:Int))=((0:Nat):Int) from rfl,l1]
      simp only[aG]
      have fin:(c.Exps[p]?).all (λx=>x.Seq !=i.Seq)=true→((slc c.Exps ((0:Nat):Int) (p:Int)).bind λx433=>(app ([]:List aQ) x433).bind λz435=>(app z435 ([({ Seq:=i.Seq,Of:=i.Of,Locs:=([a]:List bG)}:aQ)]:List aQ)).bind λz443=>(slc c.Exps (p:Int) (c.Exps).length).bind λx451=>(app z443 x451).bind λz453=>after (if (decide (c.Seq≤i.Seq))=true then (some (.brk (decide (i.Seq < 4611686018427387904)))) else some (.brk false):Option (Lp (Bool) (Lp (Int×(List aB)×(List aQ)) (Bool×Int×(List aH)×(List aB)×(List aQ))))) λj463=>after (if j463=true then (some (.brk (IntKind.wrap .i64 (i.Seq+1)))) else some (.brk c.Seq):Option (Lp (Int) (Lp (Int×(List aB)×(List aQ)) (Bool×Int×(List aH)×(List aB)×(List aQ))))) λj468=>some (.brk (j468,c.Chunks,z453)))=some (.brk (max c.Seq (i.Seq+1),c.Chunks,pG c.Exps i a)):=λhn=>by
        obtain⟨f1,f2⟩:=s2 hn
        have u1:slc c.Exps ((0:Nat):Int) (p:Int)=some (c.Exps.take p):=by
          unfold slc; rw[if_pos ⟨by omega,by omega,by omega⟩]; simp
        have u2:slc c.Exps (p:Int) (c.Exps.length:Int)=some (c.Exps.drop p):=by
          unfold slc; rw[if_pos ⟨by omega,by omega,by omega⟩]; simp
        rw[u1,u2]
        simp only[Option.bind_some]
        rw[cB (by simp; omega)]
        simp only[Option.bind_some,List.nil_append]
        rw[cB (by simp; omega)]
        simp only[Option.bind_some]
        rw[cB (by simp; omega)]
        have eX:c.Exps.take p++ [({ Seq:=i.Seq,Of:=i.Of,Locs:=([a]:List bG)}:aQ)]++c.Exps.drop p=pG c.Exps i a:=by
          unfold pG zQ
          rw[s1,f1,f2]
          simp[kQ]
        simp only[Option.bind_some,eX,wr (n:=i.Seq+1) (by omega) (by omega)]
        by_cases q1:c.Seq≤i.Seq
        · rw[if_pos (by simpa using q1)]
          simp only[aG]
          rw[if_pos (by simp; omega)]
          simp only[aG]
          rw[show max c.Seq (i.Seq+1)=i.Seq+1 by omega]
        · rw[if_neg (by simpa using q1)]
          simp only[aG,Bool.false_eq_true,if_false]
          rw[show max c.Seq (i.Seq+1)=c.Seq by omega]
      by_cases hlt:p < c.Exps.length
      · have hx:c.Exps[p]? =some c.Exps[p]:=List.getElem?_eq_getElem hlt
        have hm:=List.getElem_mem hlt
        generalize c.Exps[p]=x at hx hm
        rw[if_pos (by simpa using hlt)]
        simp only[bB,hx,Option.bind_some,aG]
        by_cases hq:x.Seq=i.Seq
        · obtain⟨f1,f2⟩:=s3 x hx hq
          obtain⟨w1,w2⟩:=hw.e k3 x hm hq
          have hsq:=(h.eq x hm).2.2
          rw[if_pos (by simp[hq])]
          simp only[VE hF w1 (Nat.le_trans (h.el x hm) hn) w2,Option.bind_some,cO,Int.toNat_natCast]
          unfold pG zQ
          rw[f2,s1,f1,List.set_eq_take_append_cons_drop,if_pos hlt,show max c.Seq (i.Seq+1)=c.Seq by omega]
        · rw[if_neg (by simpa using hq)]
          rw[fin (by rw[hx]; simpa using hq)]
          rfl
      · rw[if_neg (by simpa using hlt)]
        simp only[aG,Bool.false_eq_true,if_false]
        rw[fin (by rw[List.getElem?_eq_none (by omega)]; rfl)]
        rfl
theorem p92 {F:Nat} {d:aR} (hF:1000≤F) (h:F1 d):M92 F d=some d:=by
 have hc:=h.cn
 have hi:=h.it
 obtain⟨-,m2,m3, -⟩:=h.man
 unfold M92
 rw[m52 hF m2 (λp hp=>(m3 p hp).2)]
 simp only[Option.bind_some]
 rw[m53 (by rw[h.locs]; simp)]
 simp only[Option.bind_some]
 rw[m54 hF (by omega) (λx hx=>⟨by rw[(h.ch x hx).2.2.2]; simp,(h.ch x hx).2.1⟩)]
 simp only[Option.bind_some]
 rw[cB (by simp; omega)]
 rfl
open Go.Vm
structure Rl (v:Int) (c e:aA):Prop where
 q:c.Seq≤e.Seq
 s:∃f:aH→aH,(∀s,(f s).Seq=s.Seq∧(f s).Man=s.Man)∧e.Snaps=c.Snaps.map f
 k:∃g:aB→aB,(∀y,(g y).Id=y.Id∧(∀l∈y.Locs,l∈(g y).Locs)∧∀l∈(g y).Locs,l∈y.Locs∨l.Vol=v)∧e.Chunks=c.Chunks.map g
theorem Rl.refl (v:Int) (c:aA):Rl v c c:=⟨Int.le_refl _,⟨id,λ_=>⟨rfl,rfl⟩,by simp⟩,⟨id,λ_=>⟨rfl,λ_ h=>h,λ_ h=>.inl h⟩,by simp⟩⟩
theorem Rl.trans {v:Int} {a b c:aA} (h:Rl v a b) (k:Rl v b c):Rl v a c:=by
 obtain⟨h1,⟨f,hf,ef⟩,g,hg,eg⟩:=h
 obtain⟨k1,⟨f',hf',ef'⟩,g',hg',eg'⟩:=k
 refine⟨Int.le_trans h1 k1,⟨f' ∘ f,λs=>⟨(hf' _).1.trans (hf s).1,(hf' _).2.trans (hf s).2⟩,by rw[ef',ef,List.map_map]⟩,g' ∘ g,λy=>⟨(hg' _).1.trans (hg y).1,λl hl=>(hg' _).2.1 l ((hg y).2.1 l hl),λl hl=> ?_⟩,by rw[eg',eg,List.map_map]⟩
 rcases(hg' _).2.2 l hl with h | h
 ·exact(hg y).2.2 l h
 ·exact .inr h
theorem VI {p:Int} {c:aA} {i:aU} {a:bG}:Rl a.Vol c (vZ p c i a):=by
 refine⟨?_,⟨D3 i a,uA i a,rfl⟩,λy=>uH p i (rU i a y),λy=> ?_,by show (c.Chunks.map _).map _=_; rw[List.map_map]; rfl⟩
 ·show c.Seq≤if i.Kind=3 then max c.Seq (i.Seq+1) else c.Seq
  split <;> omega
 ·have h1:(uH p i (rU i a y)).Locs=(rU i a y).Locs:=by unfold uH; split <;> rfl
  refine⟨(DU p i _).trans (vQ i a y), ?_⟩
  rw[h1]
  unfold rU
  split
  ·refine⟨λl hl=>zM.2 (.inl hl),λl hl=> ?_⟩
   rcases zM.1 hl with h | h
   ·exact .inl h
   ·exact .inr (by rw[h])
  ·exact⟨λl hl=>hl,λl hl=>.inl hl⟩
theorem OI {p v f:Int}:∀(l:List aU) (c:aA),Rl v c (zS p v f c l)
 | [],c=>.refl v c
 | i::l,c=>(VI (a:=qL v f i)).trans (OI l _)
open Go.Vm
def uB (v f:Int) (c:aA) (l:List aU):aA:=l.foldl (λc i=>w9 c i (qL v f i)) c
theorem FU (v f:Int) (c:aA) (l:List aU) (i:aU):uB v f c (l++ [i])=w9 (uB v f c l) i (qL v f i):=by
 unfold uB
 rw[List.foldl_append]
 rfl
theorem FV (v f:Int):∀(l:List aU) (c:aA),(uB v f c l).Vols=c.Vols
 | [],_=>rfl
 | i::l,c=>FV v f l (w9 c i (qL v f i))
theorem RE {c:aA} {i:aU} {a:bG}:vZ 1 c i a=w9 c i a:=by
 unfold vZ
 rw[kR λy _=>by unfold uH; rw[if_neg (by omega)]]
theorem xC (v f:Int):∀(l:List aU) (c:aA),uB v f c l=zS 1 v f c l
 | [],_=>rfl
 | i::l,c=>by
  show uB v f (w9 c i (qL v f i)) l=zS 1 v f (vZ 1 c i (qL v f i)) l
  rw[RE,xC v f l]
def i6 (p:Int) (l:List aU) (y:aB):aB:=l.foldl (λy i=>uH p i y) y
theorem RF (p:Int) (l:List aU) (y:aB):(i6 p l y).Id=y.Id:=by
 unfold i6
 induction l generalizing y with
 | nil=>rfl
 | cons i l ih=>rw[List.foldl_cons,ih,DU]
theorem RG (p:Int) (i j:aU) (a:bG) (y:aB):uH p i (rU j a y)=rU j a (uH p i y):=by
 by_cases h2:j.Kind=1∧y.Id=j.Id <;> by_cases h1:p=0∧i.Kind=1∧y.Id=i.Id
 ·rw[show rU j a y= { y with Locs:=kQ y.Locs a} from if_pos h2,show uH p i y= { y with Staged:=false,Data:= []} from if_pos h1]
  exact(if_pos h1).trans (if_pos h2).symm
 ·rw[show rU j a y= { y with Locs:=kQ y.Locs a} from if_pos h2,show uH p i y=y from if_neg h1]
  exact(if_neg h1).trans (if_pos h2).symm
 ·rw[show rU j a y=y from if_neg h2,show uH p i y= { y with Staged:=false,Data:= []} from if_pos h1]
  exact(if_neg h2).symm
 ·rw[show rU j a y=y from if_neg h2,show uH p i y=y from if_neg h1]
  exact(if_neg h2).symm
theorem HY (p:Int) (l:List aU) (j:aU) (a:bG) (y:aB):i6 p l (rU j a y)=rU j a (i6 p l y):=by
 unfold i6
 induction l generalizing y with
 | nil=>rfl
 | cons i l ih=>rw[List.foldl_cons,List.foldl_cons,RG,ih]
theorem OJ {α:Type} {P:List α→Prop} (h0:P []) (h1:∀l x,P l→P (l++ [x])) (l:List α):P l:=by
 have:∀m:List α,P m.reverse:=λm=>by
  induction m with
  | nil=>exact h0
  | cons a m ih=>rw[List.reverse_cons]; exact h1 _ _ ih
 have:=this l.reverse
 rwa [List.reverse_reverse] at this
theorem RH (p v f:Int) (c:aA):∀l:List aU,zS p v f c l= { uB v f c l with Chunks:=(uB v f c l).Chunks.map (i6 p l)}:=OJ (by
 show c= { c with Chunks:=c.Chunks.map (i6 p [])}
 rw[show c.Chunks.map (i6 p [])=c.Chunks from kR λy _=>rfl]) λl i ih=>by
 rw[FN,FU,ih]
 unfold vZ w9
 simp only[List.map_map]
 congr 1
 refine List.map_congr_left λy _=> ?_
 show uH p i (rU i (qL v f i) (i6 p l y))=i6 p (l++ [i]) (rU i (qL v f i) y)
 rw[← HY]
 unfold i6
 rw[List.foldl_append]
 rfl
def Un (i j:aU):Prop:=¬(i.Kind=j.Kind∧(i.Kind=1→i.Id=j.Id)∧(i.Kind≠1→i.Seq=j.Seq))
theorem Mk.un {c:aA} {d:aR} (h:Mk c d):d.Items.Pairwise Un:=by
 rcases h.it with h | ⟨s,_,e⟩
 ·refine List.Pairwise.imp_of_mem (fun {a b} ha hb hn hu=> ?_) h.d
  obtain⟨u1,u2,u3⟩:=hu
  have wa:=(h.a a ha).w
  have wb:=(h.a b hb).w
  rcases wa with⟨ka,qa,_⟩ | ⟨ka,qa,_⟩ | ⟨ka,qa,_⟩ <;> rcases wb with⟨kb,qb,_⟩ | ⟨kb,qb,_⟩ | ⟨kb,qb,_⟩
  ·exact hn u1 (u2 ka) (by omega)
  ·omega
  ·omega
  ·omega
  ·exact hn u1 (by rw[qa,qb]) (u3 (by omega))
  ·omega
  ·omega
  ·omega
  ·exact hn u1 (by rw[qa,qb]) (u3 (by omega))
 ·rw[e]; exact List.pairwise_singleton _ _
theorem aBN {v f:Int} {i:aU} (k:i.Kind=1):∀ {m:List aU} {c:aA} {y:aB},(∀j∈m,Un j i)→y∈(uB v f c m).Chunks→y.Id=i.Id→y∈c.Chunks
 | [],_,_,_,h,_=>h
 | j::m,c,y,hu,h,e=>by
  have:=aBN k (m:=m) (λj hj=>hu j (List.mem_cons_of_mem _ hj)) h e
  obtain⟨z,hz,rfl⟩:=List.mem_map.1 this
  rw[vQ] at e
  have hj:=hu j List.mem_cons_self
  unfold rU
  rw[if_neg (λh=>hj ⟨by omega,λ_=>by rw[← h.2,e],λh2=>absurd h.1 h2⟩)]
  exact hz
theorem aBO {v f:Int} {i:aU} (k:i.Kind=2):∀ {m:List aU} {c:aA} {y:aH},(∀j∈m,Un j i)→y∈(uB v f c m).Snaps→y.Seq=i.Seq→y∈c.Snaps
 | [],_,_,_,h,_=>h
 | j::m,c,y,hu,h,e=>by
  have:=aBO k (m:=m) (λj hj=>hu j (List.mem_cons_of_mem _ hj)) h e
  obtain⟨z,hz,rfl⟩:=List.mem_map.1 this
  rw[(uA _ _ _).1] at e
  have hj:=hu j List.mem_cons_self
  unfold D3
  rw[if_neg (λh=>hj ⟨by omega,λh2=>absurd h2 (by omega),λ_=>by omega⟩)]
  exact hz
theorem aBP {v f:Int} {i:aU} (k:i.Kind=3):∀ {m:List aU} {c:aA} {y:aQ},(∀j∈m,Un j i)→y∈(uB v f c m).Exps→y.Seq=i.Seq→y∈c.Exps
 | [],_,_,_,h,_=>h
 | j::m,c,y,hu,h,e=>by
  have this:y∈(if j.Kind=3 then pG c.Exps j (qL v f j) else c.Exps):=aBP k (m:=m) (λj hj=>hu j (List.mem_cons_of_mem _ hj)) h e
  have hj:=hu j List.mem_cons_self
  split at this
  ·rename_i k3
   unfold pG at this
   rcases List.mem_append.1 this with h | h
   ·exact(List.mem_filter.1 h).1
   ·rcases List.mem_cons.1 h with rfl | h
    ·exact absurd ⟨by omega,λh2=>absurd h2 (by omega),λ_=>by rw[← e]; exact(FM c.Exps j).symm⟩ hj
    ·exact(List.mem_filter.1 h).1
  ·exact this
theorem OL {c:aA} {v:Int} {x:aP} {l:List bG} {i:aU} (hx:c.Vols[v.toNat]? =some x) (h:Lk c.Vols l):Nw l (qL v (x.Files+1) i):=by
 refine⟨h.o,λy hy hk=> ?_⟩
 obtain⟨h1,h2,h3⟩:=hk
 obtain⟨q1,w,q2,q3,q4,q5⟩:=DX (h.a y hy)
 have h1:y.Vol=v:=h1
 have h2:y.File=x.Files+1:=h2
 rw[h1,hx] at q2
 cases q2
 omega
theorem OM {c:aA} {d:aR} {x:aP} {k:Nat} {i:aU} (G:Gd c) (hx:c.Vols[d.Vol.toNat]? =some x) (hu:d.Items.Pairwise Un) (hi:d.Items[k]? =some i):NwI (uB d.Vol (x.Files+1) (ws c d.Vol x) (d.Items.take k)) i (qL d.Vol (x.Files+1) i):=by
 have hun:∀j∈d.Items.take k,Un j i:=λj hj=>by
  obtain⟨q,hq,rfl⟩:=List.getElem_of_mem hj
  simp only[List.length_take] at hq
  rw[List.getElem_take]
  exact OX hu (List.getElem?_eq_getElem (show q < d.Items.length by omega)) hi (by omega)
 exact⟨λk1 y hy e=>OL hx (G.cl y (aBN (c:=ws c d.Vol x) k1 hun hy e)),λk2 y hy e=>OL hx (G.sl y (aBO (c:=ws c d.Vol x) k2 hun hy e)),λk3 y hy e=>OL hx (G.el y (aBP (c:=ws c d.Vol x) k3 hun hy e))⟩
theorem ON {v f:Int}:∀ {l:List aU} {c:aA},Lv c→Lv (uB v f c l)
 | [],_,h=>h
 | i::l,c,h=>ON (l:=l) λy hy=>by
  obtain⟨z,hz,rfl⟩:=List.mem_map.1 hy
  have:=h z hz
  unfold rU
  split
  ·unfold vY
   rw[zO]
   simp
  ·exact this
theorem SQ {c:aA} (G:Gd c):Lv c:=λx hx=>by
 have:=G.cs x hx
 unfold vY
 cases e:x.Staged with
 | true=>rfl
 | false=>
  rw[e] at this
  have:=List.length_pos_iff.2 this.2
  simp; omega
theorem FW {v f:Int} {j:aU} {l:List aU} {c:aA}:kD (uB v f c l) j=kD c j:=by rw[xC,zV]
theorem OO {v f:Int} {c:aA} {l:List aU} {q:Int}:(uB v f c l).Snaps.any (λs=>s.Seq==q)=c.Snaps.any λs=>s.Seq==q:=by
 obtain⟨-,⟨g,hg,e⟩, -⟩:=OI (p:=1) (v:=v) (f:=f) l c
 rw[xC,e,List.any_map]
 congr 1
 funext s
 simp[(hg s).1]
open Go.Vm
theorem z7 {F:Nat} {c:aA} {d:aR} {e:aA} {n:Int} {r:Int×Int×List aH×List aB×List aQ×List aP} (hF:1000≤F) (h:Sm c) (hg:Gd c) (hd:F1 d) (hk:1≤d.Kind∧d.Kind≤5) (h91:rQ F c d=some r) (hr:(r.1=n∧n≠0)∨(n=0∧r=(0,e.Seq,e.Snaps,e.Chunks,e.Exps,e.Vols)∧Sm e)):
    IW F c d=some (if n=0 then (if iB e=true then (e,0) else (bU,1)) else (bU,n)):=by
  unfold IW
  rw[m19 hF h,jV.2 hg]
  simp only[Option.bind_some,Bool.not_true,Bool.false_eq_true,if_false]
  rw[if_neg (by simp; omega)]
  simp only[aG]
  rw[if_neg (by simp; omega),aF5 hF h,p92 hF hd]
  simp only[Option.bind_some]
  rw[show rQ F { Seq:=c.Seq,Snaps:=c.Snaps,Chunks:=c.Chunks,Exps:=c.Exps,Vols:=c.Vols} d=some r from h91]
  simp only[Option.bind_some]
  rcases hr with⟨h1,h2⟩ | ⟨rfl,rfl,hs⟩
  · rw[if_pos (by simpa [h1] using h2),if_neg h2,h1]
    rfl
  · rw[if_neg (by simp),if_pos rfl]
    rw[show T5 F { Seq:=e.Seq,Snaps:=e.Snaps,Chunks:=e.Chunks,Exps:=e.Exps,Vols:=e.Vols}=some (iB e) from m19 hF hs]
    simp only[Option.bind_some]
    cases iB e <;> rfl
theorem VJ {F:Nat} {d:aR} {b:Bool} (hF:1000≤F) (hd:F1 d):aT (λs=>rO F d s.1 s.2) F (b,0)=some (.brk (b && kC d.Chunks,(d.Chunks.length:Int))):=by
 have hc:=hd.cn
 have:=jX (body:=λs:Bool×Int=>rO F d s.1 s.2) (s0:=(b,(0:Int))) (n:=d.Chunks.length) (F:=F) (λk:Nat=>(b && (d.Chunks.take k).all λx=>x.Staged && ((x.Locs.length:Int)==0),(k:Int))) (by omega) (by simp) (λk hk=>by
  have hx:d.Chunks[k]? =some d.Chunks[k]:=List.getElem?_eq_getElem hk
  unfold rO
  simp only
  rw[f9 (by omega),List.take_succ_eq_append_getElem hk]
  simp only[bB,hx,Option.bind_some,Int.ofNat_lt,hk,decide_true,if_true,List.all_append,List.all_cons,List.all_nil,Bool.and_true]
  rw[← Bool.and_assoc]
  cases (b && (d.Chunks.take k).all λx=>x.Staged && ((x.Locs.length:Int)==0)) with
  | false=>simp[aG]
  | true=>cases (d.Chunks[k]).Staged <;> simp[aG]) (by unfold rO; simp)
 rw[this,List.take_length]
 congr 4
 unfold kC
 rw[List.all_eq_not_any_not]
 congr 2
 funext x
 cases x.Staged with
 | false=>simp
 | true=>
  cases x.Locs with
  | nil=>simp
  | cons a l=>simp; omega
theorem RI {F:Nat} {c:aA} {d:aR} (hF:1000≤F) (h:Sm c) (hg:Gd c) (hd:F1 d) (k:d.Kind=1):
    IW F c d=some (if d.Snap.Seq=c.Seq∧kC d.Chunks=true then (if c.Snaps.any (λs=>s.Man.Name.toList==d.Snap.Man.Name.toList) then (bU,9) else if iB (ad c d) then (ad c d,0) else (bU,1)) else (bU,1)):=by
  have hsn:=h.sn
  have hcn:=hg.cn
  have hdn:=hd.cn
  have hq:=hg.q
  unfold gN at hq
  simp only[Bool.and_eq_true,decide_eq_true_eq] at hq
  have hr:uG c.Chunks:=rN.2 ⟨λx hx=>(h.g.2.2.1 x hx).1,hg.co⟩
  have go:∀(e:aA) (n:Int) (r),rQ F c d=some r→_→_:=λe n r h1=>z7 (e:=e) (n:=n) hF h hg hd (by omega) h1
  have l1:=λb=>VJ (b:=b) hF hd
  by_cases e1:d.Snap.Seq=c.Seq∧kC d.Chunks=true
  · rw[if_pos e1]
    have nm:=aE6 hF (c:=c) (nm:=d.Snap.Man.Name) (by omega)
    cases ha:c.Snaps.any (λs=>s.Man.Name.toList==d.Snap.Man.Name.toList) with
    | true=>
      obtain⟨p,x,h1, -⟩:=gH ha
      rw[h1] at nm
      have e0:rQ F c d=some (9,c.Seq,c.Snaps,c.Chunks,c.Exps,c.Vols):=by
        unfold rQ
        rw[if_pos (by simp[k]),if_pos (by simp[e1.1]),hd.locs]
        simp only[aG,l1,e1.2]
        rw[if_neg (by simp),show yJ F { Seq:=c.Seq,Snaps:=c.Snaps,Chunks:=c.Chunks,Exps:=c.Exps,Vols:=c.Vols} d.Snap.Man.Name=some (p:Int) from nm]
        simp[cO]
      rw[go bU 9 _ e0 (.inl ⟨rfl,by decide⟩)]
      rfl
    | false=>
      rw[gP ha] at nm
      have hloop:=jX (body:=λs:List aB×Int=>vP F d s.1 s.2) (s0:=(c.Chunks,(0:Int))) (n:=d.Chunks.length) (F:=F) (λi:Nat=>(l8 c.Chunks (d.Chunks.take i),(i:Int))) (by omega) rfl (λi hi=>by
        have hx:d.Chunks[i]? =some d.Chunks[i]:=List.getElem?_eq_getElem hi
        have hm:=List.getElem_mem hi
        have ht:d.Chunks.take (i+1)=d.Chunks.take i++ [d.Chunks[i]]:=List.take_succ_eq_append_getElem hi
        have hR:=rS (ns:=d.Chunks.take i) hr λn hn=>(hd.ch n (List.mem_of_mem_take hn)).1
        have hL:=o1 (ns:=d.Chunks.take i) (l:=c.Chunks)
        have hA:=o3 (P:=λx=>x.Locs.length≤300∧x.Data.length≤300) (ns:=d.Chunks.take i) (l:=c.Chunks) h.cl (λn hn=>⟨by simp,(hd.ch n (List.mem_of_mem_take hn)).2.1⟩) λx hx n hn=>⟨hx.1,(hd.ch n (List.mem_of_mem_take hn)).2.1⟩
        rw[List.length_take] at hL
        rw[ht]
        have hfr:(d.Chunks[i]).Staged=true:=by
          have:=e1.2
          unfold kC at this
          simp only[Bool.not_eq_true',List.any_eq_false] at this
          have:=this _ hm
          simp at this
          exact this.1
        generalize d.Chunks[i]=n at hx hm hfr
        unfold vP
        simp only
        rw[f9 (by omega)]
        simp only[bB,hx,Option.bind_some,Int.ofNat_lt,hi,decide_true,if_true]
        rw[aG7 hF hR (hd.ch n hm).1 (by omega) hA hfr (hd.ch n hm).2.2.2 (hd.ch n hm).2.1]
        unfold l8
        rw[List.foldl_append]
        rfl) (by unfold vP; simp)
      have e0:rQ F c d=some (0,(ad c d).Seq,(ad c d).Snaps,(ad c d).Chunks,(ad c d).Exps,(ad c d).Vols):=by
        unfold rQ
        rw[if_pos (by simp[k]),if_pos (by simp[e1.1])]
        have hl0:=hd.locs
        simp only[hl0,aG,l1,e1.2]
        rw[if_neg (by simp),show yJ F { Seq:=c.Seq,Snaps:=c.Snaps,Chunks:=c.Chunks,Exps:=c.Exps,Vols:=c.Vols} d.Snap.Man.Name=some (-1) from nm]
        simp only[Option.bind_some]
        rw[if_neg (by decide),cB (by simp; omega)]
        simp only[Option.bind_some]
        rw[hloop]
        simp only[aG,List.take_length,wr (n:=c.Seq+1) (by omega) (by omega)]
        have:d.Snap= { Seq:=d.Snap.Seq,Man:=d.Snap.Man,Locs:= []}:=by rw[← hl0]
        unfold ad
        simp only
        rw[← this]
      rw[go (ad c d) 0 _ e0 (.inr ⟨rfl,rfl,N6 h hg hd⟩)]
      rfl
  · rw[if_neg e1]
    have e0:∃r,rQ F c d=some r∧r.1=1:=by
      unfold rQ
      rw[if_pos (by simp[k])]
      by_cases e2:d.Snap.Seq=c.Seq
      · have e3:kC d.Chunks=false:=by
          cases h:kC d.Chunks with
          | false=>rfl
          | true=>exact absurd ⟨e2,h⟩ e1
        rw[if_pos (by simp[e2])]
        simp only[aG,l1,e3,Bool.and_false]
        rw[if_pos (by simp)]
        exact⟨_,rfl,rfl⟩
      · rw[if_neg (by simpa using e2)]
        simp only[aG,l1,Bool.false_and]
        rw[if_pos (by simp)]
        exact⟨_,rfl,rfl⟩
    obtain⟨r,e0,e3⟩:=e0
    rw[go bU 1 r e0 (.inl ⟨e3,by decide⟩)]
    rfl
theorem OP {F:Nat} {c:aA} {d:aR} (hF:1000≤F) (h:Sm c) (hg:Gd c) (hd:F1 d) (k:d.Kind=2):
    IW F c d=some (if c.Snaps.any (λs=>s.Seq==d.Seq) then (if iB (wX c d.Seq) then (wX c d.Seq,0) else (bU,1)) else (bU,8)):=by
  have go:∀(e:aA) (n:Int) (r),rQ F c d=some r→_→_:=λe n r h1=>z7 (e:=e) (n:=n) hF h hg hd (by omega) h1
  have e1:DC F { Seq:=c.Seq,Snaps:=c.Snaps,Chunks:=c.Chunks,Exps:=c.Exps,Vols:=c.Vols} d.Seq=_:=VH hF h (SQ hg)
  cases ha:c.Snaps.any (λs=>s.Seq==d.Seq) with
  | true=>
    rw[ha,if_pos rfl] at e1
    have e0:rQ F c d=some (0,(wX c d.Seq).Seq,(wX c d.Seq).Snaps,(wX c d.Seq).Chunks,(wX c d.Seq).Exps,(wX c d.Seq).Vols):=by
      unfold rQ
      rw[if_neg (by simp[k]),if_pos (by simp[k]),e1]
      rfl
    rw[go (wX c d.Seq) 0 _ e0 (.inr ⟨rfl,rfl,DT h⟩)]
    rfl
  | false=>
    rw[ha,if_neg (by decide)] at e1
    have e0:rQ F c d=some (8,c.Seq,c.Snaps,c.Chunks,c.Exps,c.Vols):=by
      unfold rQ
      rw[if_neg (by simp[k]),if_pos (by simp[k]),e1]
      rfl
    rw[go bU 8 _ e0 (.inl ⟨rfl,by decide⟩)]
    rfl
theorem RJ {F:Nat} {c:aA} {d:aR} {x:aP} (hF:1000≤F) (h:Sm c) (hg:Gd c) (hd:F1 d) (k:d.Kind=4) (h0:0≤d.Vol) (hx:c.Vols[d.Vol.toNat]? =some x):
    IW F c d=some (if x.State=2 then (if iB (ret c d.Vol x) then (ret c d.Vol x,0) else (bU,1)) else (bU,1)):=by
  have hsn:=h.sn
  have hch:=h.ch
  have hex:=h.ex
  have go:∀(e:aA) (n:Int) (r),rQ F c d=some r→_→_:=λe n r h1=>z7 (e:=e) (n:=n) hF h hg hd (by omega) h1
  have e1:AN F { Seq:=c.Seq,Snaps:=c.Snaps,Chunks:=c.Chunks,Exps:=c.Exps,Vols:=c.Vols} d.Vol 2 2=_:=VG (a:=2) (b:=2) h0 hx
  by_cases e2:x.State=2
  · rw[if_pos e2]
    have hl:=(List.getElem?_eq_some_iff.1 hx).1
    have e0:rQ F c d=some (0,(ret c d.Vol x).Seq,(ret c d.Vol x).Snaps,(ret c d.Vol x).Chunks,(ret c d.Vol x).Exps,(ret c d.Vol x).Vols):=by
      unfold rQ
      rw[if_neg (by simp[k]),if_neg (by simp[k]),if_neg (by simp[k]),if_pos (by simp[k]),e1]
      simp only[Option.bind_some,e2,beq_self_eq_true,Bool.or_self]
      rw[if_neg (by simp)]
      simp only[nS _ h0,hx,Option.bind_some,List.getElem?_set_self hl]
      rw[mQ (l:=c.Chunks) [] (λy=> !FJ (NP d.Vol y)) (NP d.Vol) (by omega) (λi y hy hm hi acc ha=>by
        simp only[List.length_nil] at ha
        unfold tT
        simp only
        rw[f9 (by omega)]
        have ea:∀z:aB,app acc [z]=some (acc++ [z]):=λz=>cB (by simp; omega)
        simp only[bB,hy,Option.bind_some,Int.ofNat_lt,hi,decide_true,if_true,VF hF (h.cl y hm).1,ea]
        unfold FJ NP
        simp only
        by_cases q:(lf d.Vol y.Locs).length=0
        · cases y.Staged <;> simp[q,aG]
        · have:0 < (lf d.Vol y.Locs).length:=by omega
          cases y.Staged <;> simp[q,this,aG]) (λacc=>by unfold tT; simp)]
      simp only[aG,List.nil_append]
      rw[lV (l:=c.Snaps) (λs=> { s with Locs:=lf d.Vol s.Locs}) (by omega) (λcur i y hc hy hm hi=>by
        unfold tU
        simp only
        rw[f9 (by omega)]
        simp only[bB,hy,hc,Option.bind_some,Int.ofNat_lt,hi,decide_true,if_true,VF hF (h.sl y hm),Int.toNat_natCast]) (λcur hc=>by unfold tU; simp[hc])]
      simp only[aG]
      rw[mQ (l:=c.Exps) [] (λy=> !(((NQ d.Vol y).Locs.length:Int)==0)) (NQ d.Vol) (by omega) (λi y hy hm hi acc ha=>by
        simp only[List.length_nil] at ha
        unfold tV
        simp only
        rw[f9 (by omega)]
        have ea:∀z:aQ,app acc [z]=some (acc++ [z]):=λz=>cB (by simp; omega)
        simp only[bB,hy,Option.bind_some,Int.ofNat_lt,hi,decide_true,if_true,VF hF (h.el y hm),ea]
        unfold NQ
        simp only
        by_cases q:(lf d.Vol y.Locs).length=0
        · simp[q,aG]
        · have:0 < (lf d.Vol y.Locs).length:=by omega
          simp[q,this,aG]) (λacc=>by unfold tV; simp)]
      simp only[aG,List.nil_append,List.set_set]
      unfold ret
      simp only[List.filter_map]
      rfl
    rw[go (ret c d.Vol x) 0 _ e0 (.inr ⟨rfl,rfl,HU h hx⟩)]
    rfl
  · rw[if_neg e2]
    have e0:rQ F c d=some (1,c.Seq,c.Snaps,c.Chunks,c.Exps,c.Vols):=by
      unfold rQ
      rw[if_neg (by simp[k]),if_neg (by simp[k]),if_neg (by simp[k]),if_pos (by simp[k]),e1]
      simp only[Option.bind_some]
      rw[if_pos (by simp[e2])]
      rfl
    rw[go bU 1 _ e0 (.inl ⟨rfl,by decide⟩)]
    rfl
theorem RK {F:Nat} {c:aA} {d:aR} {x:aP} (hF:1000≤F) (h:Sm c) (hg:Gd c) (hd:F1 d) (k:d.Kind=5) (h0:0≤d.Vol) (hx:c.Vols[d.Vol.toNat]? =some x):
    IW F c d=some (if x.State=3 then (if iB (rel c d.Vol x) then (rel c d.Vol x,0) else (bU,1)) else (bU,1)):=by
  have go:∀(e:aA) (n:Int) (r),rQ F c d=some r→_→_:=λe n r h1=>z7 (e:=e) (n:=n) hF h hg hd (by omega) h1
  have e1:AN F { Seq:=c.Seq,Snaps:=c.Snaps,Chunks:=c.Chunks,Exps:=c.Exps,Vols:=c.Vols} d.Vol 3 3=_:=VG (a:=3) (b:=3) h0 hx
  have ep:=HW hg hx
  by_cases e2:x.State=3
  · rw[if_pos e2]
    have hl:=(List.getElem?_eq_some_iff.1 hx).1
    have e0:rQ F c d=some (0,(rel c d.Vol x).Seq,(rel c d.Vol x).Snaps,(rel c d.Vol x).Chunks,(rel c d.Vol x).Exps,(rel c d.Vol x).Vols):=by
      unfold rQ
      rw[if_neg (by simp[k]),if_neg (by simp[k]),if_neg (by simp[k]),if_neg (by simp[k]),if_pos (by simp[k]),e1]
      simp only[Option.bind_some,e2,beq_self_eq_true,Bool.or_self]
      rw[if_neg (by simp)]
      simp only[nS _ h0,hx,Option.bind_some,List.getElem?_set_self hl,List.set_set,wr (n:=x.Epoch+1) (by omega) (by omega),aG]
      rfl
    rw[go (rel c d.Vol x) 0 _ e0 (.inr ⟨rfl,rfl,HV h hx ⟨ep.2,ep.1⟩⟩)]
    rfl
  · rw[if_neg e2]
    have e0:rQ F c d=some (1,c.Seq,c.Snaps,c.Chunks,c.Exps,c.Vols):=by
      unfold rQ
      rw[if_neg (by simp[k]),if_neg (by simp[k]),if_neg (by simp[k]),if_neg (by simp[k]),if_pos (by simp[k]),e1]
      simp only[Option.bind_some]
      rw[if_pos (by simp[e2])]
      rfl
    rw[go bU 1 _ e0 (.inl ⟨rfl,by decide⟩)]
    rfl
open Go.Vm
theorem VK {F:Nat} {d:aR} {b:Bool} (hF:1000≤F) (hn:d.Items.length≤64):aT (λs=>rP F d s.1 s.2) F (b,0)=some (.brk (b && !(d.Items.any λi=>decide (i.Kind < 1) || decide (3 < i.Kind)),(d.Items.length:Int))):=by
 have:=jX (body:=λs:Bool×Int=>rP F d s.1 s.2) (s0:=(b,(0:Int))) (n:=d.Items.length) (F:=F) (λk:Nat=>(b && (d.Items.take k).all λi=>decide (1≤i.Kind) && decide (i.Kind≤3),(k:Int))) (by omega) (by simp) (λk hk=>by
  have hx:d.Items[k]? =some d.Items[k]:=List.getElem?_eq_getElem hk
  unfold rP
  simp only
  rw[f9 (by omega),List.take_succ_eq_append_getElem hk]
  simp only[bB,hx,Option.bind_some,Int.ofNat_lt,hk,decide_true,if_true,List.all_append,List.all_cons,List.all_nil,Bool.and_true]
  rw[← Bool.and_assoc]
  cases (b && (d.Items.take k).all λi=>decide (1≤i.Kind) && decide (i.Kind≤3)) with
  | false=>simp[aG]
  | true=>by_cases h1:1≤(d.Items[k]).Kind <;> simp[h1,aG]) (by unfold rP; simp)
 rw[this,List.take_length]
 congr 4
 rw[List.all_eq_not_any_not]
 congr 2
 funext x
 by_cases h1:1≤x.Kind <;> by_cases h2:x.Kind≤3 <;> simp[h1,h2] <;> omega
theorem VL {F:Nat} {c:aA} {d:aR} {x:aP} {e:aA} (hF:1000≤F) (hS:Sm e) (hv:Lv e) (hn:d.Items.length≤64) (hV:(c.Vols.set d.Vol.toNat { x with State:=2}).set d.Vol.toNat { ({ x with State:=2}:aP) with Files:=IntKind.wrap .i64 (x.Files+1)}=e.Vols)
    (hno:∀i∈d.Items,i.Kind=3→e.Snaps.any (λs=>s.Seq==i.Of)=false):
    aT (λs=>nB F c d x e.Seq e.Exps s.1 s.2.1 s.2.2) F (e.Snaps,e.Chunks,0)=some (.brk (e.Snaps,e.Chunks,(d.Items.length:Int))):=by
  refine jX (λk:Nat=>(e.Snaps,e.Chunks,(k:Int))) (by omega) rfl (λk hk=> ?_) (by unfold nB; simp)
  have hx:d.Items[k]? =some d.Items[k]:=List.getElem?_eq_getElem hk
  have hm:=List.getElem_mem hk
  generalize d.Items[k]=i at hx hm
  unfold nB
  simp only
  rw[f9 (by omega)]
  simp only[bB,hx,Option.bind_some,Int.ofNat_lt,hk,decide_true,if_true,hV]
  rw[show DC F { Seq:=e.Seq,Snaps:=e.Snaps,Chunks:=e.Chunks,Exps:=e.Exps,Vols:=e.Vols} i.Of=_ from VH hF hS hv]
  by_cases k3:i.Kind=3
  · rw[if_pos (by simp[k3]),hno i hm k3]
    simp[aG]
  · rw[if_neg (by simpa using k3)]
    rfl
theorem RL {F:Nat} {c:aA} {d:aR} {x:aP} {q:Int} {ex:List aQ} {sn:List aH} {l:List aB} (hF:1000≤F) (hr:uG l) (hl:l.length≤400) (hn:d.Items.length≤64):
    aT (λs=>nK F c d x q ex sn s.1 s.2) F (l,0)=some (.brk (l.map (i6 0 d.Items),(d.Items.length:Int))):=by
  have:=jX (body:=λs:List aB×Int=>nK F c d x q ex sn s.1 s.2) (s0:=(l,(0:Int))) (n:=d.Items.length) (F:=F) (λk:Nat=>(l.map (i6 0 (d.Items.take k)),(k:Int))) (by omega) (by rw[show l.map (i6 0 (d.Items.take 0))=l from kR λy _=>rfl]; rfl) (λk hk=>by
    have hx:d.Items[k]? =some d.Items[k]:=List.getElem?_eq_getElem hk
    have ht:d.Items.take (k+1)=d.Items.take k++ [d.Items[k]]:=List.take_succ_eq_append_getElem hk
    have hR:=xA (RF 0 (d.Items.take k)) hr
    have hL:(l.map (i6 0 (d.Items.take k))).length≤400:=by simpa using hl
    have hM:l.map (i6 0 (d.Items.take (k+1)))=(l.map (i6 0 (d.Items.take k))).map (uH 0 d.Items[k]):=by
      rw[ht,List.map_map]
      refine List.map_congr_left λy _=> ?_
      unfold i6
      rw[List.foldl_append]
      rfl
    rw[hM]
    generalize l.map (i6 0 (d.Items.take k))=m at hR hL
    generalize d.Items[k]=i at hx
    unfold nK
    simp only
    rw[f9 (by omega)]
    simp only[bB,hx,Option.bind_some,Int.ofNat_lt,hk,decide_true,if_true]
    have e88:∀c':aA,c'.Chunks=m→KS F c' i.Id=some (n3 m λy=>decide (y.Id=i.Id)):=λc' h=>by rw[p88 hF (by rw[h]; exact hL),h]
    rw[e88 _ rfl]
    by_cases k1:i.Kind=1
    · rw[if_pos (by simp[k1])]
      cases hh:m.any λy=>decide (y.Id=i.Id) with
      | false=>
        rw[gP hh,kR λy hy=>by
          have:=List.any_eq_false.1 hh y hy
          unfold uH
          rw[if_neg λh=>this (decide_eq_true h.2.2)]]
        simp[aG]
      | true=>
        obtain⟨p,y,h1,h2,h3,h4⟩:=gH hh
        have h3:y.Id=i.Id:=by simpa using h3
        have hpl:=(List.getElem?_eq_some_iff.1 h2).1
        rw[h1]
        simp only[Option.bind_some]
        rw[if_pos (by simp)]
        simp only[bB,h2,Option.bind_some,Int.toNat_natCast]
        rw[List.getElem?_set_self hpl]
        simp only[Option.bind_some,List.set_set,aG]
        have e9:m.set p { y with Staged:=false,Data:= []}=m.map (uH 0 i):=by
          rw[qK (λz:aB=>z.Id=i.Id) (λz=> { z with Staged:=false,Data:= []}) h2 h3 (λz hz e=>by
            have:=h4 z hz
            simp[e] at this) (λz hz e=>by
            obtain⟨j,hj,rfl⟩:=List.getElem_of_mem hz
            simp only[List.length_drop] at hj
            rw[List.getElem_drop] at e
            have:=hR.2 p (p+1+j) _ _ h2 (List.getElem?_eq_getElem (by omega)) (by omega)
            rw[e,h3] at this; omega)]
          refine List.map_congr_left λz _=> ?_
          unfold uH
          simp only[k1,true_and]
        rw[e9]
    · rw[if_neg (by simpa using k1),kR λy _=>by unfold uH; rw[if_neg (by omega)]]
      rfl) (by unfold nK; simp)
  rw[this,List.take_length]
theorem BO {p:Int} {l:List aU} {m:List aB} (h:p≠0∨∀i∈l,i.Kind≠1):m.map (i6 p l)=m:=kR λy _=>by
 unfold i6
 induction l generalizing y with
 | nil=>rfl
 | cons i l ih=>
  rw[List.foldl_cons,show uH p i y=y from if_neg λhh=>by
   rcases h with h | h
   ·exact h hh.1
   ·exact h i List.mem_cons_self hh.2.1]
  exact ih (h.imp_right λh j hj=>h j (List.mem_cons_of_mem _ hj)) y ‹_›
theorem KN {F:Nat} {c:aA} {d:aR} {x:aP} (hF:1000≤F) (h:Sm c) (hg:Gd c) (hd:F1 d) (hm:Mk c d) (k:d.Kind=3) (hx:c.Vols[d.Vol.toNat]? =some x):
    IW F c d=some (if jW x d=true then (if d.Items.all (kD c)=true then (if iB (tZ c d x)=true then (tZ c d x,0) else (bU,1)) else (bU,8)) else (bU,1)):=by
  have go:∀(e:aA) (n:Int) (r),rQ F c d=some r→_→_:=λe n r h1=>z7 (e:=e) (n:=n) hF h hg hd (by omega) h1
  have hv:=hm.v
  have hn:=hd.it
  have hw:=hm.wd hg hd
  have gv:=hd.vol
  have hxb:=hg.v x (List.mem_of_getElem? hx)
  unfold nE gN at hxb
  simp only[Bool.and_eq_true,Bool.or_eq_true,decide_eq_true_eq,beq_iff_eq] at hxb
  have gf:0≤x.Files∧x.Files≤65535:=by omega
  have gF:gI (x.Files+1):=⟨by omega,by omega⟩
  have e1:AN F { Seq:=c.Seq,Snaps:=c.Snaps,Chunks:=c.Chunks,Exps:=c.Exps,Vols:=c.Vols} d.Vol 1 2=_:=VG (a:=1) (b:=2) hv.1 hx
  have l5:=λb=>VK (b:=b) hF hn
  have hW:=OD h hg hx
  have pre:∀(Q:Int×Int×List aH×List aB×List aQ×List aP→Prop),
      (jW x d=false→∀a b e f g,Q (1,a,b,e,f,g))→(jW x d=true→T ((ix c.Vols d.Vol).bind λx14318=>after (aT (λs=>qA F c d x14318 s.1 s.2.1 s.2.2.1 s.2.2.2.1 s.2.2.2.2) F (c.Seq,c.Snaps,c.Chunks,c.Exps,0)) λ⟨r14470,r14471,r14472,r14473,r14474⟩=>after (aT (λs=>nB F c d x14318 r14470 r14473 s.1 s.2.1 s.2.2) F (r14471,r14472,0)) λ⟨r14611,r14612,r14613⟩=>after (if ((({ ({ x14318 with State:=2}:aP) with Files:=IntKind.wrap .i64 (x14318.Files+1)}:aP).Pool)==0)=true then (after (aT (λs=>nK F c d x14318 r14470 r14473 r14611 s.1 s.2) F (r14612,0)) λ⟨r15156,r15157⟩=>some (.brk r15156)) else some (.brk r14612):Option (Lp ((List aB)) (Lp (Int×(List aH)×(List aB)×(List aQ)×(List aP)) (Lp (Int×(List aH)×(List aB)×(List aQ)×(List aP)) (Lp (Int×(List aH)×(List aB)×(List aQ)×(List aP)) (Int×Int×(List aH)×(List aB)×(List aQ)×(List aP))))))) λj14888=>some (.brk (r14470,r14611,j14888,r14473,(c.Vols.set d.Vol.toNat ({ x14318 with State:=2})).set d.Vol.toNat ({ ({ x14318 with State:=2}:aP) with Files:=IntKind.wrap .i64 (x14318.Files+1)})))) (λy=>(∃r,y= .ret (.ret (.ret r))∧Q r)∨∃s,y= .brk s∧Q (0,s)))→T (rQ F c d) Q:=λQ q1 q2=>by
    unfold rQ
    rw[if_neg (by simp[k]),if_neg (by simp[k]),if_pos (by simp[k]),e1]
    simp only[Option.bind_some]
    have hcond:∀(ρ:Type) (kk:Bool→Option ρ),(after (if (x.State==1 || x.State==2)=true then (if (decide (1≤(d.Items.length:Int)))=true then (some (.brk (decide ((d.Items.length:Int)≤64)))) else some (.brk false)) else some (.brk false):Option (Lp (Bool) ρ)) kk)=kk (!(x.State==3) && !d.Items.isEmpty):=λρ kk=>by
      by_cases s3:x.State=3
      · rw[if_neg (by simp[s3])]
        simp[s3,aG]
      · rw[if_pos (by simp; omega)]
        by_cases em:d.Items= []
        · simp[em,aG]
        · have:=List.length_pos_iff.2 em
          rw[if_pos (decide_eq_true (by omega))]
          have e64:decide ((d.Items.length:Int)≤64)=true:=decide_eq_true (by omega)
          rw[e64]
          have em2:d.Items.isEmpty=false:=by simpa using em
          have s32:(x.State==3)=false:=by simpa using s3
          rw[s32,em2]
          rfl
    rw[hcond,l5]
    simp only[aG]
    have hwc:(!(x.State==3) && !d.Items.isEmpty && !(d.Items.any λi=>decide (i.Kind < 1) || decide (3 < i.Kind)))=jW x d:=rfl
    rw[hwc]
    cases hc:jW x d with
    | false=>
      rw[if_pos (by simp)]
      exact⟨_,rfl,q1 hc _ _ _ _ _⟩
    | true=>
      rw[if_neg (by simp)]
      obtain⟨y,hy,hq⟩:=q2 hc
      rw[hy]
      rcases hq with⟨r,rfl,hr⟩ | ⟨s,rfl,hs⟩
      · exact⟨_,rfl,hr⟩
      · exact⟨_,rfl,hs⟩
  have main:T (rQ F c d) λr=>if jW x d=true then (if d.Items.all (kD c)=true then r=(0,(tZ c d x).Seq,(tZ c d x).Snaps,(tZ c d x).Chunks,(tZ c d x).Exps,(tZ c d x).Vols) else r.1=8) else r.1=1:=by
    refine pre _ (λhc a b e f g=>by rw[hc]; simp) λhc=> ?_
    rw[hc]
    simp only[if_true]
    have hI:∀i∈d.Items,It i:=λi hi=>by
      obtain⟨a1,a2,a3,a4,a5⟩:=hw.it i hi
      unfold jW at hc
      simp only[Bool.and_eq_true,Bool.not_eq_true',List.any_eq_false,Bool.or_eq_true,decide_eq_true_eq,not_or,Int.not_lt] at hc
      exact⟨a1,a2,hc.2 i hi,a3,a4,a5⟩
    refine .bindEq (by rw[nS _ hv.1,hx]) ?_
    have wF:IntKind.wrap .i64 (x.Files+1)=x.Files+1:=wr (by omega) (by omega)
    have hVw:∀m:List aU,(c.Vols.set d.Vol.toNat { x with State:=2}).set d.Vol.toNat { ({ x with State:=2}:aP) with Files:=x.Files+1}=(uB d.Vol (x.Files+1) (ws c d.Vol x) m).Vols:=λm=>by
      rw[FV,List.set_set]; rfl
    have hWi:∀n,Wm (200+(d.Items.take n).length) (uB d.Vol (x.Files+1) (ws c d.Vol x) (d.Items.take n)):=λn=>by
      rw[xC]
      exact zU gv gF hW λj hj=>hI j (List.mem_of_mem_take hj)
    have key:=zR (body:=λs:Int×List aH×List aB×List aQ×Int=>qA F c d x s.1 s.2.1 s.2.2.1 s.2.2.2.1 s.2.2.2.2) (n:=d.Items.length)
      (λn=>((uB d.Vol (x.Files+1) (ws c d.Vol x) (d.Items.take n)).Seq,(uB d.Vol (x.Files+1) (ws c d.Vol x) (d.Items.take n)).Snaps,(uB d.Vol (x.Files+1) (ws c d.Vol x) (d.Items.take n)).Chunks,(uB d.Vol (x.Files+1) (ws c d.Vol x) (d.Items.take n)).Exps,(n:Int)))
      (λn=>(d.Items[n]?).any (kD c)) (λy=>∃r,y= .ret (.ret (.ret r))∧r.1=8)
      (λn hn' hp=>by
        have hi:d.Items[n]? =some d.Items[n]:=List.getElem?_eq_getElem hn'
        have hmm:=List.getElem_mem hn'
        have hWn:=hWi n
        rw[List.length_take] at hWn
        have h156:=aBM hF hWn (by omega) (hI _ hmm) (OM hg hx hm.un hi)
        rw[FW] at h156
        rw[hi] at hp
        rw[show kD (ws c d.Vol x) d.Items[n]=true from hp,if_pos rfl] at h156
        rw[List.take_succ_eq_append_getElem hn',FU]
        generalize d.Items[n]=i at hi h156
        have hVn:=hVw (d.Items.take n)
        generalize uB d.Vol (x.Files+1) (ws c d.Vol x) (d.Items.take n)=e at h156 hVn
        unfold qA
        simp only
        rw[f9 (by omega)]
        simp only[bB,hi,Option.bind_some,Int.ofNat_lt,hn',decide_true,if_true,wF,hVn]
        rw[show HM F { Seq:=e.Seq,Snaps:=e.Snaps,Chunks:=e.Chunks,Exps:=e.Exps,Vols:=e.Vols} i { Vol:=d.Vol,File:=x.Files+1,Off:=i.Off,Len:=i.Len}=_ from h156]
        rfl)
      (λn hn' hp=>by
        have hi:d.Items[n]? =some d.Items[n]:=List.getElem?_eq_getElem hn'
        have hmm:=List.getElem_mem hn'
        have hWn:=hWi n
        rw[List.length_take] at hWn
        have h156:=aBM hF hWn (by omega) (hI _ hmm) (OM hg hx hm.un hi)
        rw[FW] at h156
        rw[hi] at hp
        rw[show kD (ws c d.Vol x) d.Items[n]=false from hp,if_neg (by decide)] at h156
        generalize d.Items[n]=i at hi h156
        have hVn:=hVw (d.Items.take n)
        generalize uB d.Vol (x.Files+1) (ws c d.Vol x) (d.Items.take n)=e at h156 hVn
        refine⟨.ret (.ret (.ret (8,e.Seq,e.Snaps,e.Chunks,e.Exps,e.Vols))),⟨_,rfl,rfl⟩, ?_⟩
        unfold qA
        simp only
        simp only[bB,hi,Option.bind_some,Int.ofNat_lt,hn',decide_true,if_true,wF,hVn]
        rw[show HM F { Seq:=e.Seq,Snaps:=e.Snaps,Chunks:=e.Chunks,Exps:=e.Exps,Vols:=e.Vols} i { Vol:=d.Vol,File:=x.Files+1,Off:=i.Off,Len:=i.Len}=_ from h156]
        rfl)
      (by unfold qA; simp) d.Items.length 0 F (by omega) (by omega)
    have st0:(c.Seq,c.Snaps,c.Chunks,c.Exps,(0:Int))=((uB d.Vol (x.Files+1) (ws c d.Vol x) (d.Items.take 0)).Seq,(uB d.Vol (x.Files+1) (ws c d.Vol x) (d.Items.take 0)).Snaps,(uB d.Vol (x.Files+1) (ws c d.Vol x) (d.Items.take 0)).Chunks,(uB d.Vol (x.Files+1) (ws c d.Vol x) (d.Items.take 0)).Exps,((0:Nat):Int)):=rfl
    rw[st0]
    rcases key with⟨k1,k2⟩ | ⟨⟨j, -,k1,k2⟩,r,⟨r',rfl,k3⟩,k4⟩
    · have hall:d.Items.all (kD c)=true:=List.all_eq_true.2 λi hi=>by
        obtain⟨j,hj,rfl⟩:=List.getElem_of_mem hi
        have:=k1 j (Nat.zero_le _) hj
        rw[List.getElem?_eq_getElem hj] at this
        exact this
      rw[k2,hall]
      simp only[aG,List.take_length,if_true]
      have hWe:=hWi d.Items.length
      rw[List.take_length] at hWe
      have hV:=hVw d.Items
      have hLv:Lv (uB d.Vol (x.Files+1) (ws c d.Vol x) d.Items):=ON (c:=ws c d.Vol x) (by have h1:=SQ hg; exact h1)
      have hsq:=λq=>OO (v:=d.Vol) (f:=x.Files+1) (c:=ws c d.Vol x) (l:=d.Items) (q:=q)
      have hww:=RH x.Pool d.Vol (x.Files+1) (ws c d.Vol x) d.Items
      have hw1:pH c d x=zS x.Pool d.Vol (x.Files+1) (ws c d.Vol x) d.Items:=rfl
      rw[hww] at hw1
      have hS:=hWe.sm (by omega)
      have hWn:=hWe.cn
      have hWr:=hWe.r
      rw[wF]
      generalize uB d.Vol (x.Files+1) (ws c d.Vol x) d.Items=e at hWe hV hLv hsq hw1 hS hWn hWr
      suffices hfin:∃s l,uG l∧l.length≤400∧aT (λs=>nB F c d x e.Seq e.Exps s.1 s.2.1 s.2.2) F (e.Snaps,e.Chunks,0)=some (.brk (s,l,(d.Items.length:Int)))∧((0:Int),e.Seq,s,l.map (i6 x.Pool d.Items),e.Exps,e.Vols)=(0,(tZ c d x).Seq,(tZ c d x).Snaps,(tZ c d x).Chunks,(tZ c d x).Exps,(tZ c d x).Vols) by
        obtain⟨s,l,h1,h2,h3,h4⟩:=hfin
        rw[h3]
        simp only[aG]
        by_cases p0:x.Pool=0
        · rw[if_pos (by simp[p0]),RL hF h1 h2 hn]
          simp only[aG]
          refine⟨_,rfl,.inr ⟨_,rfl, ?_⟩⟩
          rw[← h4,hV,p0]
        · rw[if_neg (by simpa using p0)]
          simp only[aG]
          refine⟨_,rfl,.inr ⟨_,rfl, ?_⟩⟩
          rw[← h4,hV,BO (.inl p0)]
      by_cases hno:∀i∈d.Items,i.Kind=3→c.Snaps.any (λs=>s.Seq==i.Of)=false
      · refine⟨e.Snaps,e.Chunks,hWr,hWn,VL hF hS hLv hn (by rw[wF]; exact hV) λi hi k3=>by rw[hsq]; exact hno i hi k3, ?_⟩
        have hng:∀s∈e.Snaps,nC d.Items s=false:=λs hs=>by
          unfold nC
          rw[List.any_eq_false]
          intro i hi
          by_cases k3:i.Kind=3
          · have:=hsq i.Of
            rw[show (ws c d.Vol x).Snaps.any (λs=>s.Seq==i.Of)=false from hno i hi k3] at this
            have:=List.any_eq_false.1 this s hs
            simpa [k3] using this
          · simp[k3]
        have e1:(pH c d x).Snaps=e.Snaps:=by rw[hw1]
        have e2:(AP c d x).Snaps=e.Snaps:=by
          show (pH c d x).Snaps.filter _=_
          rw[e1,List.filter_eq_self.2 λs hs=>by rw[hng s hs]; rfl]
        have e3:tZ c d x= { e with Chunks:=e.Chunks.map (i6 x.Pool d.Items)}:=by
          unfold tZ
          rw[if_neg (by rw[e1,e2]; omega)]
          unfold AP
          rw[List.filter_eq_self.2 λs hs=>by rw[e1] at hs; rw[hng s hs]; rfl,hw1]
        rw[e3]
      · have⟨i,hi,k3,ha⟩:∃i∈d.Items,i.Kind=3∧c.Snaps.any (λs=>s.Seq==i.Of)=true:=by
          by_cases hh:∃i∈d.Items,i.Kind=3∧c.Snaps.any (λs=>s.Seq==i.Of)=true
          · exact hh
          · refine absurd (λi hi k3=> ?_) hno
            cases hc:c.Snaps.any (λs=>s.Seq==i.Of) with
            | false=>rfl
            | true=>exact absurd ⟨i,hi,k3,hc⟩ hh
        have hone:d.Items= [i]:=by
          rcases hm.it with h | ⟨s,hs,e⟩
          · exfalso
            rcases(h.a i hi).w with⟨a,_⟩ | ⟨a,_⟩ | ⟨_,_,j,_,y,y1,y2,y3⟩
            · omega
            · omega
            · obtain⟨s,hs,e⟩:=List.any_eq_true.1 ha
              exact hg.ex y (List.mem_of_getElem? y1) s hs (by rw[y3]; simpa using e)
          · rw[e] at hi ⊢
            rw[List.mem_singleton.1 hi]
        have hae:e.Snaps.any (λs=>s.Seq==i.Of)=true:=by rw[hsq]; exact ha
        have hoff:∀m:List aB,m.map (i6 x.Pool d.Items)=m:=λm=>BO (.inr λj hj=>by
          rw[hone] at hj
          rw[List.mem_singleton.1 hj]; omega)
        have hD:=DT (n:=i.Of) hS
        have e1:pH c d x=e:=by rw[hw1,hoff]
        have hgn:∀s:aH,nC d.Items s=(s.Seq==i.Of):=λs=>by rw[hone]; simp[nC,k3]
        have e2:AP c d x=qS e i.Of:=by
          unfold AP qS
          rw[e1]
          rw[show (λs=> !nC d.Items s)=λs:aH=> !(s.Seq==i.Of) from funext λs=>by rw[hgn]]
        have hlt:(qS e i.Of).Snaps.length < e.Snaps.length:=by
          obtain⟨s,hs,e9⟩:=List.any_eq_true.1 hae
          rcases Nat.lt_or_ge (qS e i.Of).Snaps.length e.Snaps.length with w | w
          · exact w
          · have hl:=List.length_filter_le (λs:aH=> !(s.Seq==i.Of)) e.Snaps
            have w:e.Snaps.length≤(e.Snaps.filter λs=> !(s.Seq==i.Of)).length:=w
            have:=List.length_filter_eq_length_iff.1 (Nat.le_antisymm hl w) s hs
            simp[e9] at this
        have e3:tZ c d x=wX e i.Of:=by
          unfold tZ
          rw[e2,e1,if_pos hlt]
          rfl
        refine⟨(wX e i.Of).Snaps,(wX e i.Of).Chunks,rN.2 ⟨λy hy=> ?_, ?_⟩,hD.ch, ?_,by rw[e3,hoff]; rfl⟩
        · exact(hD.g.2.2.1 y hy).1
        · exact List.pairwise_map.2 (((rN.1 hWr).2.sublist List.filter_sublist).imp fun {a b} hab=>by rw[(tY _ a).2.1,(tY _ b).2.1]; exact hab)
        · have h154:=VH (q:=i.Of) hF hS hLv
          rw[hae,if_pos rfl] at h154
          rw[hone]
          have:=jX (body:=λs:List aH×List aB×Int=>nB F c d x e.Seq e.Exps s.1 s.2.1 s.2.2) (s0:=(e.Snaps,e.Chunks,(0:Int))) (n:=1) (F:=F) (λk:Nat=>(if k=0 then e.Snaps else (wX e i.Of).Snaps,if k=0 then e.Chunks else (wX e i.Of).Chunks,(k:Int))) (by omega) rfl (λk hk=>by
            obtain rfl:k=0:=by omega
            unfold nB
            simp only
            rw[f9 (by omega),hone]
            have h154':DC F { Seq:=e.Seq,Snaps:=e.Snaps,Chunks:=e.Chunks,Exps:=e.Exps,Vols:=e.Vols} i.Of=some (true,(wX e i.Of).Snaps,(wX e i.Of).Chunks):=h154
            simp only[bB,List.getElem?_cons_zero,Option.bind_some,wF,hV,if_true,k3,h154',beq_self_eq_true,aG,List.length_singleton]
            rfl) (by unfold nB; rw[hone]; simp)
          simpa using this
    · have hall:d.Items.all (kD c)=false:=by
        rw[List.all_eq_false]
        refine⟨d.Items[j],List.getElem_mem k1, ?_⟩
        rw[List.getElem?_eq_getElem k1] at k2
        simpa using k2
      rw[k4,hall]
      exact⟨_,rfl,.inl ⟨r',rfl,by simpa using k3⟩⟩
  obtain⟨r,hr,hq⟩:=main
  by_cases c1:jW x d=true
  · rw[if_pos c1] at hq ⊢
    by_cases c2:d.Items.all (kD c)=true
    · rw[if_pos c2] at hq ⊢
      rw[go (tZ c d x) 0 r hr (.inr ⟨rfl,hq,HR h hg hw gv hx λi hi=>by
        unfold jW at c1
        simp only[Bool.and_eq_true,Bool.not_eq_true',List.any_eq_false,Bool.or_eq_true,decide_eq_true_eq,not_or,Int.not_lt] at c1
        exact c1.2 i hi⟩)]
      rfl
    · rw[if_neg c2] at hq ⊢
      rw[go bU 8 r hr (.inl ⟨hq,by decide⟩)]
      rfl
  · rw[if_neg c1] at hq ⊢
    rw[go bU 1 r hr (.inl ⟨hq,by decide⟩)]
    rfl
open Go.Vm
theorem aBQ {F:Nat} {c:aA} {d:aR} (hF:1000≤F) (h:Sm c) (hg:Gd c) (k:d.Kind=0):IW F c d=some (bU,1):=by
 unfold IW
 rw[m19 hF h,jV.2 hg]
 simp only[Option.bind_some,Bool.not_true,Bool.false_eq_true,if_false]
 rw[if_pos (by simp[k])]
 rfl
theorem p36 {F:Nat} {c:aA} {d:aR} (hF:1000≤F) (h:Sm c) (hg:Gd c) (hd:F1 d) (hm:Mk c d):IW F c d=C7 F c d:=by
 have hk:=hm.k
 obtain⟨x,hx⟩:=OF hm.v
 by_cases k0:d.Kind=0
 ·rw[aBK k0,aBQ hF h hg k0]
 by_cases k1:d.Kind=1
 ·rw[N7 hF h hg hd k1,RI hF h hg hd k1]
 by_cases k2:d.Kind=2
 ·rw[I2 hF h hg k2,OP hF h hg hd k2]
 by_cases k3:d.Kind=3
 ·rw[FP hF h hg k3 (hm.wd hg hd) hd.vol hm.v.1 hx,KN hF h hg hd hm k3 hx]
 by_cases k4:d.Kind=4
 ·rw[BN hF h hg k4 hm.v.1 hx,RJ hF h hg hd k4 hm.v.1 hx]
 ·have k5:d.Kind=5:=by omega
  have ep:=HW hg hx
  rw[zZ hF h hg k5 hm.v.1 hx ep (HV h hx ⟨ep.2,ep.1⟩),RK hF h hg hd k5 hm.v.1 hx]
open Go.Vm
def I8 (m:Nat) (p1:List pR) (q0:aA) (q1:aA) (q2:Int):Option (Lp (aA×aA×Int) (Bool)):=
 after (if (decide (q2 < (p1.length:Int)))=true then (some (.brk (decide (q2 < 30)))) else some (.brk false):Option (Lp (Bool) (Lp (aA×aA×Int) (Bool)))) λj0=>if j0=true then (after ((ix p1 q2).bind λx0=>(M35 m q0 x0).bind λy0=>if (!y0.2)=true then (some (.brk (q0,q1))) else (C7 m q1 y0.1).bind λy1=>(IW m q0 y0.1).bind λy2=>after (if (y1.2 !=y2.2)=true then (some (.brk true)) else (VT m y1.1 y2.1).bind λy3=>if (!y3)=true then (some (.brk true)) else some (.brk (y1.1.Seq !=y2.1.Seq)):Option (Lp (Bool) (Lp (aA×aA) (Lp (aA×aA×Int) (Bool))))) λj1=>if j1=true then (some (.ret (.ret false))) else after (if (y1.2==0)=true then ((T1 m y1.1).bind λy4=>if (y4 !=0)=true then (some (.ret (.ret (.ret false)))) else some (.brk (y2.1,y1.1))) else some (.brk (q0,q1)):Option (Lp (aA×aA) (Lp (aA×aA) (Lp (aA×aA×Int) (Bool))))) λ⟨j2,j3⟩=>some (.brk (j2,j3)):Option (Lp (aA×aA) (Lp (aA×aA×Int) (Bool)))) λ⟨j4,j5⟩=>some (.go (j4,j5,IntKind.wrap .i64 (q2+1)))) else some (.brk (q0,q1,q2))
def M7 (m:Nat) (p0:List Int) (p1:List pR):Option (Bool):=
 after (if (decide (30 < (p0.length:Int)))=true then (some (.brk true)) else (M14 m p1).bind λy9=>some (.brk y9):Option (Lp (Bool) (Bool))) λj7=>if j7=true then (some true) else (M16 m p0).bind λy0=>(VU m y0).bind λy1=>(YV m y0).bind λy2=>after (if (y1.2 !=0)=true then (some (.brk true)) else (VT m y1.1 y2).bind λy3=>some (.brk (!y3)):Option (Lp (Bool) (Bool))) λj0=>if j0=true then (some false) else after (aT (λs=>I8 m p1 s.1 s.2.1 s.2.2) m (y2,y1.1,0)) λ⟨r0,r1,r2⟩=>(M37 m).bind λy4=>some y4
theorem W7 {w:Nat} {p0:List Int} {p1:List pR} {o:Bool} (h:aF) (m:M7 w p0 p1=some o):
 aL Tryz.prog 7 [.sl none 1 (List.map jI p0),.sl none 5 (List.map f0 p1)] h (λr h'=>r= .sc (.bool o)∧h'=h):=by
 refine fQ 96 [.tmp 4] Tryz.func7 rfl rfl rfl rfl ?_
 unfold M7 at m
 refine v (vs (vs (fL m (σ:=Bool) (λs=> []) (λs=>.c 0 (.sl none 1 (List.map jI p0)) (.c 1 (.sl none 5 (List.map f0 p1)) (.c 21 (.sc (.bool s)) .nil))) (λx m=> ?_) ?_)))
 refine v (dE JS rfl ?_)
 apply vi m <;> intro b8 m
 rw[b8]
 exact gK m
 rw[b8]
 exact vk W14 aGI m rfl rfl λ_ m=>gK m
 rintro _ j7 m
 refine v ?_
 apply vi m <;> intro c0 m
 refine v (v ?_)
 obtain rfl:=eE m
 exact dU rfl
 refine v (v (vk W16 aGJ m rfl rfl λ_ m=>v (vk W32 YU m rfl rfl λy0 m=>ve λu=>bH (iK) u qM rfl rfl λk20 K0=>qk K0 rfl (ve λu=>aK 0 (aE y0.1) u rfl rfl rfl rfl lX rfl rfl λK1=>qk K1 rfl (v (vk W33 aE3 m rfl rfl λy1 m=>ve λu=>bH (iK) u qM rfl rfl λk27 K2=>qk K2 rfl (ve λu=>aK 0 (aE y1) u rfl rfl rfl rfl lX rfl rfl λK3=>qk K3 rfl (vs (vs (fL m (σ:=Bool) (λs=> [(some k27,.obj 30 (aE y1)),(some k20,.obj 30 (aE y0.1))]) (λs=>.c 1 (.sl none 5 (List.map f0 p1)) (.c 5 (.ptr k20 0) (.c 7 (.ptr k27 0) (.c 38 (.sc (.bool s)) .nil)))) (λx m=> ?_) ?_))))))))))
 refine v ?_
 apply vi m <;> intro b0 m
 rw[b0]
 exact f8 m
 rw[b0]
 exact vl 1 (.agg (aE y0.1)) eV rfl rfl rfl (vl 0 (.agg (aE y1)) eV rfl rfl rfl (vk W34 YT m rfl rfl λ_ m=>f8 m))
 rintro _ j0 m
 refine v ?_
 apply vi m <;> intro c1 m
 refine v (v ?_)
 obtain rfl:=eE m
 exact dU rfl
 refine v (v (jN m (σ:=aA×aA×Int) (λs=> [(some k27,.obj 30 (aE s.1)),(some k20,.obj 30 (aE s.2.1))]) (λs=>.c 1 (.sl none 5 (List.map f0 p1)) (.c 5 (.ptr k20 0) (.c 7 (.ptr k27 0) (.c 8 (nZ s.2.2) .nil)))) (lx (.k4 .nil)) ?_ ?_))
 rintro _ ⟨q0,q1,q2⟩ x m
 replace m:I8 w p1 q0 q1 q2=some x:=m
 unfold I8 at m
 refine vs (vs (fL m (σ:=Bool) (λs=> [(some k27,.obj 30 (aE q0)),(some k20,.obj 30 (aE q1))]) (λs=>.c 1 (.sl none 5 (List.map f0 p1)) (.c 5 (.ptr k20 0) (.c 7 (.ptr k27 0) (.c 8 (nZ q2) (.c 46 (.sc (.bool s)) .nil))))) (λx m=> ?_) ?_))
 refine v (dE TH rfl ?_)
 apply vi m <;> intro b1 m
 rw[b1]
 exact nJ m
 rw[b1]
 exact nJ m
 rintro _ j1 m
 refine v ?_
 apply vi m <;> intro c2 m
 refine v (vs (fL m (σ:=aA×aA) (λs=> [(some k27,.obj 30 (aE s.1)),(some k20,.obj 30 (aE s.2))]) (λs=>.c 1 (.sl none 5 (List.map f0 p1)) (.c 5 (.ptr k20 0) (.c 7 (.ptr k27 0) (.c 8 (nZ q2) .nil)))) (λx m=> ?_) ?_))
 refine v (v (vz [(1000000,some k27,.obj 30 (aE q0))] mixed (λu=>⟨λ_=>aI 0 u rfl,trivial⟩) λu=>zL 0 0 (.agg (aE q0)) rfl eV rfl rfl rfl (zC 1 rfl (eS (.sl _ _ _) rfl) (zI 2 rfl rfl ?_))))
 obtain⟨x0,X0,m⟩:=aC m
 refine zC 3 rfl (mI X0 JT rfl rfl) (zC 4 rfl (mX (.agg (f0 x0)) aDA rfl rfl) ?_)
 obtain⟨y2,Y0,m⟩:=aC m
 refine zC 5 rfl (cC (W35 _ Y0) rfl aGH rfl) (zC 6 rfl (eS (.tup _) rfl) (zC 7 rfl (WE (.agg _) rfl rfl) (zC 8 rfl (WE (.sc (.bool _)) rfl rfl) (zE 9 rfl (bH (xE) u L2 rfl rfl λk466 K4=>⟨⟨λ_=>aI 1 K4 rfl,trivial⟩, ?_⟩)))))
 refine zE 10 rfl (aK 0 (aD y2.1) K4 rfl rfl rfl rfl wO rfl rfl λK5=>⟨⟨λ_=>aI 1 K5 rfl,trivial⟩, ?_⟩)
 refine zC 11 rfl (iI (.sc (.bool _)) rfl) (zX (qk (f:=.c 10 _ (.c 9 _ (.c 57 _ (.c 56 _ (.c 49 _ (fq6 55 _ _ _ _ _ _ _)))))) K5 rfl (v (v ?_))))
 apply vi m <;> intro c3 m
 exact v (wL m (lJ [1,2] rfl rfl (.k4 .nil)))
 refine v (v (vl 2 (.agg (aE q1)) eV rfl rfl rfl (vl 0 (.agg (aD y2.1)) oK rfl rfl rfl (vk W29 aAO m rfl rfl λy3 m=>ve λu=>bH (iK) u qM rfl rfl λk476 K6=>qk K6 rfl (ve λu=>aK 0 (aE y3.1) u rfl rfl rfl rfl lX rfl rfl λK7=>qk K7 rfl (v (vl 2 (.agg (aE q0)) eV rfl rfl rfl (vl 1 (.agg (aD y2.1)) oK rfl rfl rfl (vk W36 aF9 m rfl rfl λy4 m=>ve λu=>bH (iK) u qM rfl rfl λk483 K8=>qk K8 rfl (ve λu=>aK 0 (aE y4.1) u rfl rfl rfl rfl lX rfl rfl λK9=>qk K9 rfl (vs (vs (fL m (σ:=Bool) (λs=> [(some k483,.obj 30 (aE y4.1)),(some k476,.obj 30 (aE y3.1)),(some k466,.obj 62 (aD y2.1)),(some k27,.obj 30 (aE q0)),(some k20,.obj 30 (aE q1))]) (λs=>.c 1 (.sl none 5 (List.map f0 p1)) (.c 5 (.ptr k20 0) (.c 7 (.ptr k27 0) (.c 8 (nZ q2) (.c 11 (.ptr k476 0) (.c 12 (nZ y3.2) (.c 13 (.ptr k483 0) (.c 87 (.sc (.bool s)) .nil)))))))) (λx m=> ?_) ?_)))))))))))))
 refine v ?_
 apply vi m <;> intro b2 m
 rw[b2]
 exact ID m
 rw[b2]
 refine vl 1 (.agg (aE y3.1)) eV rfl rfl rfl (vl 0 (.agg (aE y4.1)) eV rfl rfl rfl (vk W34 YT m rfl rfl λ_ m=> ?_))
 apply vi m <;> intro b3 m
 rw[b3]
 exact ID m
 rw[b3]
 exact vl 1 _ bZ rfl rfl rfl (vl 0 _ bZ rfl rfl rfl (ID m))
 rintro _ j2 m
 refine v ?_
 apply vi m <;> intro c4 m
 refine v (v (fZ m λm=>fZ m λm=> ?_))
 obtain rfl:=eE m
 exact dU rfl
 refine v (v (fL m (σ:=aA×aA) (λs=> [(some k483,.obj 30 (aE y4.1)),(some k476,.obj 30 (aE y3.1)),(some k466,.obj 62 (aD y2.1)),(some k27,.obj 30 (aE s.1)),(some k20,.obj 30 (aE s.2))]) (λs=>.c 1 (.sl none 5 (List.map f0 p1)) (.c 5 (.ptr k20 0) (.c 7 (.ptr k27 0) (.c 8 (nZ q2) .nil)))) (λx m=> ?_) ?_))
 refine v ?_
 apply vi m <;> intro c5 m
 refine v (vz [(1000000,some k476,.obj 30 (aE y3.1)),(1000000,some k483,.obj 30 (aE y4.1)),(2,some k20,.obj 30 (aE q1)),(3,some k27,.obj 30 (aE q0))] mixed (λu=>⟨λ_=>aI 1 u rfl,λ_=>aI 0 u rfl,λ_=>aI 4 u rfl,λ_=>aI 3 u rfl,trivial⟩) λu=>zL 0 0 (.agg (aE y3.1)) rfl eV rfl rfl rfl (zL 1 1 (.agg (aE y4.1)) rfl eV rfl rfl rfl (zE 2 rfl (aK 4 (aE y3.1) u rfl rfl rfl rfl lX rfl rfl λK10=>⟨⟨λ_=>aI 1 K10 rfl,λ_=>aI 0 K10 rfl,λe=>absurd e (by decide),λ_=>aI 3 K10 rfl,trivial⟩, ?_⟩))))
 refine zE 3 rfl (aK 3 (aE y4.1) K10 rfl rfl rfl rfl lX rfl rfl λK11=>⟨⟨λ_=>aI 1 K11 rfl,λ_=>aI 0 K11 rfl,λe=>absurd e (by decide),λe=>absurd e (by decide),trivial⟩, ?_⟩)
 refine zX (qk (f:=.c 91 _ (.c 90 _ _)) K11 rfl (v (vl 4 (.agg (aE y3.1)) eV rfl rfl rfl (vk W31 T2 m rfl rfl λ_ m=>v ?_))))
 apply vi m <;> intro c6 m
 refine v (v (fZ m λm=>fZ m λm=>fZ m λm=> ?_))
 obtain rfl:=eE m
 exact dU rfl
 exact v (f8 m)
 exact v (f8 m)
 rintro _ ⟨j3,j4⟩ m
 exact wL m (lJ [3,4] rfl rfl (.k4 .nil))
 rintro _ ⟨j5,j6⟩ m
 exact v (f8 m)
 exact v (wS m)
 rintro _ ⟨r0,r1,r2⟩ m
 refine v (vk W37 aG5 m rfl rfl λ_ m=>v ?_)
 obtain rfl:=eE m
 exact dU rfl
open Go.Vm
theorem aG8:Sm bU:=by
 have n:∀ {α:Type} {P:α→Prop},∀x∈([]:List α),P x:=λx h=>by cases h
 exact⟨⟨⟨by decide,by decide⟩,n,n,n,n⟩,by decide,by decide,by decide,by decide,n,n,n,n⟩
theorem DY {q:List Int} {l:List pR} (gq:gL gI q) (gl:gL ML l):M7 1000 q l=some true:=by
 have hF:1000≤1000:=Nat.le_refl _
 have key:T (M7 1000 q l) λb=>b=true:=by
  unfold M7
  refine .after (.ite (λ_=>.brk (T.ite (λ_=>.some rfl) λh=>absurd rfl h)) λ_=>.bind _ (t27 hF) λb hb=>.brk (T.ite (λ_=>.some rfl) λhb0=> ?_))
  have ho:=hb (by simpa using hb0)
  refine .bind _ (t29 hF gq) λq hq=> ?_
  obtain⟨h1,h2,h3⟩:=hq
  have h8:q.length≤8:=by unfold gN at h1; simp at h1; omega
  have N:=QN h8 h3
  refine .bindEq (m30 hF (by omega)) (.bindEq (m32 hF (by omega)) ?_)
  rw[if_pos h1,if_pos h2]
  refine .after (.ite (λh=>by simp at h) λ_=>.bindEq (m17 hF N) (.brk (T.ite (λh=>by cases h) λ_=> ?_)))
  refine .loop (λs=>0≤s.2.2∧s.2.2≤30∧s.1=s.2.1∧Sm s.1∧iB s.1=true) (λs=>(30 - s.2.2).toNat) (λ_=>True) (by simp) ⟨by simp,by simp,rfl,N,J7 h1 h2⟩ (λs hs=> ?_) (λs _=>.bindEq aG6 (.some rfl))
  obtain⟨r,c,i⟩:=s
  simp only at hs
  obtain⟨s1,s2,rfl,s3,s4⟩:=hs
  have G:=jV.1 s4
  unfold I8
  refine .after (.ite (λhc=>.brk (T.ite (λhc2=> ?_) λhc2=>.brk trivial)) λhc=>.brk (T.ite (λh=>by cases h) λ_=>.brk trivial))
  have hc:=of_decide_eq_true hc
  have hc2:=of_decide_eq_true hc2
  simp only at hc hc2
  rw[wr (n:=i+1) (by omega) (by omega)]
  have go:∀c':aA,Sm c'→iB c'=true→T (some (.go (c',c',i+1)):Option (Lp (aA×aA×Int) Bool)) (L3 (λs'=>(0≤s'.2.2∧s'.2.2≤30∧s'.1=s'.2.1∧Sm s'.1∧iB s'.1=true)∧(30 - s'.2.2).toNat < (30 - i).toNat) (λ_=>True) (λb=>b=true)):=λc' h5 h6=>.go ⟨⟨by first | omega | (simp only; omega),by first | omega | (simp only; omega),rfl,h5,h6⟩,by first | omega | (simp only; omega)⟩
  refine .after (.ix (by omega) (by omega) λa ea ha=>.bind _ (t66 hF ⟨s3,rng s4⟩ G λf hf=>⟨ho a (OE ea (by simp only; omega)) f hf,((gl a ha).2.2.2.1 f hf).2⟩) λy hy=>.ite (λ_=>.brk (go _ s3 s4)) λ_=> ?_)
  obtain⟨hd,hm⟩:=hy
  obtain⟨e,n,he,hn⟩:=VB hF s3 G hd hm
  have he2:IW 1000 r y.1=some (e,n):=by rw[p36 hF s3 G hd hm,he]
  refine .bindEq he (.bindEq he2 ?_)
  have hz:Sm e:=by
   rcases hn with⟨_,rfl⟩ | ⟨_,h,_⟩
   ·exact aG8
   ·exact h
  refine .after (.ite (λh=>by simp at h) λ_=>.bindEq (m17 hF hz) (.ite (λh=>by cases h) λ_=>.brk (T.ite (λh=>by simp at h) λ_=> ?_)))
  refine .after (.ite (λh0=> ?_) λh0=>.brk (.brk (go _ s3 s4)))
  rcases hn with⟨hn,_⟩ | ⟨_,hS,hGe,_⟩
  ·exact absurd (by simpa using h0) hn
  ·have hg:=jV.2 hGe
   refine .bindEq (m33 hF hS) ?_
   rw[hg]
   exact .ite (λh=>by simp at h) λ_=>.brk (.brk (go _ hS hg))
 obtain⟨b,hb,rfl⟩:=key
 exact hb
end Go.Proofs.YtbbifdfldpfphaaGreat
