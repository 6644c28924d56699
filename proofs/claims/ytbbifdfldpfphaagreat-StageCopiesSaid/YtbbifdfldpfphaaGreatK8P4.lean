import Derived.Test.YtbbifdfldpfphaaGreatK8P3
import Derived.Test.YtbbifdfldpfphaaGreatK8P1
import Derived.Lib.Bytealg
set_option linter.unusedSimpArgs false
set_option linter.unusedVariables false
set_option maxHeartbeats 4000000
set_option maxRecDepth 100000
namespace Go.Proofs.YtbbifdfldpfphaaGreat
open Go.Vm
def HZ (m:Nat) (p0:Int) (p1:Int) (p2:Int):Option (Bool):=
 after (if (decide (p1≤p0))=true then (some (.brk (decide (p0≤p2)))) else some (.brk false):Option (Lp (Bool) (Bool))) λj4=>some j4
theorem P1 {u:Nat} {p0:Int} {p1:Int} {p2:Int} {o:Bool} (h:aF) (m:HZ u p0 p1 p2=some o):
 aM Tryz.prog 97 [nZ p0,nZ p1,nZ p2] h (λr h'=>r= .sc (.bool o)∧h'=h):=by
 refine fK 15 [.tmp 6] Tryz.func97 rfl rfl rfl rfl ?_
 unfold HZ at m
 refine v (vs (fN m (σ:=Bool) (λs=> []) (λs=>.c 6 (.sc (.bool s)) .nil) (λx m=> ?_) ?_))
 refine v ?_
 apply vi m <;> intro b5 m
 rw[b5]
 exact nX m
 rw[b5]
 exact nX m
 rintro _ j4 m
 refine v ?_
 obtain rfl:=eP m
 exact eF rfl
theorem zY:aP Tryz.prog 97=true:=by kernel_rfl
def wM (m:Nat) (p0:bH) (p1:bH) (q0:Int):Option (Lp (Int) (Bool)):=
 if (decide (q0 < 32))=true then ((ix p0.1 q0).bind λx0=>(ix p1.1 q0).bind λx1=>if (x0 !=x1)=true then ((ix p0.1 q0).bind λx2=>(ix p1.1 q0).bind λx3=>some (.ret (decide (x2 < x3)))) else some (.go (IntKind.wrap .i64 (q0+1)))) else some (.brk q0)
def MX (m:Nat) (p0:bH) (p1:bH):Option (Bool):=
 after (aS (λs=>wM m p0 p1 s) m 0) λr0=>some false
theorem aAF {w:Nat} {p0:bH} {p1:bH} {o:Bool} (h:aF) (m:MX w p0 p1=some o):
 aM Tryz.prog 147 [.agg (bC p0),.agg (bC p1)] h (λr h'=>r= .sc (.bool o)∧h'=h):=by
 refine fK 24 [.tmp 4] Tryz.func147 rfl rfl rfl rfl ?_
 unfold MX at m
 refine v (gX rfl rfl λk2 K3=>gX rfl rfl λk5 K6=>v (jP m (σ:=Int) (λs=> [(some k5,.obj 36 (bC p1)),(some k2,.obj 36 (bC p0))]) (λs=>.c 2 (.ptr k2 0) (.c 3 (.ptr k5 0) (.c 5 (nZ s) .nil))) (lx (.k3 .nil)) ?_ ?_))
 rintro _ q0 x m
 replace m:wM w p0 p1 q0=some x:=m
 unfold wM at m
 refine v (v ?_)
 apply vi m <;> intro c0 m
 refine v (v (v (vq (by kernel_rfl) ?_)))
 obtain⟨_,X0,m⟩:=aD m
 refine bU (lX X0 xN rfl rfl) (vn (λu=>nF 0 X0 D7 rfl (aW 1 u rfl) rfl) ?_)
 obtain⟨_,X1,m⟩:=aD m
 refine bU (lX X1 xN rfl rfl) (vn (λu=>nF 0 X1 D7 rfl (aW 0 u rfl) rfl) (v ?_))
 apply vi m <;> intro c1 m
 refine v (vq (by kernel_rfl) ?_)
 obtain⟨_,X2,m⟩:=aD m
 refine bU (lX X2 xN rfl rfl) (vn (λu=>nF 0 X2 D7 rfl (aW 1 u rfl) rfl) ?_)
 obtain⟨_,X3,m⟩:=aD m
 refine bU (lX X3 xN rfl rfl) (vn (λu=>nF 0 X3 D7 rfl (aW 0 u rfl) rfl) (v (fZ m λm=> ?_)))
 cases m
 exact eF rfl
 exact v (v (gD m))
 exact v (Fq m)
 rintro _ r0 m
 refine v (v ?_)
 obtain rfl:=eP m
 exact eF rfl
theorem TN:aP Tryz.prog 147=true:=by kernel_rfl
def sX (m:Nat) (p0:aA) (p1:List aR) (q0:Int):Option (Lp (Int) (Bool)):=
 if (decide (q0 < (p1.length:Int)))=true then ((ix p1 q0).bind λx0=>after (if (decide (x0.Vol < 0))=true then (some (.brk true)) else if (decide ((p0.Vols.length:Int)≤x0.Vol))=true then (some (.brk true)) else (ix p0.Vols x0.Vol).bind λx1=>if (x1.State !=2)=true then (some (.brk true)) else (ix p0.Vols x0.Vol).bind λx2=>(HZ m x0.File 1 x2.Files).bind λy0=>if (!y0)=true then (some (.brk true)) else (HZ m x0.Off 0 16777215).bind λy1=>if (!y1)=true then (some (.brk true)) else (HZ m x0.Len 13 8013).bind λy2=>some (.brk (!y2)):Option (Lp (Bool) (Lp (Int) (Bool)))) λj0=>if j0=true then (some (.ret false)) else after (if (decide (0 < q0))=true then ((ix p1 (IntKind.wrap .i64 (q0 - 1))).bind λx3=>after (if (decide (x3.Vol < x0.Vol))=true then (some (.brk (!true))) else if (x3.Vol==x0.Vol)=true then (if (decide (x3.File < x0.File))=true then (some (.brk (!true))) else if (x3.File==x0.File)=true then (some (.brk (!(decide (x3.Off < x0.Off))))) else some (.brk (!false))) else some (.brk (!false)):Option (Lp (Bool) (Lp (Unit) (Lp (Int) (Bool))))) λj1=>if j1=true then (some (.ret (.ret false))) else some (.brk ())) else some (.brk ()):Option (Lp (Unit) (Lp (Int) (Bool)))) λ_=>some (.go (IntKind.wrap .i64 (q0+1)))) else some (.brk q0)
def zZ (m:Nat) (p0:aA) (p1:List aR):Option (Bool):=
 if (decide (200 < (p1.length:Int)))=true then (some false) else after (aS (λs=>sX m p0 p1 s) m 0) λr0=>some true
theorem JY {w:Nat} {p0:aA} {p1:List aR} {o:Bool} (h:aF) (m:zZ w p0 p1=some o):
 aM Tryz.prog 148 [.agg (aC p0),.sl none 4 (List.map aN p1)] h (λr h'=>r= .sc (.bool o)∧h'=h):=by
 refine fK 108 [.tmp 4] Tryz.func148 rfl rfl rfl rfl ?_
 unfold zZ at m
 refine v (gX rfl rfl λk2 K3=>v (dH kD rfl (v ?_)))
 apply vi m <;> intro c7 m
 refine v (v ?_)
 obtain rfl:=eP m
 exact eF rfl
 refine v (v (jP m (σ:=Int) (λs=> [(some k2,.obj 30 (aC p0))]) (λs=>.c 1 (.sl none 4 (List.map aN p1)) (.c 2 (.ptr k2 0) (.c 5 (nZ s) .nil))) (lx (.k3 .nil)) ?_ ?_))
 rintro _ q0 x m
 replace m:sX w p0 p1 q0=some x:=m
 unfold sX at m
 refine v (dH kD rfl (v ?_))
 apply vi m <;> intro c0 m
 refine v (v (v (vx m i9 rfl rfl λx0 _ m=>va (.agg (aN x0)) m9 rfl rfl (ve λu=>bG (I9) u EE rfl rfl λk202 K0=>qk K0 rfl (ve λu=>aL 0 (aN x0) u rfl rfl rfl rfl MI rfl rfl λK1=>qk K1 rfl (vs (vs (fN m (σ:=Bool) (λs=> [(some k202,.obj 81 (aN x0)),(some k2,.obj 30 (aC p0))]) (λs=>.c 1 (.sl none 4 (List.map aN p1)) (.c 2 (.ptr k2 0) (.c 5 (nZ q0) (.c 6 (.ptr k202 0) (.c 66 (.sc (.bool s)) .nil))))) (λx m=> ?_) ?_))))))))
 refine v (vq (by kernel_rfl) (vl 0 _ cB rfl rfl rfl ?_))
 apply vi m <;> intro b0 m
 rw[b0]
 exact kY m
 rw[b0]
 refine vl 0 _ cB rfl rfl rfl (vl 1 _ iH rfl rfl rfl (dH qK rfl ?_))
 apply vi m <;> intro b1 m
 rw[b1]
 exact kY m
 rw[b1]
 refine vl 1 _ iH rfl rfl rfl (vl 0 _ cB rfl rfl rfl (vx m lZ rfl rfl λ_ _ m=> ?_))
 apply vi m <;> intro b2 m
 rw[b2]
 exact kY m
 rw[b2]
 refine vl 0 _ cB rfl rfl rfl (vl 1 _ iH rfl rfl rfl (vl 0 _ cB rfl rfl rfl (vx m lZ rfl rfl λ_ _ m=>vk P1 zY m rfl rfl λ_ m=> ?_)))
 apply vi m <;> intro b3 m
 rw[b3]
 exact kY m
 rw[b3]
 refine vl 0 _ cB rfl rfl rfl (vk P1 zY m rfl rfl λ_ m=> ?_)
 apply vi m <;> intro b4 m
 rw[b4]
 exact kY m
 rw[b4]
 exact vl 0 _ cB rfl rfl rfl (vk P1 zY m rfl rfl λ_ m=>kY m)
 rintro _ j0 m
 refine v ?_
 apply vi m <;> intro c1 m
 refine v (v (fZ m λm=> ?_))
 obtain rfl:=eP m
 exact eF rfl
 refine v (v (fN m (σ:=Unit) (λs=> [(some k202,.obj 81 (aN x0)),(some k2,.obj 30 (aC p0))]) (λs=>.c 1 (.sl none 4 (List.map aN p1)) (.c 2 (.ptr k2 0) (.c 5 (nZ q0) .nil))) (λx m=> ?_) ?_))
 refine v ?_
 apply vi m <;> intro c2 m
 refine v (vx m i9 rfl rfl λx1 _ m=>va (.agg (aN x1)) m9 rfl rfl (ve λu=>bG (I9) u EE rfl rfl λk268 K2=>qk K2 rfl (ve λu=>aL 0 (aN x1) u rfl rfl rfl rfl MI rfl rfl λK4=>qk K4 rfl (vs (fN m (σ:=Bool) (λs=> [(some k268,.obj 81 (aN x1)),(some k202,.obj 81 (aN x0)),(some k2,.obj 30 (aC p0))]) (λs=>.c 1 (.sl none 4 (List.map aN p1)) (.c 2 (.ptr k2 0) (.c 5 (nZ q0) (.c 107 (.sc (.bool s)) .nil)))) (λx m=> ?_) ?_)))))
 refine v (vl 0 _ cB rfl rfl rfl (vl 1 _ cB rfl rfl rfl ?_))
 apply vi m <;> intro b5 m
 rw[b5]
 exact fY m
 rw[b5]
 refine vl 0 _ cB rfl rfl rfl (vl 1 _ cB rfl rfl rfl ?_)
 apply vi m <;> intro b6 m
 rw[b6]
 refine vl 0 _ cB rfl rfl rfl (vl 1 _ cB rfl rfl rfl ?_)
 apply vi m <;> intro b7 m
 rw[b7]
 exact fY m
 rw[b7]
 refine vl 0 _ cB rfl rfl rfl (vl 1 _ cB rfl rfl rfl ?_)
 apply vi m <;> intro b8 m
 rw[b8]
 exact vl 0 _ cB rfl rfl rfl (vl 1 _ cB rfl rfl rfl (fY m))
 rw[b8]
 exact fY m
 rw[b6]
 exact fY m
 rintro _ j1 m
 refine v ?_
 apply vi m <;> intro c3 m
 refine v (v (fZ m λm=>fZ m λm=> ?_))
 obtain rfl:=eP m
 exact eF rfl
 exact v (zH m (mE [1,2] rfl rfl (.k3 .nil)))
 exact v (gD m)
 rintro _ _ m
 exact v (zH m (mE [1] rfl rfl (.k3 .nil)))
 exact v (Fq m)
 rintro _ r0 m
 refine v (v ?_)
 obtain rfl:=eP m
 exact eF rfl
theorem A0:aP Tryz.prog 148=true:=by kernel_rfl
def sY (m:Nat) (p0:ByteArray) (q0:Int):Option (Lp (Int) (Bool)):=
 if (decide (q0 < (p0.size:Int)))=true then (after ((QI p0 q0).bind λx0=>if (decide (x0 < 33))=true then (some (.brk true)) else (QI p0 q0).bind λx1=>some (.brk (decide (126 < x1))):Option (Lp (Bool) (Lp (Int) (Bool)))) λj0=>if j0=true then (some (.ret false)) else some (.go (IntKind.wrap .i64 (q0+1)))) else some (.brk q0)
def CE (m:Nat) (p0:ByteArray):Option (Bool):=
 after (aS (λs=>sY m p0 s) m 0) λr0=>after (if (decide (1≤(p0.size:Int)))=true then (some (.brk (decide ((p0.size:Int)≤20)))) else some (.brk false):Option (Lp (Bool) (Bool))) λj0=>some j0
theorem MY {u:Nat} {p0:ByteArray} {o:Bool} (h:aF) (m:CE u p0=some o):
 aM Tryz.prog 140 [.sc (.string p0)] h (λr h'=>r= .sc (.bool o)∧h'=h):=by
 refine fK 28 [.tmp 2] Tryz.func140 rfl rfl rfl rfl ?_
 unfold CE at m
 refine v (v (jP m (σ:=Int) (λs=> []) (λs=>.c 0 (.sc (.string p0)) (.c 3 (nZ s) .nil)) (lx (.k2 .nil)) ?_ ?_))
 rintro _ q0 x m
 replace m:sY u p0 q0=some x:=m
 unfold sY at m
 refine v (bU (qZ UV rfl) (v ?_))
 apply vi m <;> intro c0 m
 refine v (v (vs (fN m (σ:=Bool) (λs=> []) (λs=>.c 0 (.sc (.string p0)) (.c 3 (nZ q0) (.c 19 (.sc (.bool s)) .nil))) (λx m=> ?_) ?_)))
 refine v ?_
 obtain⟨_,X0,m⟩:=aD m
 refine bU (HT X0 u9 rfl rfl) ?_
 apply vi m <;> intro b0 m
 rw[b0]
 exact gD m
 rw[b0]
 obtain⟨_,X1,m⟩:=aD m
 exact bU (HT X1 u9 rfl rfl) (gD m)
 rintro _ j0 m
 refine v ?_
 apply vi m <;> intro c1 m
 refine v (v (fZ m λm=> ?_))
 obtain rfl:=eP m
 exact eF rfl
 exact v (v (wK m))
 exact v (KR m)
 rintro _ r0 m
 refine vs (fN m (σ:=Bool) (λs=> []) (λs=>.c 2 (.sc (.bool s)) .nil) (λx m=> ?_) ?_)
 refine v (bU (qZ UV rfl) ?_)
 apply vi m <;> intro b1 m
 rw[b1]
 exact bU (qZ UV rfl) (nX m)
 rw[b1]
 exact nX m
 rintro _ j1 m
 refine v ?_
 obtain rfl:=eP m
 exact eF rfl
theorem EG:aP Tryz.prog 140=true:=by kernel_rfl
def yB (m:Nat) (p0:bE) (q0:Int):Option (Lp (Int) (Bool)):=
 if (decide (q0 < (p0.Parts.length:Int)))=true then ((ix p0.Parts q0).bind λx0=>after ((CE m x0.Path).bind λy0=>if (!y0)=true then (some (.brk true)) else if (decide (0 < q0))=true then ((ix p0.Parts (IntKind.wrap .i64 (q0 - 1))).bind λx1=>if (Op.bytesLess x0.Path.toList x1.Path.toList || x0.Path.toList==x1.Path.toList)=true then (some (.brk true)) else if (decide (x0.Size < 0))=true then (some (.brk true)) else if (decide (200 < x0.Size))=true then (some (.brk true)) else if (decide (25 < (x0.Ids.length:Int)))=true then (some (.brk true)) else some (.brk (((x0.Ids.length:Int)==0) !=(x0.Size==0)))) else if (decide (x0.Size < 0))=true then (some (.brk true)) else if (decide (200 < x0.Size))=true then (some (.brk true)) else if (decide (25 < (x0.Ids.length:Int)))=true then (some (.brk true)) else some (.brk (((x0.Ids.length:Int)==0) !=(x0.Size==0))):Option (Lp (Bool) (Lp (Int) (Bool)))) λj0=>if j0=true then (some (.ret false)) else some (.go (IntKind.wrap .i64 (q0+1)))) else some (.brk q0)
def XL (m:Nat) (p0:bE):Option (Bool):=
 after ((CE m p0.Name).bind λy0=>if (!y0)=true then (some (.brk true)) else some (.brk (decide (6 < (p0.Parts.length:Int)))):Option (Lp (Bool) (Bool))) λj0=>if j0=true then (some false) else after (aS (λs=>yB m p0 s) m 0) λr0=>some true
theorem W98 {w:Nat} {p0:bE} {o:Bool} (h:aF) (m:XL w p0=some o):
 aM Tryz.prog 98 [.agg (bI p0)] h (λr h'=>r= .sc (.bool o)∧h'=h):=by
 refine fK 73 [.tmp 2] Tryz.func98 rfl rfl rfl rfl ?_
 unfold XL at m
 refine v (gX rfl rfl λk2 K3=>vs (vs (fN m (σ:=Bool) (λs=> [(some k2,.obj 58 (bI p0))]) (λs=>.c 1 (.ptr k2 0) (.c 14 (.sc (.bool s)) .nil)) (λx m=> ?_) ?_)))
 refine v (vl 0 _ HY rfl rfl rfl (vk MY EG m rfl rfl λ_ m=> ?_))
 apply vi m <;> intro b0 m
 rw[b0]
 exact wK m
 rw[b0]
 exact vl 0 _ oH rfl rfl rfl (dH zQ rfl (wK m))
 rintro _ j0 m
 refine v ?_
 apply vi m <;> intro c0 m
 refine v (v ?_)
 obtain rfl:=eP m
 exact eF rfl
 refine v (v (jP m (σ:=Int) (λs=> [(some k2,.obj 58 (bI p0))]) (λs=>.c 1 (.ptr k2 0) (.c 3 (nZ s) .nil)) (lx (.k2 .nil)) ?_ ?_))
 rintro _ q0 x m
 replace m:yB w p0 q0=some x:=m
 unfold yB at m
 refine v (vl 0 _ oH rfl rfl rfl (dH zQ rfl (v ?_)))
 apply vi m <;> intro c1 m
 refine v (v (v (vl 0 _ oH rfl rfl rfl (vx m sM rfl rfl λx0 _ m=>va (.agg (bX x0)) ED rfl rfl (ve λu=>bG (XZ) u JS rfl rfl λk112 K0=>qk K0 rfl (ve λu=>aL 0 (bX x0) u rfl rfl rfl rfl MG rfl rfl λK1=>qk K1 rfl (vs (fN m (σ:=Bool) (λs=> [(some k112,.obj 70 (bX x0)),(some k2,.obj 58 (bI p0))]) (λs=>.c 1 (.ptr k2 0) (.c 3 (nZ q0) (.c 72 (.sc (.bool s)) .nil))) (λx m=> ?_) ?_))))))))
 refine v (vq (by kernel_rfl) (vl 0 _ HY rfl rfl rfl (vk MY EG m rfl rfl λ_ m=> ?_)))
 apply vi m <;> intro b1 m
 rw[b1]
 exact gD m
 rw[b1]
 apply vi m <;> intro b2 m
 rw[b2]
 refine vl 0 _ HY rfl rfl rfl (vl 1 _ oH rfl rfl rfl (vx m sM rfl rfl λ_ _ m=>bU (F3 rfl rfl rfl trivial) ?_))
 apply vi m <;> intro b3 m
 rw[b3]
 exact gD m
 rw[b3]
 refine vl 0 _ cB rfl rfl rfl ?_
 apply vi m <;> intro b4 m
 rw[b4]
 exact gD m
 rw[b4]
 refine vl 0 _ cB rfl rfl rfl ?_
 apply vi m <;> intro b5 m
 rw[b5]
 exact gD m
 rw[b5]
 refine vl 0 _ xU rfl rfl rfl (dH uY rfl ?_)
 apply vi m <;> intro b6 m
 rw[b6]
 exact gD m
 rw[b6]
 exact vl 0 _ xU rfl rfl rfl (dH uY rfl (vl 0 _ cB rfl rfl rfl (bU (UG u4 rfl rfl rfl) (gD m))))
 rw[b2]
 refine vl 0 _ cB rfl rfl rfl ?_
 apply vi m <;> intro b7 m
 rw[b7]
 exact gD m
 rw[b7]
 refine vl 0 _ cB rfl rfl rfl ?_
 apply vi m <;> intro b8 m
 rw[b8]
 exact gD m
 rw[b8]
 refine vl 0 _ xU rfl rfl rfl (dH uY rfl ?_)
 apply vi m <;> intro b9 m
 rw[b9]
 exact gD m
 rw[b9]
 exact vl 0 _ xU rfl rfl rfl (dH uY rfl (vl 0 _ cB rfl rfl rfl (bU (UG u4 rfl rfl rfl) (gD m))))
 rintro _ j1 m
 refine v ?_
 apply vi m <;> intro c2 m
 refine v (v (fZ m λm=> ?_))
 obtain rfl:=eP m
 exact eF rfl
 exact v (v (zH m (mE [1] rfl rfl (.k2 .nil))))
 exact v (KR m)
 rintro _ r0 m
 refine v (v ?_)
 obtain rfl:=eP m
 exact eF rfl
theorem aAG:aP Tryz.prog 98=true:=by kernel_rfl
def wN (m:Nat) (p0:bH) (p1:bH) (q0:Int):Option (Lp (Int) (Bool)):=
 if (decide (q0 < 32))=true then ((ix p0.1 q0).bind λx0=>(ix p1.1 q0).bind λx1=>if (x0 !=x1)=true then ((ix p0.1 q0).bind λx2=>(ix p1.1 q0).bind λx3=>some (.ret (decide (x2 < x3)))) else some (.go (IntKind.wrap .i64 (q0+1)))) else some (.brk q0)
def Q5 (m:Nat) (p0:bH) (p1:bH):Option (Bool):=
 after (aS (λs=>wN m p0 p1 s) m 0) λr0=>some false
theorem aFE {w:Nat} {p0:bH} {p1:bH} {o:Bool} (h:aF) (m:Q5 w p0 p1=some o):
 aM Tryz.prog 167 [.agg (bC p0),.agg (bC p1)] h (λr h'=>r= .sc (.bool o)∧h'=h):=by
 refine fK 24 [.tmp 4] Tryz.func167 rfl rfl rfl rfl ?_
 unfold Q5 at m
 refine v (gX rfl rfl λk2 K3=>gX rfl rfl λk5 K6=>v (jP m (σ:=Int) (λs=> [(some k5,.obj 36 (bC p1)),(some k2,.obj 36 (bC p0))]) (λs=>.c 2 (.ptr k2 0) (.c 3 (.ptr k5 0) (.c 5 (nZ s) .nil))) (lx (.k3 .nil)) ?_ ?_))
 rintro _ q0 x m
 replace m:wN w p0 p1 q0=some x:=m
 unfold wN at m
 refine v (v ?_)
 apply vi m <;> intro c0 m
 refine v (v (v (vq (by kernel_rfl) ?_)))
 obtain⟨_,X0,m⟩:=aD m
 refine bU (lX X0 xN rfl rfl) (vn (λu=>nF 0 X0 D7 rfl (aW 1 u rfl) rfl) ?_)
 obtain⟨_,X1,m⟩:=aD m
 refine bU (lX X1 xN rfl rfl) (vn (λu=>nF 0 X1 D7 rfl (aW 0 u rfl) rfl) (v ?_))
 apply vi m <;> intro c1 m
 refine v (vq (by kernel_rfl) ?_)
 obtain⟨_,X2,m⟩:=aD m
 refine bU (lX X2 xN rfl rfl) (vn (λu=>nF 0 X2 D7 rfl (aW 1 u rfl) rfl) ?_)
 obtain⟨_,X3,m⟩:=aD m
 refine bU (lX X3 xN rfl rfl) (vn (λu=>nF 0 X3 D7 rfl (aW 0 u rfl) rfl) (v (fZ m λm=> ?_)))
 cases m
 exact eF rfl
 exact v (v (gD m))
 exact v (Fq m)
 rintro _ r0 m
 refine v (v ?_)
 obtain rfl:=eP m
 exact eF rfl
theorem aAH:aP Tryz.prog 167=true:=by kernel_rfl
def s9 (m:Nat) (p0:List bH) (p1:bH) (q0:Int):Option (Lp (Int) ((List bH)×Int×Bool)):=
 after (if (decide (q0 < (p0.length:Int)))=true then ((ix p0 q0).bind λx0=>(Q5 m x0 p1).bind λy0=>some (.brk y0)) else some (.brk false):Option (Lp (Bool) (Lp (Int) ((List bH)×Int×Bool)))) λj0=>if j0=true then (some (.go (IntKind.wrap .i64 (q0+1)))) else some (.brk q0)
def EH (m:Nat) (p0:List bH) (p1:bH):Option ((List bH)×Int×Bool):=
 after (aS (λs=>s9 m p0 p1 s) m 0) λr0=>after (if (decide (r0 < (p0.length:Int)))=true then ((ix p0 r0).bind λx0=>some (.brk (decide (x0=p1)))) else some (.brk false):Option (Lp (Bool) ((List bH)×Int×Bool))) λj0=>if j0=true then (some (p0,r0,false)) else (slc p0 0 r0).bind λx1=>(app ([]:List bH) x1).bind λz0=>(app z0 ([p1]:List bH)).bind λz1=>(slc p0 r0 (p0).length).bind λx2=>(app z1 x2).bind λz2=>some (z2,r0,true)
theorem aAI {w:Nat} {p0:List bH} {p1:bH} {o:(List bH)×Int×Bool} (h:aF) (m:EH w p0 p1=some o):
 aM Tryz.prog 106 [.sl none 32 (List.map bC p0),.agg (bC p1)] h (λr h'=>r= .tup [.sl none 32 (List.map bC o.1),nZ o.2.1,.sc (.bool o.2.2)]∧h'=h):=by
 refine fK 51 [.tmp 4,.tmp 5,.tmp 6] Tryz.func106 rfl rfl rfl rfl ?_
 unfold EH at m
 refine v (gX rfl rfl λk2 K3=>v (vs (jP m (σ:=Int) (λs=> [(some k2,.obj 36 (bC p1))]) (λs=>.c 0 (.sl none 32 (List.map bC p0)) (.c 3 (.ptr k2 0) (.c 7 (nZ s) .nil))) (lx (.k3 .nil)) ?_ ?_)))
 rintro _ q0 x m
 replace m:s9 w p0 p1 q0=some x:=m
 unfold s9 at m
 refine vs (vs (fN m (σ:=Bool) (λs=> [(some k2,.obj 36 (bC p1))]) (λs=>.c 0 (.sl none 32 (List.map bC p0)) (.c 3 (.ptr k2 0) (.c 7 (nZ q0) (.c 20 (.sc (.bool s)) .nil)))) (λx m=> ?_) ?_))
 refine v (vq (by kernel_rfl) (dH uY rfl ?_))
 apply vi m <;> intro b0 m
 rw[b0]
 exact vx m zT rfl rfl λx0 _ m=>va (.agg (bC x0)) eY rfl rfl (vl 0 (.agg (bC p1)) eY rfl rfl rfl (vk aFE aAH m rfl rfl λ_ m=>fY m))
 rw[b0]
 exact fY m
 rintro _ j0 m
 refine v ?_
 apply vi m <;> intro c0 m
 exact v (v (v (gD m)))
 exact v (Fq m)
 rintro _ r0 m
 refine vs (vs (fN m (σ:=Bool) (λs=> [(some k2,.obj 36 (bC p1))]) (λs=>.c 0 (.sl none 32 (List.map bC p0)) (.c 3 (.ptr k2 0) (.c 7 (nZ r0) (.c 34 (.sc (.bool s)) .nil)))) (λx m=> ?_) ?_))
 refine v (vq (by kernel_rfl) (dH uY rfl ?_))
 apply vi m <;> intro b1 m
 rw[b1]
 exact vx m zT rfl rfl λx1 _ m=>va (.agg (bC x1)) eY rfl rfl (vl 0 (.agg (bC p1)) eY rfl rfl rfl (bU (AO EA TD u5 D7 rfl rfl) (fY m)))
 rw[b1]
 exact fY m
 rintro _ j1 m
 refine v ?_
 apply vi m <;> intro c1 m
 refine v (v ?_)
 cases m
 exact vr λu=>dW.of3 (.inl rfl) (gN _ _ (.sl _ _ _) rfl) (gN _ _ (.sc (.int _ _)) rfl) (gN _ _ (.sc (.bool _)) rfl) (aU (List.nil_sublist _) u).1 (bD.refl _ _) (bD.refl _ _) (bD.refl _ _) ⟨rfl,rfl⟩
 refine v (v (v (vz [(1000000,some k2,.obj 36 (bC p1))] mixed (λu=>⟨λ_=>aO 0 u rfl,trivial⟩) λu=>zC 0 rfl (fA (.sc (.slice _ _ _)) rfl) (zC 1 rfl (fA (.sl _ _ _) rfl) (zI 2 rfl rfl ?_)))))
 obtain⟨_,X0,m⟩:=aD m
 refine zC 3 rfl (o5 X0 zT rfl rfl rfl rfl) (zL 5 0 (.agg (bC p1)) rfl eY rfl rfl rfl (zC 6 rfl (eA (List.map bC ([p1]:List bH)) CA rfl rfl rfl rfl) ?_))
 obtain⟨z0,Z0,m⟩:=aD m
 refine zE 4 rfl (oD (c:=bC) Z0 CA rfl rfl u nofun rfl λtg0 t0 K0=>⟨⟨λ_=>aO 1 K0 rfl,trivial⟩, ?_⟩)
 obtain⟨z1,Z1,m⟩:=aD m
 refine zE 7 rfl (fG (c:=bC) 0 Z1 CA rfl rfl rfl t0 K0 rfl λtg1 t1 K1=>⟨⟨λ_=>aO 1 K1 rfl,trivial⟩, ?_⟩)
 refine zC 8 rfl (hH (ow _ _ _) rfl) (zX (qk (f:=.c 8 _ (.c 44 _ (.c 41 _ (.c 43 _ (.c 42 _ (S9 40 _ _ _ _ _)))))) K1 rfl (v ?_)))
 obtain⟨_,X1,m⟩:=aD m
 refine bU (o5 X1 zT rfl rfl rfl rfl) ?_
 obtain⟨z2,Z2,m⟩:=aD m
 refine ve λu=>fG (c:=bC) 0 Z2 CA rfl rfl rfl t1 u rfl λtg2 t2 K2=>qk K2 rfl (v ?_)
 cases m
 exact vr λu=>dW.of3 (.inl rfl) (gN _ _ (ow _ _ _) rfl) (gN _ _ (.sc (.int _ _)) rfl) (gN _ _ (.sc (.bool _)) rfl) (aU (List.nil_sublist _) u).1 ((dU _ 0 t2 u rfl)) (bD.refl _ _) (bD.refl _ _) ⟨rfl,rfl⟩
theorem TO:aP Tryz.prog 106=true:=by kernel_rfl
def vA (m:Nat) (p0:bE) (q0:Int) (q1:List bH) (q2:Int):Option (Lp ((List bH)×Int) (Lp ((List bH)×Int) ((List bH)))):=
 (ix p0.Parts q0).bind λx0=>if (decide (q2 < (x0.Ids.length:Int)))=true then ((ix p0.Parts q0).bind λx1=>(ix x1.Ids q2).bind λx2=>(EH m q1 x2).bind λy0=>some (.go (y0.1,IntKind.wrap .i64 (q2+1)))) else some (.brk (q1,q2))
def vB (m:Nat) (p0:bE) (q0:List bH) (q1:Int):Option (Lp ((List bH)×Int) ((List bH))):=
 if (decide (q1 < (p0.Parts.length:Int)))=true then (after (aS (λs=>vA m p0 q1 s.1 s.2) m (q0,0)) λ⟨r0,r1⟩=>some (.go (r0,IntKind.wrap .i64 (q1+1)))) else some (.brk (q0,q1))
def M49 (m:Nat) (p0:bE):Option ((List bH)):=
 after (aS (λs=>vB m p0 s.1 s.2) m ([],0)) λ⟨r0,r1⟩=>some r0
theorem W49 {u:Nat} {p0:bE} {o:(List bH)} (h:aF) (m:M49 u p0=some o):
 aM Tryz.prog 49 [.agg (bI p0)] h (λr h'=>r= .sl none 32 (List.map bC o)∧h'=h):=by
 refine fK 40 [.tmp 2] Tryz.func49 rfl rfl rfl rfl ?_
 unfold M49 at m
 refine v (gX rfl rfl λk2 K3=>v (v (jP m (σ:=(List bH)×Int) (λs=> [(some k2,.obj 58 (bI p0))]) (λs=>.c 1 (.ptr k2 0) (.c 3 (.sl none 32 (List.map bC s.1)) (.c 4 (nZ s.2) .nil))) (lx (.cons (bD.refl _ _) (.cons (a9 _) (.cons (bD.refl _ _) .nil)))) ?_ ?_)))
 rintro _ ⟨q0,q1⟩ x m
 replace m:vB u p0 q0 q1=some x:=m
 unfold vB at m
 refine v (vl 0 _ oH rfl rfl rfl (dH zQ rfl (v ?_)))
 apply vi m <;> intro c0 m
 refine v (v (v (jP m (σ:=(List bH)×Int) (λs=> [(some k2,.obj 58 (bI p0))]) (λs=>.c 1 (.ptr k2 0) (.c 3 (.sl none 32 (List.map bC s.1)) (.c 4 (nZ q1) (.c 5 (nZ s.2) .nil)))) (lx (.k4 .nil)) ?_ ?_)))
 rintro _ ⟨q2,q3⟩ x m
 replace m:vA u p0 q1 q2 q3=some x:=m
 unfold vA at m
 refine v (vl 0 _ oH rfl rfl rfl (vx m sM rfl rfl λ_ _ m=>dH uY rfl (v ?_)))
 apply vi m <;> intro c1 m
 exact v (v (v (vl 0 _ oH rfl rfl rfl (vx m sM rfl rfl λ_ _ m=>vx m zT rfl rfl λx0 _ m=>va (.agg (bC x0)) eY rfl rfl (vk aAI TO m rfl rfl λ_ m=>v (fY m))))))
 exact v (wE m)
 rintro _ ⟨r0,r1⟩ m
 exact v (gD m)
 exact v (Fq m)
 rintro _ ⟨r2,r3⟩ m
 refine v (v ?_)
 obtain rfl:=eP m
 exact eF rfl
theorem aFF:aP Tryz.prog 49=true:=by kernel_rfl
def oK (m:Nat) (p0:aA) (p1:bH) (q0:Int):Option (Lp (Int) (Int)):=
 if (decide (q0 < (p0.Chunks.length:Int)))=true then ((ix p0.Chunks q0).bind λx0=>if (decide (x0.Id=p1))=true then (some (.ret q0)) else some (.go (IntKind.wrap .i64 (q0+1)))) else some (.brk q0)
def KS (m:Nat) (p0:aA) (p1:bH):Option (Int):=
 after (aS (λs=>oK m p0 p1 s) m 0) λr0=>some (-1)
theorem W88 {u:Nat} {p0:aA} {p1:bH} {o:Int} (h:aF) (m:KS u p0 p1=some o):
 aM Tryz.prog 88 [.agg (aC p0),.agg (bC p1)] h (λr h'=>r=nZ o∧h'=h):=by
 refine fK 22 [.tmp 4] Tryz.func88 rfl rfl rfl rfl ?_
 unfold KS at m
 refine v (gX rfl rfl λk2 K3=>gX rfl rfl λk5 K6=>v (jP m (σ:=Int) (λs=> [(some k5,.obj 36 (bC p1)),(some k2,.obj 30 (aC p0))]) (λs=>.c 2 (.ptr k2 0) (.c 3 (.ptr k5 0) (.c 5 (nZ s) .nil))) (lx (.k3 .nil)) ?_ ?_))
 rintro _ q0 x m
 replace m:oK u p0 p1 q0=some x:=m
 unfold oK at m
 refine v (vl 1 _ fD rfl rfl rfl (dH lI rfl (v ?_)))
 apply vi m <;> intro c0 m
 refine v (v (v (vq (by kernel_rfl) (vl 1 _ fD rfl rfl rfl (vx m h9 rfl rfl λx0 _ m=>va (.agg (bC x0.Id)) eY rfl rfl (vl 0 (.agg (bC p1)) eY rfl rfl rfl (bU (AO EA TD u5 D7 rfl rfl) (v ?_))))))))
 apply vi m <;> intro c1 m
 refine v (v (fZ m λm=> ?_))
 obtain rfl:=eP m
 exact eF rfl
 exact v (v (gD m))
 exact v (Fq m)
 rintro _ r0 m
 refine v (v ?_)
 cases m
 exact eF rfl
theorem Q6:aP Tryz.prog 88=true:=by kernel_rfl
def oL (m:Nat) (p0:aA) (p1:ByteArray) (q0:Int):Option (Lp (Int) (Int)):=
 if (decide (q0 < (p0.Snaps.length:Int)))=true then ((ix p0.Snaps q0).bind λx0=>if (x0.Man.Name.toList==p1.toList)=true then (some (.ret q0)) else some (.go (IntKind.wrap .i64 (q0+1)))) else some (.brk q0)
def yC (m:Nat) (p0:aA) (p1:ByteArray):Option (Int):=
 after (aS (λs=>oL m p0 p1 s) m 0) λr0=>some (-1)
theorem VI {u:Nat} {p0:aA} {p1:ByteArray} {o:Int} (h:aF) (m:yC u p0 p1=some o):
 aM Tryz.prog 149 [.agg (aC p0),.sc (.string p1)] h (λr h'=>r=nZ o∧h'=h):=by
 refine fK 23 [.tmp 4] Tryz.func149 rfl rfl rfl rfl ?_
 unfold yC at m
 refine v (gX rfl rfl λk2 K3=>v (jP m (σ:=Int) (λs=> [(some k2,.obj 30 (aC p0))]) (λs=>.c 1 (.sc (.string p1)) (.c 2 (.ptr k2 0) (.c 5 (nZ s) .nil))) (lx (.k3 .nil)) ?_ ?_))
 rintro _ q0 x m
 replace m:oL u p0 p1 q0=some x:=m
 unfold oL at m
 refine v (vl 0 _ fI rfl rfl rfl (dH kZ rfl (v ?_)))
 apply vi m <;> intro c0 m
 refine v (v (v (vl 0 _ fI rfl rfl rfl (vx m jL rfl rfl λ_ _ m=>bU (F3 rfl rfl rfl trivial) (v ?_)))))
 apply vi m <;> intro c1 m
 refine v (v (fZ m λm=> ?_))
 obtain rfl:=eP m
 exact eF rfl
 exact v (v (gD m))
 exact v (Fq m)
 rintro _ r0 m
 refine v (v ?_)
 cases m
 exact eF rfl
theorem MZ:aP Tryz.prog 149=true:=by kernel_rfl
def rG (m:Nat) (p0:aA) (q0:Int):Option (Lp (Int) (Bool)):=
 if (decide (q0 < (p0.Vols.length:Int)))=true then ((ix p0.Vols q0).bind λx0=>after ((HZ m x0.Pool 0 1).bind λy0=>if (!y0)=true then (some (.brk true)) else (HZ m x0.Epoch 0 1048576).bind λy1=>some (.brk (!y1)):Option (Lp (Bool) (Lp (Int) (Bool)))) λj0=>if j0=true then (some (.ret false)) else after (if (x0.State==1)=true then (some (.brk (x0.State==1))) else some (.brk (x0.State==3)):Option (Lp (Bool) (Lp (Int) (Bool)))) λj1=>after (if j1=true then (if (x0.Files !=0)=true then (some (.ret (.ret false))) else some (.brk ())) else if (x0.State==2)=true then ((HZ m x0.Files 1 65535).bind λy2=>if (!y2)=true then (some (.ret (.ret false))) else some (.brk ())) else some (.ret (.ret false)):Option (Lp (Unit) (Lp (Int) (Bool)))) λ_=>some (.go (IntKind.wrap .i64 (q0+1)))) else some (.brk q0)
def rH (m:Nat) (p0:aA) (q0:Int):Option (Lp (Int) (Bool)):=
 if (decide (q0 < (p0.Chunks.length:Int)))=true then ((ix p0.Chunks q0).bind λx0=>after (if (decide (0 < q0))=true then ((ix p0.Chunks (IntKind.wrap .i64 (q0 - 1))).bind λx1=>(MX m x1.Id x0.Id).bind λy0=>if (!y0)=true then (some (.brk true)) else (zZ m p0 x0.Locs).bind λy1=>if (!y1)=true then (some (.brk true)) else if x0.Staged=true then ((HZ m (x0.Data.length:Int) 1 64).bind λy2=>if (!y2)=true then (some (.brk true)) else if (!x0.Staged)=true then (if (decide (0 < (x0.Data.length:Int)))=true then (some (.brk true)) else some (.brk ((x0.Locs.length:Int)==0))) else some (.brk false)) else if (!x0.Staged)=true then (if (decide (0 < (x0.Data.length:Int)))=true then (some (.brk true)) else some (.brk ((x0.Locs.length:Int)==0))) else some (.brk false)) else (zZ m p0 x0.Locs).bind λy3=>if (!y3)=true then (some (.brk true)) else if x0.Staged=true then ((HZ m (x0.Data.length:Int) 1 64).bind λy4=>if (!y4)=true then (some (.brk true)) else if (!x0.Staged)=true then (if (decide (0 < (x0.Data.length:Int)))=true then (some (.brk true)) else some (.brk ((x0.Locs.length:Int)==0))) else some (.brk false)) else if (!x0.Staged)=true then (if (decide (0 < (x0.Data.length:Int)))=true then (some (.brk true)) else some (.brk ((x0.Locs.length:Int)==0))) else some (.brk false):Option (Lp (Bool) (Lp (Int) (Bool)))) λj0=>if j0=true then (some (.ret false)) else some (.go (IntKind.wrap .i64 (q0+1)))) else some (.brk q0)
def vD (m:Nat) (p0:aA) (y0:(List bH)) (q0:Int):Option (Lp (Int) (Lp (Int) (Bool))):=
 if (decide (q0 < (y0.length:Int)))=true then ((ix y0 q0).bind λx0=>(KS m p0 x0).bind λy1=>if (decide (y1 < 0))=true then (some (.ret (.ret false))) else some (.go (IntKind.wrap .i64 (q0+1)))) else some (.brk q0)
def vF (m:Nat) (p0:aA) (x0:aH) (q0:Int):Option (Lp (Int) (Lp (Int) (Bool))):=
 if (decide (q0 < (p0.Exps.length:Int)))=true then ((ix p0.Exps q0).bind λx1=>if (x1.Of==x0.Seq)=true then (some (.ret (.ret false))) else some (.go (IntKind.wrap .i64 (q0+1)))) else some (.brk q0)
def rI (m:Nat) (p0:aA) (q0:Int):Option (Lp (Int) (Bool)):=
 if (decide (q0 < (p0.Snaps.length:Int)))=true then ((ix p0.Snaps q0).bind λx0=>after (if (decide (x0.Seq < 0))=true then (some (.brk true)) else if (decide (p0.Seq≤x0.Seq))=true then (some (.brk true)) else if (decide (0 < q0))=true then ((ix p0.Snaps (IntKind.wrap .i64 (q0 - 1))).bind λx1=>if (decide (x0.Seq≤x1.Seq))=true then (some (.brk true)) else (XL m x0.Man).bind λy0=>if (!y0)=true then (some (.brk true)) else (zZ m p0 x0.Locs).bind λy1=>if (!y1)=true then (some (.brk true)) else (yC m p0 x0.Man.Name).bind λy2=>some (.brk (y2 !=q0))) else (XL m x0.Man).bind λy3=>if (!y3)=true then (some (.brk true)) else (zZ m p0 x0.Locs).bind λy4=>if (!y4)=true then (some (.brk true)) else (yC m p0 x0.Man.Name).bind λy5=>some (.brk (y5 !=q0)):Option (Lp (Bool) (Lp (Int) (Bool)))) λj0=>if j0=true then (some (.ret false)) else (M49 m x0.Man).bind λy6=>after (aS (λs=>vD m p0 y6 s) m 0) λr0=>after (aS (λs=>vF m p0 x0 s) m 0) λr1=>some (.go (IntKind.wrap .i64 (q0+1)))) else some (.brk q0)
def oM (m:Nat) (p0:aA) (q0:Int):Option (Lp (Int) (Bool)):=
 if (decide (q0 < (p0.Exps.length:Int)))=true then ((ix p0.Exps q0).bind λx0=>after (if (decide (x0.Seq < 0))=true then (some (.brk true)) else if (decide (p0.Seq≤x0.Seq))=true then (some (.brk true)) else if (decide (0 < q0))=true then ((ix p0.Exps (IntKind.wrap .i64 (q0 - 1))).bind λx1=>if (decide (x0.Seq≤x1.Seq))=true then (some (.brk true)) else if (decide (x0.Of < 0))=true then (some (.brk true)) else if (decide (x0.Seq≤x0.Of))=true then (some (.brk true)) else (zZ m p0 x0.Locs).bind λy0=>if (!y0)=true then (some (.brk true)) else some (.brk ((x0.Locs.length:Int)==0))) else if (decide (x0.Of < 0))=true then (some (.brk true)) else if (decide (x0.Seq≤x0.Of))=true then (some (.brk true)) else (zZ m p0 x0.Locs).bind λy1=>if (!y1)=true then (some (.brk true)) else some (.brk ((x0.Locs.length:Int)==0)):Option (Lp (Bool) (Lp (Int) (Bool)))) λj0=>if j0=true then (some (.ret false)) else some (.go (IntKind.wrap .i64 (q0+1)))) else some (.brk q0)
def VJ (m:Nat) (p0:aA):Option (Bool):=
 after ((HZ m p0.Seq 0 1073741824).bind λy0=>if (!y0)=true then (some (.brk true)) else if (decide (8 < (p0.Snaps.length:Int)))=true then (some (.brk true)) else if (decide (200 < (p0.Chunks.length:Int)))=true then (some (.brk true)) else if (decide (200 < (p0.Exps.length:Int)))=true then (some (.brk true)) else (HZ m (p0.Vols.length:Int) 1 8).bind λy1=>some (.brk (!y1)):Option (Lp (Bool) (Bool))) λj0=>if j0=true then (some false) else after (aS (λs=>rG m p0 s) m 0) λr0=>after (aS (λs=>rH m p0 s) m 0) λr1=>after (aS (λs=>rI m p0 s) m 0) λr2=>after (aS (λs=>oM m p0 s) m 0) λr3=>some true
theorem W89 {w:Nat} {p0:aA} {o:Bool} (h:aF) (m:VJ w p0=some o):
 aM Tryz.prog 89 [.agg (aC p0)] h (λr h'=>r= .sc (.bool o)∧h'=h):=by
 refine fK 296 [.tmp 2] Tryz.func89 rfl rfl rfl rfl ?_
 unfold VJ at m
 refine v (gX rfl rfl λk2 K3=>vs (vs (fN m (σ:=Bool) (λs=> [(some k2,.obj 30 (aC p0))]) (λs=>.c 1 (.ptr k2 0) (.c 42 (.sc (.bool s)) .nil)) (λx m=> ?_) ?_)))
 refine v (vl 0 _ cB rfl rfl rfl (vk P1 zY m rfl rfl λ_ m=> ?_))
 apply vi m <;> intro b0 m
 rw[b0]
 exact wK m
 rw[b0]
 refine vl 0 _ fI rfl rfl rfl (dH kZ rfl ?_)
 apply vi m <;> intro b1 m
 rw[b1]
 exact wK m
 rw[b1]
 refine vl 0 _ fD rfl rfl rfl (dH lI rfl ?_)
 apply vi m <;> intro b2 m
 rw[b2]
 exact wK m
 rw[b2]
 refine vl 0 _ iG rfl rfl rfl (dH pN rfl ?_)
 apply vi m <;> intro b3 m
 rw[b3]
 exact wK m
 rw[b3]
 exact vl 0 _ iH rfl rfl rfl (dH qK rfl (vk P1 zY m rfl rfl λ_ m=>wK m))
 rintro _ j0 m
 refine v ?_
 apply vi m <;> intro c0 m
 refine v (v ?_)
 obtain rfl:=eP m
 exact eF rfl
 refine v (v (jP m (σ:=Int) (λs=> [(some k2,.obj 30 (aC p0))]) (λs=>.c 1 (.ptr k2 0) (.c 3 (nZ s) .nil)) (lx (.k2 .nil)) ?_ ?_))
 rintro _ q0 x m
 replace m:rG w p0 q0=some x:=m
 unfold rG at m
 refine v (vl 0 _ iH rfl rfl rfl (dH qK rfl (v ?_)))
 apply vi m <;> intro c1 m
 refine v (v (v (vl 0 _ iH rfl rfl rfl (vx m lZ rfl rfl λx0 _ m=>va (.agg (dG x0)) ZG rfl rfl (ve λu=>bG (I9) u QX rfl rfl λk156 K0=>qk K0 rfl (ve λu=>aL 0 (dG x0) u rfl rfl rfl rfl ZH rfl rfl λK1=>qk K1 rfl (vs (vs (fN m (σ:=Bool) (λs=> [(some k156,.obj 49 (dG x0)),(some k2,.obj 30 (aC p0))]) (λs=>.c 1 (.ptr k2 0) (.c 3 (nZ q0) (.c 4 (.ptr k156 0) (.c 64 (.sc (.bool s)) .nil)))) (λx m=> ?_) ?_)))))))))
 refine v (vl 0 _ cB rfl rfl rfl (vk P1 zY m rfl rfl λ_ m=> ?_))
 apply vi m <;> intro b4 m
 rw[b4]
 exact fY m
 rw[b4]
 exact vl 0 _ cB rfl rfl rfl (vk P1 zY m rfl rfl λ_ m=>fY m)
 rintro _ j1 m
 refine v ?_
 apply vi m <;> intro c2 m
 refine v (v (fZ m λm=> ?_))
 obtain rfl:=eP m
 exact eF rfl
 refine v (v (vl 0 _ cB rfl rfl rfl (v (v (fN m (σ:=Bool) (λs=> [(some k156,.obj 49 (dG x0)),(some k2,.obj 30 (aC p0))]) (λs=>.c 1 (.ptr k2 0) (.c 3 (nZ q0) (.c 4 (.ptr k156 0) (.c 66 (nZ x0.State) (.c 67 (.sc (.bool s)) .nil))))) (λx m=> ?_) ?_)))))
 refine v ?_
 apply vi m <;> intro c3 m
 exact v (kY m)
 exact v (kY m)
 rintro _ j2 m
 refine fN m (σ:=Unit) (λs=> [(some k156,.obj 49 (dG x0)),(some k2,.obj 30 (aC p0))]) (λs=>.c 1 (.ptr k2 0) (.c 3 (nZ q0) .nil)) (λx m=> ?_) ?_
 refine v ?_
 apply vi m <;> intro c4 m
 refine v (vl 0 _ cB rfl rfl rfl (v ?_))
 apply vi m <;> intro c5 m
 refine v (v (fZ m λm=>fZ m λm=> ?_))
 obtain rfl:=eP m
 exact eF rfl
 exact v (wK m)
 refine v (v ?_)
 apply vi m <;> intro c6 m
 refine v (vl 0 _ cB rfl rfl rfl (vk P1 zY m rfl rfl λ_ m=>v ?_))
 apply vi m <;> intro c7 m
 refine v (v (fZ m λm=>fZ m λm=> ?_))
 obtain rfl:=eP m
 exact eF rfl
 exact v (wK m)
 refine v (v (fZ m λm=>fZ m λm=> ?_))
 obtain rfl:=eP m
 exact eF rfl
 rintro _ _ m
 exact v (zH m (mE [1] rfl rfl (.k2 .nil)))
 exact v (KR m)
 rintro _ r0 m
 refine v (jP m (σ:=Int) (λs=> [(some k2,.obj 30 (aC p0))]) (λs=>.c 1 (.ptr k2 0) (.c 5 (nZ s) .nil)) (lx (.k2 .nil)) ?_ ?_)
 rintro _ q1 x m
 replace m:rH w p0 q1=some x:=m
 unfold rH at m
 refine v (vl 0 _ fD rfl rfl rfl (dH lI rfl (v ?_)))
 apply vi m <;> intro c8 m
 refine v (v (v (vl 0 _ fD rfl rfl rfl (vx m h9 rfl rfl λx1 _ m=>va (.agg (aK x1)) pB rfl rfl (ve λu=>bG (bC gW++(SZ:List AV)) u qL rfl rfl λk364 K2=>qk K2 rfl (ve λu=>aL 0 (aK x1) u rfl rfl rfl rfl EC rfl rfl λK4=>qk K4 rfl (vs (fN m (σ:=Bool) (λs=> [(some k364,.obj 44 (aK x1)),(some k2,.obj 30 (aC p0))]) (λs=>.c 1 (.ptr k2 0) (.c 5 (nZ q1) (.c 140 (.sc (.bool s)) .nil))) (λx m=> ?_) ?_))))))))
 refine v (vq (by kernel_rfl) ?_)
 apply vi m <;> intro b5 m
 rw[b5]
 refine vl 1 _ fD rfl rfl rfl (vx m h9 rfl rfl λx2 _ m=>va (.agg (bC x2.Id)) eY rfl rfl (vl 0 (.agg (bC x1.Id)) eY rfl rfl rfl (vk aAF TN m rfl rfl λ_ m=> ?_)))
 apply vi m <;> intro b6 m
 rw[b6]
 exact gD m
 rw[b6]
 refine vl 1 (.agg (aC p0)) cZ rfl rfl rfl (vl 0 _ fT rfl rfl rfl (vk JY A0 m rfl rfl λ_ m=> ?_))
 apply vi m <;> intro b7 m
 rw[b7]
 exact gD m
 rw[b7]
 refine vl 0 _ GK rfl rfl rfl ?_
 apply vi m <;> intro b8 m
 rw[b8]
 refine vl 0 _ nY rfl rfl rfl (dH nP rfl (vk P1 zY m rfl rfl λ_ m=> ?_))
 apply vi m <;> intro b9 m
 rw[b9]
 exact gD m
 rw[b9]
 refine vl 0 _ GK rfl rfl rfl ?_
 apply vi m <;> intro b10 m
 rw[b10]
 refine vl 0 _ nY rfl rfl rfl (dH nP rfl ?_)
 apply vi m <;> intro b11 m
 rw[b11]
 exact gD m
 rw[b11]
 exact vl 0 _ fT rfl rfl rfl (dH kD rfl (gD m))
 rw[b10]
 exact gD m
 rw[b8]
 refine vl 0 _ GK rfl rfl rfl ?_
 apply vi m <;> intro b12 m
 rw[b12]
 refine vl 0 _ nY rfl rfl rfl (dH nP rfl ?_)
 apply vi m <;> intro b13 m
 rw[b13]
 exact gD m
 rw[b13]
 exact vl 0 _ fT rfl rfl rfl (dH kD rfl (gD m))
 rw[b12]
 exact gD m
 rw[b5]
 refine vl 1 (.agg (aC p0)) cZ rfl rfl rfl (vl 0 _ fT rfl rfl rfl (vk JY A0 m rfl rfl λ_ m=> ?_))
 apply vi m <;> intro b14 m
 rw[b14]
 exact gD m
 rw[b14]
 refine vl 0 _ GK rfl rfl rfl ?_
 apply vi m <;> intro b15 m
 rw[b15]
 refine vl 0 _ nY rfl rfl rfl (dH nP rfl (vk P1 zY m rfl rfl λ_ m=> ?_))
 apply vi m <;> intro b16 m
 rw[b16]
 exact gD m
 rw[b16]
 refine vl 0 _ GK rfl rfl rfl ?_
 apply vi m <;> intro b17 m
 rw[b17]
 refine vl 0 _ nY rfl rfl rfl (dH nP rfl ?_)
 apply vi m <;> intro b22 m
 rw[b22]
 exact gD m
 rw[b22]
 exact vl 0 _ fT rfl rfl rfl (dH kD rfl (gD m))
 rw[b17]
 exact gD m
 rw[b15]
 refine vl 0 _ GK rfl rfl rfl ?_
 apply vi m <;> intro b23 m
 rw[b23]
 refine vl 0 _ nY rfl rfl rfl (dH nP rfl ?_)
 apply vi m <;> intro b24 m
 rw[b24]
 exact gD m
 rw[b24]
 exact vl 0 _ fT rfl rfl rfl (dH kD rfl (gD m))
 rw[b23]
 exact gD m
 rintro _ j3 m
 refine v ?_
 apply vi m <;> intro c9 m
 refine v (v (fZ m λm=> ?_))
 obtain rfl:=eP m
 exact eF rfl
 exact v (v (zH m (mE [1] rfl rfl (.k2 .nil))))
 exact v (KR m)
 rintro _ r1 m
 refine v (jP m (σ:=Int) (λs=> [(some k2,.obj 30 (aC p0))]) (λs=>.c 1 (.ptr k2 0) (.c 7 (nZ s) .nil)) (lx (.k2 .nil)) ?_ ?_)
 rintro _ q2 x m
 replace m:rI w p0 q2=some x:=m
 unfold rI at m
 refine v (vl 0 _ fI rfl rfl rfl (dH kZ rfl (v ?_)))
 apply vi m <;> intro c10 m
 refine v (v (v (vl 0 _ fI rfl rfl rfl (vx m jL rfl rfl λx3 _ m=>va (.agg (bJ x3)) sN rfl rfl (ve λu=>bG (XF) u xS rfl rfl λk707 K5=>qk K5 rfl (ve λu=>aL 0 (bJ x3) u rfl rfl rfl rfl GP rfl rfl λK6=>qk K6 rfl (vs (vs (fN m (σ:=Bool) (λs=> [(some k707,.obj 60 (bJ x3)),(some k2,.obj 30 (aC p0))]) (λs=>.c 1 (.ptr k2 0) (.c 7 (nZ q2) (.c 8 (.ptr k707 0) (.c 200 (.sc (.bool s)) .nil)))) (λx m=> ?_) ?_)))))))))
 refine v (vq (by kernel_rfl) (vl 0 _ cB rfl rfl rfl ?_))
 apply vi m <;> intro b25 m
 rw[b25]
 exact fY m
 rw[b25]
 refine vl 0 _ cB rfl rfl rfl (vl 1 _ cB rfl rfl rfl ?_)
 apply vi m <;> intro b26 m
 rw[b26]
 exact fY m
 rw[b26]
 apply vi m <;> intro b27 m
 rw[b27]
 refine vl 0 _ cB rfl rfl rfl (vl 1 _ fI rfl rfl rfl (vx m jL rfl rfl λ_ _ m=> ?_))
 apply vi m <;> intro b28 m
 rw[b28]
 exact fY m
 rw[b28]
 refine vl 0 (.agg (bI x3.Man)) pQ rfl rfl rfl (vk W98 aAG m rfl rfl λ_ m=> ?_)
 apply vi m <;> intro b29 m
 rw[b29]
 exact fY m
 rw[b29]
 refine vl 1 (.agg (aC p0)) cZ rfl rfl rfl (vl 0 _ fT rfl rfl rfl (vk JY A0 m rfl rfl λ_ m=> ?_))
 apply vi m <;> intro b30 m
 rw[b30]
 exact fY m
 rw[b30]
 exact vl 1 (.agg (aC p0)) cZ rfl rfl rfl (vl 0 _ HY rfl rfl rfl (vk VI MZ m rfl rfl λ_ m=>fY m))
 rw[b27]
 refine vl 0 (.agg (bI x3.Man)) pQ rfl rfl rfl (vk W98 aAG m rfl rfl λ_ m=> ?_)
 apply vi m <;> intro b31 m
 rw[b31]
 exact fY m
 rw[b31]
 refine vl 1 (.agg (aC p0)) cZ rfl rfl rfl (vl 0 _ fT rfl rfl rfl (vk JY A0 m rfl rfl λ_ m=> ?_))
 apply vi m <;> intro b32 m
 rw[b32]
 exact fY m
 rw[b32]
 exact vl 1 (.agg (aC p0)) cZ rfl rfl rfl (vl 0 _ HY rfl rfl rfl (vk VI MZ m rfl rfl λ_ m=>fY m))
 rintro _ j4 m
 refine v ?_
 apply vi m <;> intro c11 m
 refine v (v (fZ m λm=> ?_))
 obtain rfl:=eP m
 exact eF rfl
 refine v (v (vl 0 (.agg (bI x3.Man)) pQ rfl rfl rfl (vk W49 aFF m rfl rfl λy0 m=>v (jP m (σ:=Int) (λs=> [(some k707,.obj 60 (bJ x3)),(some k2,.obj 30 (aC p0))]) (λs=>.c 1 (.ptr k2 0) (.c 7 (nZ q2) (.c 8 (.ptr k707 0) (.c 9 (.sl none 32 (List.map bC y0)) (.c 10 (nZ s) .nil))))) (lx (.k5 .nil)) ?_ ?_))))
 rintro _ q3 x m
 replace m:vD w p0 y0 q3=some x:=m
 unfold vD at m
 refine v (dH uY rfl (v ?_))
 apply vi m <;> intro c12 m
 refine v (v (v (vq (by kernel_rfl) (vl 1 (.agg (aC p0)) cZ rfl rfl rfl (vx m zT rfl rfl λx4 _ m=>va (.agg (bC x4)) eY rfl rfl (vk W88 Q6 m rfl rfl λ_ m=>v ?_))))))
 apply vi m <;> intro c13 m
 refine v (v (fZ m λm=>fZ m λm=> ?_))
 obtain rfl:=eP m
 exact eF rfl
 exact v (v (kY m))
 exact v (XJ m)
 rintro _ r2 m
 refine v (jP m (σ:=Int) (λs=> [(some k707,.obj 60 (bJ x3)),(some k2,.obj 30 (aC p0))]) (λs=>.c 1 (.ptr k2 0) (.c 7 (nZ q2) (.c 8 (.ptr k707 0) (.c 11 (nZ s) .nil)))) (lx (.k4 .nil)) ?_ ?_)
 rintro _ q4 x m
 replace m:vF w p0 x3 q4=some x:=m
 unfold vF at m
 refine v (vl 1 _ iG rfl rfl rfl (dH pN rfl (v ?_)))
 apply vi m <;> intro c14 m
 refine v (v (v (vq (by kernel_rfl) (vl 1 _ iG rfl rfl rfl (vx m iR rfl rfl λ_ _ m=>vl 0 _ cB rfl rfl rfl (v ?_))))))
 apply vi m <;> intro c15 m
 refine v (v (fZ m λm=>fZ m λm=> ?_))
 obtain rfl:=eP m
 exact eF rfl
 exact v (v (fY m))
 exact v (wE m)
 rintro _ r3 m
 exact v (zH m (mE [1] rfl rfl (.k2 .nil)))
 exact v (KR m)
 rintro _ r4 m
 refine v (jP m (σ:=Int) (λs=> [(some k2,.obj 30 (aC p0))]) (λs=>.c 1 (.ptr k2 0) (.c 12 (nZ s) .nil)) (lx (.k2 .nil)) ?_ ?_)
 rintro _ q5 x m
 replace m:oM w p0 q5=some x:=m
 unfold oM at m
 refine v (vl 0 _ iG rfl rfl rfl (dH pN rfl (v ?_)))
 apply vi m <;> intro c16 m
 refine v (v (v (vl 0 _ iG rfl rfl rfl (vx m iR rfl rfl λx5 _ m=>va (.agg (cH x5)) zU rfl rfl (ve λu=>bG ([nZ 0,nZ 0,sZ]) u sP rfl rfl λk941 K7=>qk K7 rfl (ve λu=>aL 0 (cH x5) u rfl rfl rfl rfl JT rfl rfl λK8=>qk K8 rfl (vs (fN m (σ:=Bool) (λs=> [(some k941,.obj 99 (cH x5)),(some k2,.obj 30 (aC p0))]) (λs=>.c 1 (.ptr k2 0) (.c 12 (nZ q5) (.c 295 (.sc (.bool s)) .nil))) (λx m=> ?_) ?_))))))))
 refine v (vq (by kernel_rfl) (vl 0 _ cB rfl rfl rfl ?_))
 apply vi m <;> intro b33 m
 rw[b33]
 exact gD m
 rw[b33]
 refine vl 0 _ cB rfl rfl rfl (vl 1 _ cB rfl rfl rfl ?_)
 apply vi m <;> intro b34 m
 rw[b34]
 exact gD m
 rw[b34]
 apply vi m <;> intro b35 m
 rw[b35]
 refine vl 0 _ cB rfl rfl rfl (vl 1 _ iG rfl rfl rfl (vx m iR rfl rfl λ_ _ m=> ?_))
 apply vi m <;> intro b36 m
 rw[b36]
 exact gD m
 rw[b36]
 refine vl 0 _ cB rfl rfl rfl ?_
 apply vi m <;> intro b37 m
 rw[b37]
 exact gD m
 rw[b37]
 refine vl 0 _ cB rfl rfl rfl (vl 0 _ cB rfl rfl rfl ?_)
 apply vi m <;> intro b38 m
 rw[b38]
 exact gD m
 rw[b38]
 refine vl 1 (.agg (aC p0)) cZ rfl rfl rfl (vl 0 _ fT rfl rfl rfl (vk JY A0 m rfl rfl λ_ m=> ?_))
 apply vi m <;> intro b39 m
 rw[b39]
 exact gD m
 rw[b39]
 exact vl 0 _ fT rfl rfl rfl (dH kD rfl (gD m))
 rw[b35]
 refine vl 0 _ cB rfl rfl rfl ?_
 apply vi m <;> intro b40 m
 rw[b40]
 exact gD m
 rw[b40]
 refine vl 0 _ cB rfl rfl rfl (vl 0 _ cB rfl rfl rfl ?_)
 apply vi m <;> intro b41 m
 rw[b41]
 exact gD m
 rw[b41]
 refine vl 1 (.agg (aC p0)) cZ rfl rfl rfl (vl 0 _ fT rfl rfl rfl (vk JY A0 m rfl rfl λ_ m=> ?_))
 apply vi m <;> intro b42 m
 rw[b42]
 exact gD m
 rw[b42]
 exact vl 0 _ fT rfl rfl rfl (dH kD rfl (gD m))
 rintro _ j5 m
 refine v ?_
 apply vi m <;> intro c17 m
 refine v (v (fZ m λm=> ?_))
 obtain rfl:=eP m
 exact eF rfl
 exact v (v (zH m (mE [1] rfl rfl (.k2 .nil))))
 exact v (KR m)
 rintro _ r5 m
 refine v (v ?_)
 obtain rfl:=eP m
 exact eF rfl
theorem aAK:aP Tryz.prog 89=true:=by kernel_rfl
open Go.Vm
def tA (m:Nat) (p0:List cT) (p1:cT→Option Bool) (q0:Int):Option (Lp (Int) (Int)):=
 if (decide (q0 < (p0.length:Int)))=true then ((ix p0 q0).bind λx0=>(p1 x0).bind λy0=>if y0=true then (some (.ret q0)) else some (.go (IntKind.wrap .i64 (q0+1)))) else some (.brk q0)
def Q7 (m:Nat) (p0:List cT) (p1:cT→Option Bool):Option (Int):=
 after (aS (λs=>tA m p0 p1 s) m 0) λr0=>some (-1)
theorem aFG {w:Nat} {p0:List cT} {p1:cT→Option Bool} {o:Int} (h:aF) {p1F:Nat} {p1C:List AV} (p1B:aP Tryz.prog p1F=true) (p1H:∀x0 o h0,iE h h0→p1 x0=some o→aM Tryz.prog p1F ([.agg (bX x0)]++p1C) h0 (λr h'=>r= .sc (.bool o)∧h'=h0)) (m:Q7 w p0 p1=some o):
 aM Tryz.prog 109 [.sl none 3 (List.map bX p0),.fn (.func p1F) p1C] h (λr h'=>r=nZ o∧h'=h):=by
 refine fK 19 [.tmp 4] Tryz.func109 rfl rfl rfl rfl ?_
 unfold Q7 at m
 refine v (v (dH zQ rfl (jP m (σ:=Int) (λs=> []) (λs=>.c 0 (.sl none 3 (List.map bX p0)) (.c 1 (.fn (.func p1F) p1C) (.c 7 (nZ (p0.length:Int)) (.c 8 (nZ s) .nil)))) (lx (.k4 .nil)) ?_ ?_)))
 rintro _ q0 x m
 replace m:tA w p0 p1 q0=some x:=m
 unfold tA at m
 refine v (v ?_)
 apply vi m <;> intro c0 m
 refine v (v (v (v (vx m sM rfl rfl λx1 _ m=>va (.agg (bX x1)) ED rfl rfl ?_))))
 obtain⟨_,Y0,m⟩:=aD m
 refine vn (λu=>bV (p1H _ _ _ (aU (List.nil_sublist _) u).1 Y0) rfl p1B rfl) (v ?_)
 apply vi m <;> intro c1 m
 refine v (v (fZ m λm=> ?_))
 obtain rfl:=eP m
 exact eF rfl
 exact v (v (fY m))
 exact v (wE m)
 rintro _ r0 m
 refine v (v ?_)
 cases m
 exact eF rfl
theorem aAL:aP Tryz.prog 109=true:=by kernel_rfl
def M60 (m:Nat) (p0:List cT) (p1:cT→Option Bool):Option (Bool):=
 (Q7 m p0 p1).bind λy3=>some (decide (0≤y3))
theorem W60 {w:Nat} {p0:List cT} {p1:cT→Option Bool} {o:Bool} (h:aF) {p1F:Nat} {p1C:List AV} (p1B:aP Tryz.prog p1F=true) (p1H:∀x0 o h0,iE h h0→p1 x0=some o→aM Tryz.prog p1F ([.agg (bX x0)]++p1C) h0 (λr h'=>r= .sc (.bool o)∧h'=h0)) (m:M60 w p0 p1=some o):
 aM Tryz.prog 60 [.sl none 3 (List.map bX p0),.fn (.func p1F) p1C] h (λr h'=>r= .sc (.bool o)∧h'=h):=by
 refine fK 9 [.tmp 4] Tryz.func60 rfl rfl rfl rfl ?_
 unfold M60 at m
 refine v (v ?_)
 obtain⟨_,Y4,m⟩:=aD m
 refine vn (λu=>bV (aFG _ p1B (λx0 o h0 hs ho=>p1H x0 o h0 ((aU (List.nil_sublist _) u).1.trans hs) ho) Y4) rfl aAL rfl) (v ?_)
 cases m
 exact eF rfl
theorem aFH:aP Tryz.prog 60=true:=by kernel_rfl
def tB (m:Nat) (p0:List bH) (p1:bH) (q0:Int):Option (Lp (Int) (Int)):=
 if (decide (q0 < (p0.length:Int)))=true then ((ix p0 q0).bind λx0=>if (decide (p1=x0))=true then (some (.ret q0)) else some (.go (IntKind.wrap .i64 (q0+1)))) else some (.brk q0)
def Q8 (m:Nat) (p0:List bH) (p1:bH):Option (Int):=
 after (aS (λs=>tB m p0 p1 s) m 0) λr0=>some (-1)
theorem aFI {u:Nat} {p0:List bH} {p1:bH} {o:Int} (h:aF) (m:Q8 u p0 p1=some o):
 aM Tryz.prog 110 [.sl none 32 (List.map bC p0),.agg (bC p1)] h (λr h'=>r=nZ o∧h'=h):=by
 refine fK 19 [.tmp 4] Tryz.func110 rfl rfl rfl rfl ?_
 unfold Q8 at m
 refine v (gX rfl rfl λk2 K3=>v (dH uY rfl (jP m (σ:=Int) (λs=> [(some k2,.obj 36 (bC p1))]) (λs=>.c 0 (.sl none 32 (List.map bC p0)) (.c 3 (.ptr k2 0) (.c 7 (nZ (p0.length:Int)) (.c 8 (nZ s) .nil)))) (lx (.k4 .nil)) ?_ ?_)))
 rintro _ q0 x m
 replace m:tB u p0 p1 q0=some x:=m
 unfold tB at m
 refine v (v ?_)
 apply vi m <;> intro c0 m
 refine v (v (v (v (vq (by kernel_rfl) (vl 0 (.agg (bC p1)) eY rfl rfl rfl (vx m zT rfl rfl λx0 _ m=>va (.agg (bC x0)) eY rfl rfl (bU (AO EA TD u5 D7 rfl rfl) (v ?_))))))))
 apply vi m <;> intro c1 m
 refine v (v (fZ m λm=> ?_))
 obtain rfl:=eP m
 exact eF rfl
 exact v (v (fY m))
 exact v (wE m)
 rintro _ r0 m
 refine v (v ?_)
 cases m
 exact eF rfl
theorem aAN:aP Tryz.prog 110=true:=by kernel_rfl
def M62 (m:Nat) (p0:List bH) (p1:bH):Option (Bool):=
 (Q8 m p0 p1).bind λy6=>some (decide (0≤y6))
theorem W62 {u:Nat} {p0:List bH} {p1:bH} {o:Bool} (h:aF) (m:M62 u p0 p1=some o):
 aM Tryz.prog 62 [.sl none 32 (List.map bC p0),.agg (bC p1)] h (λr h'=>r= .sc (.bool o)∧h'=h):=by
 refine fK 9 [.tmp 4] Tryz.func62 rfl rfl rfl rfl ?_
 unfold M62 at m
 refine v (gX rfl rfl λk2 K3=>v (vl 0 (.agg (bC p1)) eY rfl rfl rfl (vk aFI aAN m rfl rfl λ_ m=>v ?_)))
 cases m
 exact eF rfl
theorem aFJ:aP Tryz.prog 62=true:=by kernel_rfl
def M61 (m:Nat) (p0:cT) (c0:bH):Option (Bool):=
 (M62 m p0.Ids c0).bind λy6=>some y6
theorem W61 {w:Nat} {p0:cT} {c0:bH} {o:Bool} (h:aF) {c0K:bT} (c0H:h c0K=some (.obj 36 (bC c0))) (m:M61 w p0 c0=some o):
 aM Tryz.prog 61 [.agg (bX p0),.ptr c0K 0] h (λr h'=>r= .sc (.bool o)∧h'=h):=by
 refine fK 8 [.tmp 3] Tryz.func61 rfl rfl rfl rfl ?_
 unfold M61 at m
 refine v (gX rfl rfl λk2 K3=>v (vl 0 _ xU rfl rfl rfl (vn (λu=>gK (.agg (bC c0)) eY rfl (gM u c0H) rfl) (vk W62 aFJ m rfl rfl λ_ m=>v ?_))))
 obtain rfl:=eP m
 exact eF rfl
theorem aFK:aP Tryz.prog 61=true:=by kernel_rfl
def M59 (m:Nat) (p0:aH) (c0:bH):Option (Bool):=
 (M60 m p0.Man.Parts (λx0=>M61 m x0 c0)).bind λy6=>some y6
theorem W59 {w:Nat} {p0:aH} {c0:bH} {o:Bool} (h:aF) {c0K:bT} (c0H:h c0K=some (.obj 36 (bC c0))) (m:M59 w p0 c0=some o):
 aM Tryz.prog 59 [.agg (bJ p0),.ptr c0K 0] h (λr h'=>r= .sc (.bool o)∧h'=h):=by
 refine fK 9 [.tmp 3] Tryz.func59 rfl rfl rfl rfl ?_
 unfold M59 at m
 refine v (gX rfl rfl λk2 K3=>v (vl 0 _ oH rfl rfl rfl ?_))
 obtain⟨_,Y7,m⟩:=aD m
 refine vn (λu=>bV (W60 _ aFK (λ_ o h0 hs ho=>W61 _ (hs _ _ (gM u c0H)) ho) Y7) rfl aFH rfl) (v ?_)
 obtain rfl:=eP m
 exact eF rfl
theorem aFL:aP Tryz.prog 59=true:=by kernel_rfl
def VK (m:Nat) (p0:aA) (p1:bH):Option (Bool):=
 (VG m p0.Snaps (λx0=>M59 m x0 p1)).bind λy9=>some y9
theorem W22 {w:Nat} {p0:aA} {p1:bH} {o:Bool} (h:aF) (m:VK w p0 p1=some o):
 aM Tryz.prog 22 [.agg (aC p0),.agg (bC p1)] h (λr h'=>r= .sc (.bool o)∧h'=h):=by
 refine fK 9 [.tmp 4] Tryz.func22 rfl rfl rfl rfl ?_
 unfold VK at m
 refine v (gX rfl rfl λk2 K3=>gX rfl rfl λk5 K6=>v (vl 1 _ fI rfl rfl rfl ?_))
 obtain⟨_,Y0,m⟩:=aD m
 refine vn (λu=>bV (W58 _ aFL (λ_ o h0 hs ho=>W59 _ (hs _ _ (aW 0 u rfl)) ho) Y0) rfl ZZ rfl) (v ?_)
 obtain rfl:=eP m
 exact eF rfl
theorem VL:aP Tryz.prog 22=true:=by kernel_rfl
def yD (m:Nat) (p0:aA) (p1:(List aR)→Bool→Option Bool) (q0:List aE) (q1:Int):Option (Lp ((List aE)×Int) ((List aE))):=
 if (decide (q1 < (p0.Chunks.length:Int)))=true then ((ix p0.Chunks q1).bind λx0=>(VK m p0 x0.Id).bind λy0=>(p1 x0.Locs y0).bind λy1=>after (if y1=true then ((app q0 ([({ Kind:=1,Id:=x0.Id,Seq:=0,Of:=0,Off:=0,Len:=0}:aE)]:List aE)).bind λz0=>some (.brk z0)) else some (.brk q0):Option (Lp ((List aE)) (Lp ((List aE)×Int) ((List aE))))) λj0=>some (.go (j0,IntKind.wrap .i64 (q1+1)))) else some (.brk (q0,q1))
def yE (m:Nat) (p0:aA) (p1:(List aR)→Bool→Option Bool) (q0:List aE) (q1:Int):Option (Lp ((List aE)×Int) ((List aE))):=
 if (decide (q1 < (p0.Snaps.length:Int)))=true then ((ix p0.Snaps q1).bind λx0=>(p1 x0.Locs true).bind λy0=>after (if y0=true then ((app q0 ([({ Kind:=2,Id:=gW,Seq:=x0.Seq,Of:=0,Off:=0,Len:=0}:aE)]:List aE)).bind λz0=>some (.brk z0)) else some (.brk q0):Option (Lp ((List aE)) (Lp ((List aE)×Int) ((List aE))))) λj0=>some (.go (j0,IntKind.wrap .i64 (q1+1)))) else some (.brk (q0,q1))
def yF (m:Nat) (p0:aA) (p1:(List aR)→Bool→Option Bool) (q0:List aE) (q1:Int):Option (Lp ((List aE)×Int) ((List aE))):=
 if (decide (q1 < (p0.Exps.length:Int)))=true then ((ix p0.Exps q1).bind λx0=>(p1 x0.Locs true).bind λy0=>after (if y0=true then ((app q0 ([({ Kind:=3,Id:=gW,Seq:=x0.Seq,Of:=x0.Of,Off:=0,Len:=0}:aE)]:List aE)).bind λz0=>some (.brk z0)) else some (.brk q0):Option (Lp ((List aE)) (Lp ((List aE)×Int) ((List aE))))) λj0=>some (.go (j0,IntKind.wrap .i64 (q1+1)))) else some (.brk (q0,q1))
def VM (m:Nat) (p0:aA) (p1:(List aR)→Bool→Option Bool):Option ((List aE)):=
 after (aS (λs=>yD m p0 p1 s.1 s.2) m ([],0)) λ⟨r0,r1⟩=>after (aS (λs=>yE m p0 p1 s.1 s.2) m (r0,0)) λ⟨r2,r3⟩=>after (aS (λs=>yF m p0 p1 s.1 s.2) m (r2,0)) λ⟨r4,r5⟩=>some r4
theorem W50 {w:Nat} {p0:aA} {p1:(List aR)→Bool→Option Bool} {o:(List aE)} (h:aF) {p1F:Nat} {p1C:List AV} (p1B:aP Tryz.prog p1F=true) (p1H:∀x0 x1 o h0,iE h h0→p1 x0 x1=some o→aM Tryz.prog p1F ([.sl none 4 (List.map aN x0),.sc (.bool x1)]++p1C) h0 (λr h'=>r= .sc (.bool o)∧h'=h0)) (m:VM w p0 p1=some o):
 aM Tryz.prog 50 [.agg (aC p0),.fn (.func p1F) p1C] h (λr h'=>r= .sl none 37 (List.map aI o)∧h'=h):=by
 refine fK 73 [.tmp 4] Tryz.func50 rfl rfl rfl rfl ?_
 unfold VM at m
 refine v (gX rfl rfl λk2 K3=>v (v (vl 0 _ fD rfl rfl rfl (dH lI rfl (qE (AS (.tok 38 37 (([]:List aE).length*37)) 5 (ow none 37 (List.map aI [])) (gQ _ _)) (nW m (σ:=(List aE)×Int) (τ:=Option bT) (λg s=> [(g,.tok 38 37 ((s.1:List aE).length*37)),(some k2,.obj 30 (aC p0))]) (λg s=>(g=none→s.1= [])) (λg s=>.c 1 (.fn (.func p1F) p1C) (.c 2 (.ptr k2 0) (.c 5 (ow g 37 (List.map aI s.1)) (.c 13 (.sl none 35 (List.map aK p0.Chunks)) (.c 14 (nZ (p0.Chunks.length:Int)) (.c 15 (nZ s.2) .nil)))))) none (λ_=>rfl) (lx (.k6 .nil)) ?_ ?_))))))
 rintro tg0 ⟨q0,q1⟩ x t0 m
 replace m:yD w p0 p1 q0 q1=some x:=m
 unfold yD at m
 refine v (v ?_)
 apply vi m <;> intro c0 m
 refine v (v (v (vx m h9 rfl rfl λx2 _ m=>va (.agg (aK x2)) pB rfl rfl (ve λu=>bG (bC gW++(SZ:List AV)) u qL rfl rfl λk128 K0=>qk K0 rfl (ve λu=>aL 0 (aK x2) u rfl rfl rfl rfl EC rfl rfl λK1=>qk K1 rfl (v (vq (by kernel_rfl) (vl 0 _ fT rfl rfl rfl (vl 2 (.agg (aC p0)) cZ rfl rfl rfl (vl 0 (.agg (bC x2.Id)) eY rfl rfl rfl (vk W22 VL m rfl rfl λ_ m=> ?_)))))))))))
 obtain⟨_,Y0,m⟩:=aD m
 refine vn (λu=>bV (p1H _ _ _ _ (aU (List.nil_sublist _) u).1 Y0) rfl p1B rfl) (oG m (σ:=(List aE)) (τ:=Option bT) (λg s=> [(some k128,.obj 44 (aK x2)),(g,.tok 38 37 ((s:List aE).length*37)),(some k2,.obj 30 (aC p0))]) (λg s=>(g=none→s= [])) (λg s=>.c 1 (.fn (.func p1F) p1C) (.c 2 (.ptr k2 0) (.c 5 (ow g 37 (List.map aI s)) (.c 13 (.sl none 35 (List.map aK p0.Chunks)) (.c 14 (nZ (p0.Chunks.length:Int)) (.c 15 (nZ q1) .nil)))))) (λx m=> ?_) ?_)
 refine v ?_
 apply vi m <;> intro c1 m
 refine v (vl 0 (.agg (bC x2.Id)) eY rfl rfl rfl (bU (eI (aI ({ Kind:=1,Id:=x2.Id,Seq:=0,Of:=0,Off:=0,Len:=0}:aE)) sL rfl) (bU (eA (List.map aI ([({ Kind:=1,Id:=x2.Id,Seq:=0,Of:=0,Off:=0,Len:=0}:aE)]:List aE)) lA rfl rfl rfl rfl) ?_)))
 obtain⟨z0,Z0,m⟩:=aD m
 exact ve λu=>fG (c:=aI) 1 Z0 lA rfl rfl rfl t0 u rfl λtg1 t1 K2=>qk K2 rfl (eH m tg1 t1 (lx (.k6 .nil)))
 exact v (eH m tg0 t0 (lx (.k6 .nil)))
 rintro tg2 j0 t2 m
 exact v (eH m tg2 t2 (mE [1,2] rfl rfl (.k6 .nil)))
 exact v (lN m tg0 t0 (lx (.k6 .nil)))
 rintro tg3 ⟨r0,r1⟩ t3 m
 refine v (vl 1 _ fI rfl rfl rfl (dH kZ rfl (nW m (σ:=(List aE)×Int) (τ:=Option bT) (λg s=> [(g,.tok 38 37 ((s.1:List aE).length*37)),(some k2,.obj 30 (aC p0))]) (λg s=>(g=none→s.1= [])) (λg s=>.c 1 (.fn (.func p1F) p1C) (.c 2 (.ptr k2 0) (.c 5 (ow g 37 (List.map aI s.1)) (.c 35 (.sl none 4 (List.map bJ p0.Snaps)) (.c 36 (nZ (p0.Snaps.length:Int)) (.c 37 (nZ s.2) .nil)))))) tg3 t3 (lx (.k6 .nil)) ?_ ?_)))
 rintro tg4 ⟨q2,q3⟩ x t4 m
 replace m:yE w p0 p1 q2 q3=some x:=m
 unfold yE at m
 refine v (v ?_)
 apply vi m <;> intro c2 m
 refine v (v (v (vx m jL rfl rfl λx3 _ m=>va (.agg (bJ x3)) sN rfl rfl (ve λu=>bG (XF) u xS rfl rfl λk234 K4=>qk K4 rfl (ve λu=>aL 0 (bJ x3) u rfl rfl rfl rfl GP rfl rfl λK5=>qk K5 rfl (v (vl 0 _ fT rfl rfl rfl ?_)))))))
 obtain⟨_,Y1,m⟩:=aD m
 refine vn (λu=>bV (p1H _ _ _ _ (aU (List.nil_sublist _) u).1 Y1) rfl p1B rfl) (oG m (σ:=(List aE)) (τ:=Option bT) (λg s=> [(some k234,.obj 60 (bJ x3)),(g,.tok 38 37 ((s:List aE).length*37)),(some k2,.obj 30 (aC p0))]) (λg s=>(g=none→s= [])) (λg s=>.c 1 (.fn (.func p1F) p1C) (.c 2 (.ptr k2 0) (.c 5 (ow g 37 (List.map aI s)) (.c 35 (.sl none 4 (List.map bJ p0.Snaps)) (.c 36 (nZ (p0.Snaps.length:Int)) (.c 37 (nZ q3) .nil)))))) (λx m=> ?_) ?_)
 refine v ?_
 apply vi m <;> intro c3 m
 refine v (vl 0 _ cB rfl rfl rfl (bU (eI (aI ({ Kind:=2,Id:=gW,Seq:=x3.Seq,Of:=0,Off:=0,Len:=0}:aE)) sL rfl) (bU (eA (List.map aI ([({ Kind:=2,Id:=gW,Seq:=x3.Seq,Of:=0,Off:=0,Len:=0}:aE)]:List aE)) lA rfl rfl rfl rfl) ?_)))
 obtain⟨z1,Z1,m⟩:=aD m
 exact ve λu=>fG (c:=aI) 1 Z1 lA rfl rfl rfl t4 u rfl λtg5 t5 K6=>qk K6 rfl (eH m tg5 t5 (lx (.k6 .nil)))
 exact v (eH m tg4 t4 (lx (.k6 .nil)))
 rintro tg6 j1 t6 m
 exact v (eH m tg6 t6 (mE [1,2] rfl rfl (.k6 .nil)))
 exact v (lN m tg4 t4 (lx (.k6 .nil)))
 rintro tg7 ⟨r2,r3⟩ t7 m
 refine v (vl 1 _ iG rfl rfl rfl (dH pN rfl (nW m (σ:=(List aE)×Int) (τ:=Option bT) (λg s=> [(g,.tok 38 37 ((s.1:List aE).length*37)),(some k2,.obj 30 (aC p0))]) (λg s=>(g=none→s.1= [])) (λg s=>.c 1 (.fn (.func p1F) p1C) (.c 5 (ow g 37 (List.map aI s.1)) (.c 53 (.sl none 3 (List.map cH p0.Exps)) (.c 54 (nZ (p0.Exps.length:Int)) (.c 55 (nZ s.2) .nil))))) tg7 t7 (lx (.k5 .nil)) ?_ ?_)))
 rintro tg8 ⟨q4,q5⟩ x t8 m
 replace m:yF w p0 p1 q4 q5=some x:=m
 unfold yF at m
 refine v (v ?_)
 apply vi m <;> intro c4 m
 refine v (v (v (vx m iR rfl rfl λx4 _ m=>va (.agg (cH x4)) zU rfl rfl (ve λu=>bG ([nZ 0,nZ 0,sZ]) u sP rfl rfl λk338 K7=>qk K7 rfl (ve λu=>aL 0 (cH x4) u rfl rfl rfl rfl JT rfl rfl λK8=>qk K8 rfl (v (vl 0 _ fT rfl rfl rfl ?_)))))))
 obtain⟨_,Y2,m⟩:=aD m
 refine vn (λu=>bV (p1H _ _ _ _ (aU (List.nil_sublist _) u).1 Y2) rfl p1B rfl) (oG m (σ:=(List aE)) (τ:=Option bT) (λg s=> [(some k338,.obj 99 (cH x4)),(g,.tok 38 37 ((s:List aE).length*37)),(some k2,.obj 30 (aC p0))]) (λg s=>(g=none→s= [])) (λg s=>.c 1 (.fn (.func p1F) p1C) (.c 5 (ow g 37 (List.map aI s)) (.c 53 (.sl none 3 (List.map cH p0.Exps)) (.c 54 (nZ (p0.Exps.length:Int)) (.c 55 (nZ q5) .nil))))) (λx m=> ?_) ?_)
 refine v ?_
 apply vi m <;> intro c5 m
 refine v (vl 0 _ cB rfl rfl rfl (vl 0 _ cB rfl rfl rfl (bU (eI (aI ({ Kind:=3,Id:=gW,Seq:=x4.Seq,Of:=x4.Of,Off:=0,Len:=0}:aE)) sL rfl) (bU (eA (List.map aI ([({ Kind:=3,Id:=gW,Seq:=x4.Seq,Of:=x4.Of,Off:=0,Len:=0}:aE)]:List aE)) lA rfl rfl rfl rfl) ?_))))
 obtain⟨z2,Z2,m⟩:=aD m
 exact ve λu=>fG (c:=aI) 1 Z2 lA rfl rfl rfl t8 u rfl λtg9 t9 K9=>qk K9 rfl (eH m tg9 t9 (lx (.k5 .nil)))
 exact v (eH m tg8 t8 (lx (.k5 .nil)))
 rintro tg10 j2 t10 m
 exact v (eH m tg10 t10 (mE [1,2] rfl rfl (.k5 .nil)))
 exact v (lN m tg8 t8 (lx (.k5 .nil)))
 rintro tg11 ⟨r4,r5⟩ t11 m
 refine v (v ?_)
 obtain rfl:=eP m
 exact vr λu=>dW.of1 (.inl rfl) (gN _ _ (ow _ _ _) rfl) (aU (List.nil_sublist _) u).1 ((dU _ 0 t11 u rfl)) ⟨rfl,rfl⟩
theorem VO:aP Tryz.prog 50=true:=by kernel_rfl
def tC (m:Nat) (p0:List aR) (p1:aR→Option Bool) (q0:Int):Option (Lp (Int) (Int)):=
 if (decide (q0 < (p0.length:Int)))=true then ((ix p0 q0).bind λx0=>(p1 x0).bind λy0=>if y0=true then (some (.ret q0)) else some (.go (IntKind.wrap .i64 (q0+1)))) else some (.brk q0)
def Q9 (m:Nat) (p0:List aR) (p1:aR→Option Bool):Option (Int):=
 after (aS (λs=>tC m p0 p1 s) m 0) λr0=>some (-1)
theorem aFO {w:Nat} {p0:List aR} {p1:aR→Option Bool} {o:Int} (h:aF) {p1F:Nat} {p1C:List AV} (p1B:aP Tryz.prog p1F=true) (p1H:∀x0 o h0,iE h h0→p1 x0=some o→aM Tryz.prog p1F ([.agg (aN x0)]++p1C) h0 (λr h'=>r= .sc (.bool o)∧h'=h0)) (m:Q9 w p0 p1=some o):
 aM Tryz.prog 108 [.sl none 4 (List.map aN p0),.fn (.func p1F) p1C] h (λr h'=>r=nZ o∧h'=h):=by
 refine fK 19 [.tmp 4] Tryz.func108 rfl rfl rfl rfl ?_
 unfold Q9 at m
 refine v (v (dH kD rfl (jP m (σ:=Int) (λs=> []) (λs=>.c 0 (.sl none 4 (List.map aN p0)) (.c 1 (.fn (.func p1F) p1C) (.c 7 (nZ (p0.length:Int)) (.c 8 (nZ s) .nil)))) (lx (.k4 .nil)) ?_ ?_)))
 rintro _ q0 x m
 replace m:tC w p0 p1 q0=some x:=m
 unfold tC at m
 refine v (v ?_)
 apply vi m <;> intro c0 m
 refine v (v (v (v (vx m i9 rfl rfl λx1 _ m=>va (.agg (aN x1)) m9 rfl rfl ?_))))
 obtain⟨_,Y0,m⟩:=aD m
 refine vn (λu=>bV (p1H _ _ _ (aU (List.nil_sublist _) u).1 Y0) rfl p1B rfl) (v ?_)
 apply vi m <;> intro c1 m
 refine v (v (fZ m λm=> ?_))
 obtain rfl:=eP m
 exact eF rfl
 exact v (v (fY m))
 exact v (wE m)
 rintro _ r0 m
 refine v (v ?_)
 cases m
 exact eF rfl
theorem TP:aP Tryz.prog 108=true:=by kernel_rfl
def XM (m:Nat) (p0:List aR) (p1:aR→Option Bool):Option (Bool):=
 (Q9 m p0 p1).bind λy3=>some (decide (0≤y3))
theorem W55 {w:Nat} {p0:List aR} {p1:aR→Option Bool} {o:Bool} (h:aF) {p1F:Nat} {p1C:List AV} (p1B:aP Tryz.prog p1F=true) (p1H:∀x0 o h0,iE h h0→p1 x0=some o→aM Tryz.prog p1F ([.agg (aN x0)]++p1C) h0 (λr h'=>r= .sc (.bool o)∧h'=h0)) (m:XM w p0 p1=some o):
 aM Tryz.prog 55 [.sl none 4 (List.map aN p0),.fn (.func p1F) p1C] h (λr h'=>r= .sc (.bool o)∧h'=h):=by
 refine fK 9 [.tmp 4] Tryz.func55 rfl rfl rfl rfl ?_
 unfold XM at m
 refine v (v ?_)
 obtain⟨_,Y4,m⟩:=aD m
 refine vn (λu=>bV (aFO _ p1B (λx0 o h0 hs ho=>p1H x0 o h0 ((aU (List.nil_sublist _) u).1.trans hs) ho) Y4) rfl TP rfl) (v ?_)
 cases m
 exact eF rfl
theorem aAP:aP Tryz.prog 55=true:=by kernel_rfl
def VP (m:Nat) (p0:aR) (c0:Int):Option (Bool):=
 some (p0.Vol==c0)
theorem aFP {w:Nat} {p0:aR} {c0:Int} {o:Bool} (h:aF) {c0K:bT} (c0H:h c0K=some (.obj 3 (fL c0))) (m:VP w p0 c0=some o):
 aM Tryz.prog 111 [.agg (aN p0),.ptr c0K 0] h (λr h'=>r= .sc (.bool o)∧h'=h):=by
 refine fK 8 [.tmp 3] Tryz.func111 rfl rfl rfl rfl ?_
 unfold VP at m
 refine v (gX rfl rfl λk2 K3=>v (vl 0 _ cB rfl rfl rfl (vn (λu=>gK (nZ c0) cB rfl (gM u c0H) rfl) (v ?_))))
 cases m
 exact eF rfl
theorem aAQ:aP Tryz.prog 111=true:=by kernel_rfl
def M64 (m:Nat) (p0:List aR) (p1:Int):Option (Bool):=
 (XM m p0 (λx0=>VP m x0 p1)).bind λy6=>some y6
theorem W64 {w:Nat} {p0:List aR} {p1:Int} {o:Bool} (h:aF) (m:M64 w p0 p1=some o):
 aM Tryz.prog 64 [.sl none 4 (List.map aN p0),nZ p1] h (λr h'=>r= .sc (.bool o)∧h'=h):=by
 refine fK 8 [.tmp 4] Tryz.func64 rfl rfl rfl rfl ?_
 unfold M64 at m
 refine v (gX rfl rfl λk2 K3=>v ?_)
 obtain⟨_,Y7,m⟩:=aD m
 refine vn (λu=>bV (W55 _ aAQ (λ_ o h0 hs ho=>aFP _ (hs _ _ (aW 0 u rfl)) ho) Y7) rfl aAP rfl) (v ?_)
 obtain rfl:=eP m
 exact eF rfl
theorem aAR:aP Tryz.prog 64=true:=by kernel_rfl
def M63 (m:Nat) (p0:List aR) (p1:Bool) (c0:Int):Option (Bool):=
 (M64 m p0 c0).bind λy3=>some y3
theorem W63 {u:Nat} {p0:List aR} {p1:Bool} {c0:Int} {o:Bool} (h:aF) {c0K:bT} (c0H:h c0K=some (.obj 3 (fL c0))) (m:M63 u p0 p1 c0=some o):
 aM Tryz.prog 63 [.sl none 4 (List.map aN p0),.sc (.bool p1),.ptr c0K 0] h (λr h'=>r= .sc (.bool o)∧h'=h):=by
 refine fK 9 [.tmp 5] Tryz.func63 rfl rfl rfl rfl ?_
 unfold M63 at m
 refine v (v (bU (gK (nZ c0) cB rfl c0H rfl) (vk W64 aAR m rfl rfl λ_ m=>v ?_)))
 obtain rfl:=eP m
 exact eF rfl
theorem aFR:aP Tryz.prog 63=true:=by kernel_rfl
def XN (m:Nat) (p0:aR) (c0:aA) (c1:Int):Option (Bool):=
 after ((zJ m p0.Vol 0 (IntKind.wrap .i64 ((c0.Vols.length:Int) - 1))).bind λy0=>if y0=true then ((ix c0.Vols p0.Vol).bind λx0=>some (.brk (x0.Pool==c1))) else some (.brk false):Option (Lp (Bool) (Bool))) λj0=>some j0
theorem W56 {w:Nat} {p0:aR} {c0:aA} {c1:Int} {o:Bool} (h:aF) {c0K:bT} (c0H:h c0K=some (.obj 30 (aC c0))) {c1K:bT} (c1H:h c1K=some (.obj 3 (fL c1))) (m:XN w p0 c0 c1=some o):
 aM Tryz.prog 56 [.agg (aN p0),.ptr c0K 0,.ptr c1K 0] h (λr h'=>r= .sc (.bool o)∧h'=h):=by
 refine fK 23 [.tmp 4] Tryz.func56 rfl rfl rfl rfl ?_
 unfold XN at m
 refine v (gX rfl rfl λk2 K3=>vs (fN m (σ:=Bool) (λs=> [(some k2,.obj 81 (aN p0))]) (λs=>.c 4 (.sc (.bool s)) .nil) (λx m=> ?_) ?_))
 refine v (vq (by kernel_rfl) (vl 0 _ cB rfl rfl rfl (vn (λu=>gK (.sl none 4 (List.map dG c0.Vols)) iH rfl (gM u c0H) rfl) (dH qK rfl (vk DI pD m rfl rfl λ_ m=> ?_)))))
 apply vi m <;> intro b0 m
 rw[b0]
 exact vn (λu=>gK (.sl none 4 (List.map dG c0.Vols)) iH rfl (gM u c0H) rfl) (vl 0 _ cB rfl rfl rfl (vx m lZ rfl rfl λ_ _ m=>vn (λu=>gK (nZ c1) cB rfl (gM u c1H) rfl) (nX m)))
 rw[b0]
 exact nX m
 rintro _ j0 m
 refine v ?_
 obtain rfl:=eP m
 exact eF rfl
theorem aFS:aP Tryz.prog 56=true:=by kernel_rfl
def TQ (m:Nat) (p0:aA) (p1:List aR) (p2:Int):Option (Bool):=
 (XM m p1 (λx0=>XN m x0 p0 p2)).bind λy9=>some y9
theorem W21 {w:Nat} {p0:aA} {p1:List aR} {p2:Int} {o:Bool} (h:aF) (m:TQ w p0 p1 p2=some o):
 aM Tryz.prog 21 [.agg (aC p0),.sl none 4 (List.map aN p1),nZ p2] h (λr h'=>r= .sc (.bool o)∧h'=h):=by
 refine fK 10 [.tmp 6] Tryz.func21 rfl rfl rfl rfl ?_
 unfold TQ at m
 refine v (gX rfl rfl λk2 K3=>gX rfl rfl λk5 K6=>v ?_)
 obtain⟨_,Y0,m⟩:=aD m
 refine vn (λu=>bV (W55 _ aFS (λ_ o h0 hs ho=>W56 _ (hs _ _ (aW 1 u rfl)) (hs _ _ (aW 0 u rfl)) ho) Y0) rfl aAP rfl) (v ?_)
 obtain rfl:=eP m
 exact eF rfl
theorem RA:aP Tryz.prog 21=true:=by kernel_rfl
def GR (m:Nat) (p0:List aB) (p1:aB→Option Bool) (q0:Int):Option (Lp (Int) (Int)):=
 if (decide (q0 < (p0.length:Int)))=true then ((ix p0 q0).bind λx0=>(p1 x0).bind λy0=>if y0=true then (some (.ret q0)) else some (.go (IntKind.wrap .i64 (q0+1)))) else some (.brk q0)
def M53 (m:Nat) (p0:List aB) (p1:aB→Option Bool):Option (Int):=
 after (aS (λs=>GR m p0 p1 s) m 0) λr0=>some (-1)
theorem W53 {w:Nat} {p0:List aB} {p1:aB→Option Bool} {o:Int} (h:aF) {p1F:Nat} {p1C:List AV} (p1B:aP Tryz.prog p1F=true) (p1H:∀x0 o h0,iE h h0→p1 x0=some o→aM Tryz.prog p1F ([.agg (aK x0)]++p1C) h0 (λr h'=>r= .sc (.bool o)∧h'=h0)) (m:M53 w p0 p1=some o):
 aM Tryz.prog 53 [.sl none 35 (List.map aK p0),.fn (.func p1F) p1C] h (λr h'=>r=nZ o∧h'=h):=by
 refine fK 19 [.tmp 4] Tryz.func53 rfl rfl rfl rfl ?_
 unfold M53 at m
 refine v (v (dH lI rfl (jP m (σ:=Int) (λs=> []) (λs=>.c 0 (.sl none 35 (List.map aK p0)) (.c 1 (.fn (.func p1F) p1C) (.c 7 (nZ (p0.length:Int)) (.c 8 (nZ s) .nil)))) (lx (.k4 .nil)) ?_ ?_)))
 rintro _ q0 x m
 replace m:GR w p0 p1 q0=some x:=m
 unfold GR at m
 refine v (v ?_)
 apply vi m <;> intro c0 m
 refine v (v (v (v (vx m h9 rfl rfl λx1 _ m=>va (.agg (aK x1)) pB rfl rfl ?_))))
 obtain⟨_,Y0,m⟩:=aD m
 refine vn (λu=>bV (p1H _ _ _ (aU (List.nil_sublist _) u).1 Y0) rfl p1B rfl) (v ?_)
 apply vi m <;> intro c1 m
 refine v (v (fZ m λm=> ?_))
 obtain rfl:=eP m
 exact eF rfl
 exact v (v (fY m))
 exact v (wE m)
 rintro _ r0 m
 refine v (v ?_)
 cases m
 exact eF rfl
theorem aFU:aP Tryz.prog 53=true:=by kernel_rfl
def M54 (m:Nat) (p0:aB) (c0:bH):Option (Bool):=
 some (decide (p0.Id=c0))
theorem W54 {w:Nat} {p0:aB} {c0:bH} {o:Bool} (h:aF) {c0K:bT} (c0H:h c0K=some (.obj 36 (bC c0))) (m:M54 w p0 c0=some o):
 aM Tryz.prog 54 [.agg (aK p0),.ptr c0K 0] h (λr h'=>r= .sc (.bool o)∧h'=h):=by
 refine fK 8 [.tmp 3] Tryz.func54 rfl rfl rfl rfl ?_
 unfold M54 at m
 refine v (gX rfl rfl λk2 K3=>v (vl 0 (.agg (bC p0.Id)) eY rfl rfl rfl (vn (λu=>gK (.agg (bC c0)) eY rfl (gM u c0H) rfl) (bU (AO EA TD u5 D7 rfl rfl) (v ?_)))))
 cases m
 exact eF rfl
theorem aFW:aP Tryz.prog 54=true:=by kernel_rfl
def M20 (m:Nat) (p0:aA) (p1:bH):Option (Int):=
 (M53 m p0.Chunks (λx0=>M54 m x0 p1)).bind λy9=>some y9
theorem W20 {w:Nat} {p0:aA} {p1:bH} {o:Int} (h:aF) (m:M20 w p0 p1=some o):
 aM Tryz.prog 20 [.agg (aC p0),.agg (bC p1)] h (λr h'=>r=nZ o∧h'=h):=by
 refine fK 9 [.tmp 4] Tryz.func20 rfl rfl rfl rfl ?_
 unfold M20 at m
 refine v (gX rfl rfl λk2 K3=>gX rfl rfl λk5 K6=>v (vl 1 _ fD rfl rfl rfl ?_))
 obtain⟨_,Y0,m⟩:=aD m
 refine vn (λu=>bV (W53 _ aFW (λ_ o h0 hs ho=>W54 _ (hs _ _ (aW 0 u rfl)) ho) Y0) rfl aFU rfl) (v ?_)
 obtain rfl:=eP m
 exact eF rfl
theorem aFY:aP Tryz.prog 20=true:=by kernel_rfl
def M51 (m:Nat) (p0:List aR) (p1:Bool) (c0:aA) (c1:Int):Option (Bool):=
 after (if p1=true then ((TQ m c0 p0 c1).bind λy0=>if (!y0)=true then (if (c1==0)=true then (some (.brk true)) else (TQ m c0 p0 0).bind λy1=>some (.brk y1)) else some (.brk false)) else some (.brk false):Option (Lp (Bool) (Bool))) λj0=>some j0
theorem W51 {u:Nat} {p0:List aR} {p1:Bool} {c0:aA} {c1:Int} {o:Bool} (h:aF) {c0K:bT} (c0H:h c0K=some (.obj 30 (aC c0))) {c1K:bT} (c1H:h c1K=some (.obj 3 (fL c1))) (m:M51 u p0 p1 c0 c1=some o):
 aM Tryz.prog 51 [.sl none 4 (List.map aN p0),.sc (.bool p1),.ptr c0K 0,.ptr c1K 0] h (λr h'=>r= .sc (.bool o)∧h'=h):=by
 refine fK 24 [.tmp 6] Tryz.func51 rfl rfl rfl rfl ?_
 unfold M51 at m
 refine v (vs (fN m (σ:=Bool) (λs=> []) (λs=>.c 6 (.sc (.bool s)) .nil) (λx m=> ?_) ?_))
 refine v ?_
 apply vi m <;> intro b0 m
 rw[b0]
 refine bU (gK (.agg (aC c0)) cZ rfl c0H rfl) (bU (gK (nZ c1) cB rfl c1H rfl) (vk W21 RA m rfl rfl λ_ m=> ?_))
 apply vi m <;> intro b1 m
 rw[b1]
 refine bU (gK (nZ c1) cB rfl c1H rfl) ?_
 apply vi m <;> intro b2 m
 rw[b2]
 exact nX m
 rw[b2]
 exact bU (gK (.agg (aC c0)) cZ rfl c0H rfl) (vk W21 RA m rfl rfl λ_ m=>nX m)
 rw[b1]
 exact nX m
 rw[b0]
 exact nX m
 rintro _ j0 m
 refine v ?_
 obtain rfl:=eP m
 exact eF rfl
theorem aFZ:aP Tryz.prog 51=true:=by kernel_rfl
def M68 (m:Nat) (p0:aR) (c0:Int):Option (Bool):=
 some (p0.Vol==c0)
theorem W68 {w:Nat} {p0:aR} {c0:Int} {o:Bool} (h:aF) {c0K:bT} (c0H:h c0K=some (.obj 3 (fL c0))) (m:M68 w p0 c0=some o):
 aM Tryz.prog 68 [.agg (aN p0),.ptr c0K 0] h (λr h'=>r= .sc (.bool o)∧h'=h):=by
 refine fK 8 [.tmp 3] Tryz.func68 rfl rfl rfl rfl ?_
 unfold M68 at m
 refine v (gX rfl rfl λk2 K3=>v (vl 0 _ cB rfl rfl rfl (vn (λu=>gK (nZ c0) cB rfl (gM u c0H) rfl) (v ?_))))
 cases m
 exact eF rfl
theorem aF1:aP Tryz.prog 68=true:=by kernel_rfl
open Go.Vm Go.ChangeShapes Go.WideShapes
section
variable {H:Type} {enc:TypeId×Value→H} {W:World}
theorem ce3:Tryz.prog.cellsOf 3=1:=by kernel_rfl
theorem rd3:Rd enc Tryz.prog W 3 fL gI:=UL u3
theorem aF2:Rd enc Tryz.prog W 22 QV (gL gI):=Rd.slice rd3 u22 ce3 (λ_=>rfl) (by decide)
theorem aAT:Tryz.prog.cellsOf 67=5:=by kernel_rfl
theorem aF3:Tryz.prog.cellsOf 64=1:=by kernel_rfl
theorem aAU:Tryz.prog.cellsOf 95=2:=by kernel_rfl
theorem ce9:Tryz.prog.cellsOf 9=1:=by kernel_rfl
theorem rd9:Rd enc Tryz.prog W 9 TC gT:=UM u9
theorem aF4:Tryz.prog.cellsOf 41=1:=by kernel_rfl
theorem ce5:Tryz.prog.cellsOf 5=1:=by kernel_rfl
theorem rd5:Rd enc Tryz.prog W 5 fX gB:=YP u5
theorem aF5:Rd enc Tryz.prog W 41 hX (gL gB):=Rd.slice rd5 u41 ce5 (λ_=>rfl) (by decide)
def GS (x:dM):Prop:=gT x.Path∧(gL gB) x.Data
theorem aF6:QO Tryz.prog 95=some 2:=by kernel_rfl
theorem aF7:Rd enc Tryz.prog W 95 eK GS:=by
 intro fuel cs x h
 obtain⟨hl,hf⟩:=Rd.flds aF6 aAU h
 obtain⟨a0,g0,v0,w0⟩:=hf 0 0 1 VB ce9 rd9
 obtain⟨a1,g1,v1,w1⟩:=hf 1 1 1 VE aF4 aF5
 obtain⟨v,w⟩:=(F5.cons v0 w0 (F5.cons v1 w1 (F5.nil hl) rfl) rfl)
 exact⟨⟨a0,a1⟩,⟨g0,g1⟩,by simpa [eK,TC,hX] using v,by simpa using w⟩
theorem aF8:Rd enc Tryz.prog W 64 D5 (gL GS):=Rd.slice aF7 u64 aAU (λx=>by simp[eK,bC]) (by decide)
theorem aF9:Tryz.prog.cellsOf 65=1:=by kernel_rfl
theorem ce4:Tryz.prog.cellsOf 4=1:=by kernel_rfl
theorem rd4:Rd enc Tryz.prog W 4 GJ gT:=QN u4
theorem aGA:Rd enc Tryz.prog W 65 D6 (gL gT):=Rd.slice rd4 u65 ce4 (λ_=>rfl) (by decide)
def H3 (x:m7):Prop:=gI x.Do∧gI x.N∧gI x.Vol∧(gL GS) x.Tree∧(gL gT) x.Pick
theorem aGB:QO Tryz.prog 67=some 5:=by kernel_rfl
theorem aGC:Rd enc Tryz.prog W 67 fM H3:=by
 intro fuel cs x h
 obtain⟨hl,hf⟩:=Rd.flds aGB aAT h
 obtain⟨a0,g0,v0,w0⟩:=hf 0 0 1 U4 ce3 rd3
 obtain⟨a1,g1,v1,w1⟩:=hf 1 1 1 U6 ce3 rd3
 obtain⟨a2,g2,v2,w2⟩:=hf 2 2 1 U7 ce3 rd3
 obtain⟨a3,g3,v3,w3⟩:=hf 3 3 1 U8 aF3 aF8
 obtain⟨a4,g4,v4,w4⟩:=hf 4 4 1 U9 aF9 aGA
 obtain⟨v,w⟩:=(F5.cons v0 w0 (F5.cons v1 w1 (F5.cons v2 w2 (F5.cons v3 w3 (F5.cons v4 w4 (F5.nil hl) rfl) rfl) rfl) rfl) rfl)
 exact⟨⟨a0,a1,a2,a3,a4⟩,⟨g0,g1,g2,g3,g4⟩,by simpa [fM,fL,fL,fL,D5,D6] using v,by simpa using w⟩
theorem aGD:Rd enc Tryz.prog W 23 QW (gL H3):=Rd.slice aGC u23 aAT (λx=>by simp[fM,bC]) (by decide)
def GT (x:cT):Prop:=gT x.Path∧gI x.Size∧(gL (λx:bH=>gL gB x.1)) x.Ids
def yG (x:bE):Prop:=gT x.Name∧(gL GT) x.Parts
def pS (x:aR):Prop:=gI x.Vol∧gI x.File∧gI x.Off∧gI x.Len
def VQ (x:aH):Prop:=gI x.Seq∧yG x.Man∧(gL pS) x.Locs
def H4 (x:aB):Prop:=(λx:bH=>gL gB x.1) x.Id∧gT x.Staged∧(gL gB) x.Data∧(gL pS) x.Locs
def aAV (x:aT):Prop:=gI x.Seq∧gI x.Of∧(gL pS) x.Locs
def TR (x:aQ):Prop:=gI x.Pool∧gI x.Epoch∧gI x.State∧gI x.Files
def A1 (x:aA):Prop:=gI x.Seq∧(gL VQ) x.Snaps∧(gL H4) x.Chunks∧(gL aAV) x.Exps∧(gL TR) x.Vols
theorem aGE:Tryz.prog.readableRec 22=true∧22 < Tryz.prog.types.size:=⟨by kernel_rfl,of_decide_eq_true (by kernel_rfl)⟩
theorem aGF:Tryz.prog.readableRec 23=true∧23 < Tryz.prog.types.size:=⟨by kernel_rfl,of_decide_eq_true (by kernel_rfl)⟩
theorem aGG:ownKnob Tryz.prog.godebug=none:=by kernel_rfl
theorem M0:laidOutB Tryz.prog=true:=by kernel_rfl
end
open Go.Vm
def fF (a b c:Int):Bool:=decide (b≤a) && decide (a≤c)
theorem TS (F:Nat) (a b c:Int):zJ F a b c=some (fF a b c):=by
 unfold zJ fF
 by_cases h:b≤a <;> simp[after,h]
theorem m59 (F:Nat) (a b c:Int):HZ F a b c=some (fF a b c):=by
 unfold HZ fF
 by_cases h:b≤a <;> simp[after,h]
def jM (a b:aR):Bool:=if a.Vol !=b.Vol then decide (b.Vol < a.Vol) else if a.File !=b.File then decide (b.File < a.File) else decide (b.Off < a.Off)
theorem aGH (F:Nat) (a b:aR):MR F a b=some (jM a b):=by
 unfold MR jM
 split
 ·rfl
 ·split <;> rfl
def EI (c:aA) (l:List aR) (i:Nat):Bool:=match l[i]? with
  | none=>true
  | some x=>fF x.Vol 0 ((c.Vols.length:Int) - 1) && (match c.Vols[x.Vol.toNat]? with | none=>false | some v=>v.State==2 && fF x.File 1 v.Files) && fF x.Off 0 16777215 && fF x.Len 13 8013 &&
      (i==0 || (match l[i - 1]? with | none=>true | some y=>jM x y))
def iA (c:aA) (l:List aR):Bool:=decide (l.length≤200) && !(List.range l.length).any λi=> !EI c l i
theorem VS {F:Nat} {c:aA} {l:List aR} (hF:1000≤F) (hv:c.Vols.length < 1000):zV F c l=some (iA c l):=by
 unfold zV iA
 by_cases hl:200 < (l.length:Int)
 ·rw[if_pos (by simpa using hl)]; simp; omega
 ·rw[if_neg (by simpa using hl)]
  rw[eV (s0:=(0:Int)) (n:=l.length) (F:=F) (λi:Nat=>(i:Int)) (λi=> !EI c l i) (λ_=>false) (by omega) rfl,iO]
  ·have:l.length≤200:=by omega
   simp only[this,decide_true,Bool.true_and]
   split <;> rename_i h <;> simp[after,h]
  ·intro i hi _
   unfold sR EI
   have hx:l[i]? =some l[i]:=List.getElem?_eq_getElem hi
   generalize l[i]=x at hx
   rw[wr (by omega) (by omega),iK (by omega)]
   simp only[aX,hx,TS,aGH,Option.bind_some,cK,aG,cE,cU,Int.ofNat_lt,hi,decide_true,if_true]
   cases h1:fF x.Vol 0 ((c.Vols.length:Int) - 1)
   ·simp[after]
   ·have h2:0≤x.Vol∧x.Vol.toNat < c.Vols.length:=by simp[fF] at h1; omega
    have h3:c.Vols[x.Vol.toNat]? =some c.Vols[x.Vol.toNat]:=List.getElem?_eq_getElem h2.2
    generalize c.Vols[x.Vol.toNat]=v at h3
    simp only[oJ _ h2.1,h3,Option.bind_some]
    by_cases h0:i=0
    ·subst h0
     simp[after]
     grind
    ·have h5:l[i - 1]? =some l[i - 1]:=List.getElem?_eq_getElem (by omega)
     generalize l[i - 1]=y at h5
     rw[yA (by omega) (by omega)]
     simp[after,aX,h5,h0,Nat.pos_of_ne_zero h0]
     grind
  ·intro _
   unfold sR
   simp
open Go.Vm Go.Lib
def key:List Int→Int
 | []=>0
 | a::u=>a*256 ^ u.length+key u
theorem GU:∀ {l:List Int},gL gB l→0≤key l∧key l < 256 ^ l.length
 | [],_=>by simp[key]
 | a::u,h=>by
  have⟨h1,h2⟩:=h a (by simp)
  have⟨h3,h4⟩:=GU (l:=u) λx hx=>h x (by simp[hx])
  have hp:(0:Int) < 256 ^ u.length:=Int.pow_pos (by decide)
  simp only[key,List.length_cons,Int.pow_succ]
  have:a*256 ^ u.length≤255*256 ^ u.length:=Int.mul_le_mul_of_nonneg_right (by omega) (by omega)
  have:0≤a*256 ^ u.length:=Int.mul_nonneg h1 (by omega)
  omega
theorem qG {a b:Int} {u v:List Int} (hl:u.length=v.length) (ha:gL gB (a::u)) (hb:gL gB (b::v)):
    (a < b→key (a::u) < key (b::v))∧(a=b→(key (a::u) < key (b::v)↔key u < key v)∧(key (a::u)=key (b::v)↔key u=key v)):=by
  have⟨h3,h4⟩:=GU (l:=u) λx hx=>ha x (by simp[hx])
  have⟨h5,h6⟩:=GU (l:=v) λx hx=>hb x (by simp[hx])
  simp only[key]
  rw[hl] at h4 ⊢
  generalize (256:Int) ^ v.length=q at h4 h6
  constructor
  · intro h
    have:(a+1)*q≤b*q:=Int.mul_le_mul_of_nonneg_right (by omega) (by omega)
    rw[Int.add_mul] at this
    omega
  · rintro rfl
    omega
theorem H5:∀ {a b:List Int},a.length=b.length→gL gB a→gL gB b→key a=key b→a=b
 | [], [],_,_,_,_=>rfl
 | x::u,y::v,hl,ha,hb,h=>by
  have hl':u.length=v.length:=by simpa using hl
  obtain⟨h1,h2⟩:=qG hl' ha hb
  obtain⟨h3, -⟩:=qG hl'.symm hb ha
  rcases Int.lt_trichotomy x y with q | q | q
  ·have:=h1 q; omega
  ·subst q
   rw[H5 hl' (λz hz=>ha z (by simp[hz])) (λz hz=>hb z (by simp[hz])) ((h2 rfl).2.1 h)]
  ·have:=h3 q; omega
theorem A2 (xs:List Int):(bA xs).data.toList=xs.map λz=>z.toNat.toUInt8:=by
 have:∀(xs:List Int) (acc:ByteArray),(xs.foldl (λacc z=>acc.push z.toNat.toUInt8) acc).data.toList=acc.data.toList++xs.map λz=>z.toNat.toUInt8:=by
  intro xs
  induction xs with
  | nil=>simp
  | cons x xs ih=>intro acc; rw[List.foldl_cons,ih]; simp[ByteArray.push]
 rw[bA,this]
 rfl
theorem TT {a b:Int} (ha:gB a) (hb:gB b):a.toNat.toUInt8 < b.toNat.toUInt8↔a < b:=by
 unfold gB at ha hb
 rw[UInt8.lt_iff_toNat_lt]
 simp only[Nat.toUInt8,UInt8.toNat_ofNat']
 omega
theorem EJ:∀ {a b:List Int},a.length=b.length→gL gB a→gL gB b→compareBytes (a.map λz=>z.toNat.toUInt8) (b.map λz=>z.toNat.toUInt8)=if key a < key b then -1 else if key b < key a then 1 else 0
 | [], [],_,_,_=>by simp[compareBytes,key]
 | x::u,y::v,hl,ha,hb=>by
  have hl':u.length=v.length:=by simpa using hl
  obtain⟨h1,h2⟩:=qG hl' ha hb
  obtain⟨h3,h4⟩:=qG hl'.symm hb ha
  have hx:=ha x (by simp)
  have hy:=hb y (by simp)
  simp only[List.map_cons,compareBytes,TT hx hy,TT hy hx]
  rcases Int.lt_trichotomy x y with q | q | q
  ·rw[if_pos q,if_pos (h1 q)]
  ·subst q
   rw[if_neg (by omega),if_neg (by omega),EJ hl' (λz hz=>ha z (by simp[hz])) (λz hz=>hb z (by simp[hz]))]
   simp only[(h2 rfl).1,(h4 rfl).1]
  ·rw[if_neg (by omega),if_pos q,if_neg (by have:=h3 q; omega),if_pos (h3 q)]
def mF (x:bH):Prop:=gL gB x.1
def ky (x:bH):Int:=key x.1
theorem M1 {a b:bH} (ha:mF a) (hb:mF b) (h:ky a=ky b):a=b:=Subtype.ext (H5 (by rw[a.2,b.2]) ha hb h)
theorem M2 (F:Nat) {a b:bH} (ha:mF a) (hb:mF b):JX F a b=some (if ky a < ky b then -1 else if ky b < ky a then 1 else 0):=by
 unfold JX F7 ky
 rw[cmp_eq,A2,A2,EJ (by rw[a.2,b.2]) ha hb]
theorem yH:∀(n:Nat) {a b:List Int},a.length=n→b.length=n→gL gB a→gL gB b→
    (match (List.range n).find? λi=>a.getD i 0 !=b.getD i 0 with | none=>false | some i=>decide (a.getD i 0 < b.getD i 0))=decide (key a < key b)
  | 0, [], [],_,_,_,_=>by simp[key]
  | n+1,x::u,y::v,h1,h2,ha,hb=>by
    have hl':u.length=v.length:=by simp at h1 h2; omega
    obtain⟨k1,k2⟩:=qG hl' ha hb
    obtain⟨k3,k4⟩:=qG hl'.symm hb ha
    have ih:=yH n (a:=u) (b:=v) (by simpa using h1) (by simpa using h2) (λz hz=>ha z (by simp[hz])) (λz hz=>hb z (by simp[hz]))
    rw[find_range_succ]
    simp only[List.getD_cons_zero,List.getD_cons_succ]
    by_cases q:x=y
    · subst q
      simp only[bne_self_eq_false,Bool.false_eq_true,if_false,(k2 rfl).1]
      rw[← ih]
      cases (List.range n).find? λi=>u.getD i 0 !=v.getD i 0 with
      | none=>rfl
      | some i=>simp only[Option.map_some,List.getD_cons_succ]
    · have hne:(x !=y)=true:=by simpa using q
      simp only[hne,if_true,List.getD_cons_zero]
      rcases Int.lt_trichotomy x y with w | w | w
      · have:=k1 w; simp[w,this]
      · exact absurd w q
      · have:=k3 w
        simp; constructor <;> intro <;> omega
theorem vW {F:Nat} {a b:bH} (body:Int→Option (Lp Int Bool)) (hF:1000≤F) (ha:mF a) (hb:mF b)
    (h:∀i:Nat,body i=if decide ((i:Int) < 32)=true then ((ix a.1 i).bind λx48=>(ix b.1 i).bind λx50=>if (x48 !=x50)=true then ((ix a.1 i).bind λx54=>(ix b.1 i).bind λx56=>some (.ret (decide (x54 < x56)))) else some (.go (IntKind.wrap .i64 (i+1)))) else some (.brk (i:Int))):
    (after (aS body F 0) λ_=>some false)=some (decide (ky a < ky b)):=by
  rw[eV (s0:=(0:Int)) (n:=32) (F:=F) (λi:Nat=>(i:Int)) (λi=>a.1.getD i 0 !=b.1.getD i 0) (λi=>decide (a.1.getD i 0 < b.1.getD i 0)) (by omega) rfl]
  · have:=yH 32 a.2 b.2 ha hb
    unfold ky
    rw[← this]
    unfold LF
    cases (List.range 32).find? λi=>a.1.getD i 0 !=b.1.getD i 0 <;> rfl
  · intro i hi _
    rw[h,iK (by omega)]
    have h1:a.1[i]? =some a.1[i]:=List.getElem?_eq_getElem (by rw[a.2]; exact hi)
    have h2:b.1[i]? =some b.1[i]:=List.getElem?_eq_getElem (by rw[b.2]; exact hi)
    have h3:(i:Int) < 32:=by omega
    simp[aX,h1,h2,h3,List.getD]
    split <;> rfl
  · intro _
    rw[h]; simp
theorem m60 {F:Nat} {a b:bH} (hF:1000≤F) (ha:mF a) (hb:mF b):MX F a b=some (decide (ky a < ky b)):=vW (wM F a b) hF ha hb λ_=>rfl
theorem aAX {F:Nat} {a b:bH} (hF:1000≤F) (ha:mF a) (hb:mF b):Q5 F a b=some (decide (ky a < ky b)):=vW (wN F a b) hF ha hb λ_=>rfl
open Go.Vm
structure Sm (c:aA):Prop where
 g:A1 c
 sn:c.Snaps.length≤12
 ch:c.Chunks.length≤400
 ex:c.Exps.length≤300
 vo:c.Vols.length≤20
 sl:∀s∈c.Snaps,s.Locs.length≤300
 cl:∀x∈c.Chunks,x.Locs.length≤300∧x.Data.length≤300
 el:∀x∈c.Exps,x.Locs.length≤300
 man:∀s∈c.Snaps,s.Man.Name.size≤100∧s.Man.Parts.length≤10∧∀p∈s.Man.Parts,p.Path.size≤100∧p.Ids.length≤40
theorem iU {α:Type} (l:List α) (q:α→Bool):((List.range l.length).any λi=>(l[i]?).any q)=l.any q:=by
 rw[Bool.eq_iff_iff]
 simp only[List.any_eq_true,List.mem_range]
 constructor
 ·rintro⟨i,hi,h⟩
  rw[List.getElem?_eq_getElem hi] at h
  exact⟨l[i],List.getElem_mem hi,by simpa using h⟩
 ·rintro⟨x,hx,h⟩
  obtain⟨i,hi,rfl⟩:=List.getElem_of_mem hx
  exact⟨i,hi,by rw[List.getElem?_eq_getElem hi]; simpa using h⟩
def l8 (v:aQ):Bool:=fF v.Pool 0 1 && fF v.Epoch 0 1048576 && ((v.State==2 && fF v.Files 1 65535) || ((v.State==1 || v.State==3) && v.Files==0))
theorem tD {α:Type} (l:List α) (q:α→Bool):(l.any λx=> !q x)= !l.all q:=by simp[List.any_eq_not_all_not]
theorem m69 {F:Nat} {l:List aQ} (hF:1000≤F) (hl:l.length≤20):ZT F l=some (l.all l8 && fF l.length 1 8):=by
 unfold ZT
 rw[eV (s0:=(0:Int)) (n:=l.length) (F:=F) (λi:Nat=>(i:Int)) (λi=>(l[i]?).any λv=> !l8 v) (λ_=>false) (by omega) rfl,iO,iU,tD]
 ·cases h:l.all l8 <;> simp[after,TS]
 ·intro i hi _
  unfold xX l8
  have hx:l[i]? =some l[i]:=List.getElem?_eq_getElem hi
  generalize l[i]=x at hx
  rw[iK (by omega)]
  simp only[aX,hx,TS,Option.bind_some,cK,aG,cE,cU,Int.ofNat_lt,hi,decide_true,if_true,Option.any_some]
  by_cases h2:x.State=2
  ·simp[h2]; grind
  ·by_cases h1:x.State=1
   ·simp[h1]; grind
   ·by_cases h3:x.State=3
    ·simp[h3]; grind
    ·simp[h1,h2,h3]
 ·intro _
  unfold xX
  simp
theorem m61 {F:Nat} {c:aA} {l:List aR} (hF:1000≤F) (hv:c.Vols.length < 1000):zZ F c l=some (iA c l):=by
 unfold zZ iA
 by_cases hl:200 < (l.length:Int)
 ·rw[if_pos (by simpa using hl)]; simp; omega
 ·rw[if_neg (by simpa using hl)]
  rw[eV (s0:=(0:Int)) (n:=l.length) (F:=F) (λi:Nat=>(i:Int)) (λi=> !EI c l i) (λ_=>false) (by omega) rfl,iO]
  ·have:l.length≤200:=by omega
   simp only[this,decide_true,Bool.true_and]
   split <;> rename_i h <;> simp[after,h]
  ·intro i hi _
   unfold sX EI
   have hx:l[i]? =some l[i]:=List.getElem?_eq_getElem hi
   generalize l[i]=x at hx
   rw[iK (by omega)]
   simp only[aX,hx,m59,Option.bind_some,cK,aG,cE,cU,Int.ofNat_lt,hi,decide_true,if_true]
   by_cases h1:x.Vol < 0
   ·simp[h1,fF]
    try omega
   ·by_cases h2:(c.Vols.length:Int)≤x.Vol
    ·simp[h1,h2,fF]; omega
    ·have h2':0≤x.Vol∧x.Vol.toNat < c.Vols.length:=by omega
     have h3:c.Vols[x.Vol.toNat]? =some c.Vols[x.Vol.toNat]:=List.getElem?_eq_getElem h2'.2
     generalize c.Vols[x.Vol.toNat]=v at h3
     have h4:fF x.Vol 0 ((c.Vols.length:Int) - 1)=true:=by simp[fF]; omega
     simp only[oJ _ h2'.1,h3,Option.bind_some,h1,h2,h4,Bool.true_and,decide_false]
     by_cases h0:i=0
     ·subst h0
      simp[after]
      grind
     ·have h5:l[i - 1]? =some l[i - 1]:=List.getElem?_eq_getElem (by omega)
      generalize l[i - 1]=y at h5
      rw[yA (by omega) (by omega)]
      simp[after,aX,h5,h0,Nat.pos_of_ne_zero h0,jM]
      grind
  ·intro _
   unfold sX
   simp
def H6 (c:aA) (i:Nat):Bool:=match c.Chunks[i]? with
 | none=>true
 | some x=>(i==0 || (match c.Chunks[i - 1]? with | none=>true | some y=>decide (ky y.Id < ky x.Id))) && iA c x.Locs && (if x.Staged then fF x.Data.length 1 64 else (!decide (0 < x.Data.length) && !(x.Locs.length==0)))
theorem gch {c:aA} (h:Sm c) {i:Nat} {x:aB} (hx:c.Chunks[i]? =some x):mF x.Id:=by
 have:=h.g.2.2.1 x (List.mem_of_getElem? hx)
 exact this.1
theorem M5 {F:Nat} {c:aA} (hF:1000≤F) (h:Sm c) {i:Nat} (hi:i < c.Chunks.length):u0 F c i=some (if !H6 c i then .ret false else .go ((i+1:Nat):Int)):=by
 have hc:=h.ch
 have hv:=h.vo
 unfold u0 H6
 have hx:c.Chunks[i]? =some c.Chunks[i]:=List.getElem?_eq_getElem hi
 generalize c.Chunks[i]=x at hx
 have gx:=gch h hx
 rw[iK (by omega)]
 simp only[aX,hx,TS,VS hF (show c.Vols.length < 1000 by omega),Option.bind_some,cK,aG,cE,cU,Int.ofNat_lt,hi,decide_true,if_true]
 generalize x.Locs.length=nl
 generalize x.Data.length=nd
 by_cases h0:i=0
 ·subst h0
  cases hs:x.Staged <;> simp[cK,aG,cE,cU] <;> grind
 ·have h5:c.Chunks[i - 1]? =some c.Chunks[i - 1]:=List.getElem?_eq_getElem (by omega)
  generalize c.Chunks[i - 1]=y at h5
  have gy:=gch h h5
  rw[yA (by omega) (by omega)]
  by_cases hk:ky y.Id < ky x.Id
  ·have e:¬(0≤if ky y.Id < ky x.Id then (-1:Int) else if ky x.Id < ky y.Id then 1 else 0):=by rw[if_pos hk]; omega
   cases hs:x.Staged <;> simp[cK,aG,cE,cU,aX,h5,h0,Nat.pos_of_ne_zero h0,M2 F gy gx,e,hk] <;> grind
  ·have e:(0≤if ky y.Id < ky x.Id then (-1:Int) else if ky x.Id < ky y.Id then 1 else 0):=by rw[if_neg hk]; split <;> omega
   simp[cK,aG,cE,cU,aX,h5,h0,Nat.pos_of_ne_zero h0,M2 F gy gx,e,hk]
   try (intro hh; exfalso; split at hh <;> omega)
def vG (c:aA):Bool:= !(List.range c.Chunks.length).any λi=> !H6 c i
theorem m70 {F:Nat} {c:aA} (hF:1000≤F) (h:Sm c):M79 F c=some (vG c && decide (c.Chunks.length≤200)):=by
 have hc:=h.ch
 unfold M79 vG
 rw[eV (s0:=(0:Int)) (n:=c.Chunks.length) (F:=F) (λi:Nat=>(i:Int)) (λi=> !H6 c i) (λ_=>false) (by omega) rfl,iO]
 ·cases (List.range c.Chunks.length).any λi=> !H6 c i <;> simp[after]; omega
 ·exact λi hi _=>M5 hF h hi
 ·intro _; unfold u0; simp
theorem VT {F:Nat} {c:aA} (hF:1000≤F) (h:Sm c) {i:Nat} (hi:i < c.Chunks.length):rH F c i=some (if !H6 c i then .ret false else .go ((i+1:Nat):Int)):=by
 have hc:=h.ch
 have hv:=h.vo
 unfold rH H6
 have hx:c.Chunks[i]? =some c.Chunks[i]:=List.getElem?_eq_getElem hi
 generalize c.Chunks[i]=x at hx
 have gx:=gch h hx
 rw[iK (by omega)]
 simp only[aX,hx,m59,m61 hF (show c.Vols.length < 1000 by omega),Option.bind_some,cK,aG,cE,cU,Int.ofNat_lt,hi,decide_true,if_true]
 generalize x.Locs.length=nl
 generalize x.Data.length=nd
 by_cases h0:i=0
 ·subst h0
  cases hs:x.Staged <;> simp[cK,aG,cE,cU] <;> grind
 ·have h5:c.Chunks[i - 1]? =some c.Chunks[i - 1]:=List.getElem?_eq_getElem (by omega)
  generalize c.Chunks[i - 1]=y at h5
  have gy:=gch h h5
  rw[yA (by omega) (by omega)]
  by_cases hk:ky y.Id < ky x.Id
  ·cases hs:x.Staged <;> simp[cK,aG,cE,cU,aX,h5,h0,Nat.pos_of_ne_zero h0,m60 hF gy gx,hk] <;> grind
  ·simp[cK,aG,cE,cU,aX,h5,h0,Nat.pos_of_ne_zero h0,m60 hF gy gx,hk]
theorem VU {F:Nat} {c:aA} (hF:1000≤F) (h:Sm c) {i:Nat} (hi:i < c.Vols.length):rG F c i=some (if (c.Vols[i]?).any λv=> !l8 v then .ret false else .go ((i+1:Nat):Int)):=by
 have hv:=h.vo
 unfold rG l8
 have hx:c.Vols[i]? =some c.Vols[i]:=List.getElem?_eq_getElem hi
 generalize c.Vols[i]=x at hx
 rw[iK (by omega)]
 simp only[aX,hx,m59,Option.bind_some,cK,aG,cE,cU,Int.ofNat_lt,hi,decide_true,if_true,Option.any_some]
 by_cases h2:x.State=2
 ·simp[h2]; grind
 ·by_cases h1:x.State=1
  ·simp[h1]; grind
  ·by_cases h3:x.State=3
   ·simp[h3]; grind
   ·simp[h1,h2,h3]
open Go.Vm
theorem EK {s:ByteArray} {i:Nat} (h:i < s.size):∃z:Int,QI s (i:Int)=some z:=by
 unfold QI
 rw[if_pos (Int.natCast_nonneg i),Int.toNat_natCast]
 have:s[i]? =some s[i]:=getElem?_pos s i h
 rw[this]
 exact⟨_,rfl⟩
def VV (s:ByteArray) (i:Nat):Bool:=(QI s (i:Int)).any λz=>decide (z < 33) || decide (126 < z)
def qQ (s:ByteArray):Bool:=fF s.size 1 20 && !(List.range s.size).any (VV s)
theorem aAY {F:Nat} {s:ByteArray} (hF:1000≤F):JV F s=some (qQ s):=by
 unfold JV qQ fF
 by_cases h1:(s.size:Int) < 1
 ·have h2:¬(1:Int)≤s.size:=by omega
  simp[after,h1,h2]
 ·by_cases h2:20 < (s.size:Int)
  ·have h3:¬(s.size:Int)≤20:=by omega
   simp[after,h1,h2,h3]
  ·rw[eV (s0:=(0:Int)) (n:=s.size) (F:=F) (λi:Nat=>(i:Int)) (VV s) (λ_=>false) (by omega) rfl,iO]
   ·have h3:(s.size:Int)≤20:=by omega
    have h4:(1:Int)≤s.size:=by omega
    simp only[h1,h2,h3,h4]
    cases h:(List.range s.size).any (VV s) <;> simp[after]
   ·intro i hi _
    unfold sS VV
    obtain⟨z,hz⟩:=EK hi
    rw[iK (by omega)]
    simp only[hz,Option.bind_some,cK,aG,cE,cU,Int.ofNat_lt,hi,decide_true,if_true,Option.any_some]
    grind
   ·intro _
    unfold sS
    simp
theorem M6 {F:Nat} {s:ByteArray} (hF:1000≤F) (hs:s.size≤100):CE F s=some (qQ s):=by
 unfold CE qQ fF
 rw[eV (s0:=(0:Int)) (n:=s.size) (F:=F) (λi:Nat=>(i:Int)) (VV s) (λ_=>false) (by omega) rfl,iO]
 ·cases h:(List.range s.size).any (VV s)
  ·simp only[cK,aG,cE]
   by_cases h1:(1:Int)≤s.size <;> simp[aG,h1]
  ·simp[after]
 ·intro i hi _
  unfold sY VV
  obtain⟨z,hz⟩:=EK hi
  rw[iK (by omega)]
  simp only[hz,Option.bind_some,cK,aG,cE,cU,Int.ofNat_lt,hi,decide_true,if_true,Option.any_some]
  grind
 ·intro _
  unfold sY
  simp
def M7 (x y:cT):Bool:=Op.bytesLess x.Path.toList y.Path.toList || x.Path.toList==y.Path.toList
def EL (x:cT):Bool:=qQ x.Path && decide (0≤x.Size) && decide (x.Size≤200) && decide (x.Ids.length≤25) && ((x.Ids.length==0)==(x.Size==0))
def VW (m:bE) (i:Nat):Bool:=match m.Parts[i]? with
 | none=>true
 | some x=>EL x && (i==0 || (match m.Parts[i - 1]? with | none=>true | some y=> !M7 x y))
def vH (m:bE):Bool:=qQ m.Name && decide (m.Parts.length≤6) && !(List.range m.Parts.length).any λi=> !VW m i
theorem LP (n:Nat):((n:Int)==0)=(n==0):=by
 rw[Bool.eq_iff_iff]; simp
theorem aGK {F:Nat} {x:cT} (hF:1000≤F):MS F x=some (EL x):=by
 unfold MS EL
 simp only[aAY hF,Option.bind_some,cK,aG,LP]
 generalize qQ x.Path=a
 generalize x.Ids.length=n
 by_cases h1:(n:Int)≤25
 ·have h2:n≤25:=by omega
  simp only[h1,h2]
  grind
 ·have h2:¬n≤25:=by omega
  simp only[h1,h2]
  grind
theorem m73 {F:Nat} {m:bE} (hF:1000≤F):JW F m=some (if vH m then 0 else 1):=by
 unfold JW vH
 simp only[aAY hF,Option.bind_some,cK,aG,cU]
 cases hn:qQ m.Name
 ·simp
 ·by_cases hl:6 < (m.Parts.length:Int)
  ·have:¬m.Parts.length≤6:=by omega
   simp[hl,this]
  ·have h6:m.Parts.length≤6:=by omega
   rw[eV (s0:=(0:Int)) (n:=m.Parts.length) (F:=F) (λi:Nat=>(i:Int)) (λi=> !VW m i) (λ_=>1) (by omega) rfl,iO]
   ·simp only[hl,h6]
    cases (List.range m.Parts.length).any λi=> !VW m i <;> simp[after]
   ·intro i hi _
    unfold sU VW
    have hx:m.Parts[i]? =some m.Parts[i]:=List.getElem?_eq_getElem hi
    generalize m.Parts[i]=x at hx
    rw[iK (by omega)]
    simp only[aX,hx,aGK hF,Option.bind_some,cK,aG,cE,cU,Int.ofNat_lt,hi,decide_true,if_true]
    by_cases h0:i=0
    ·subst h0
     simp
     split <;> rfl
    ·have h5:m.Parts[i - 1]? =some m.Parts[i - 1]:=List.getElem?_eq_getElem (by omega)
     generalize m.Parts[i - 1]=y at h5
     rw[yA (by omega) (by omega)]
     simp only[aX,h5,Option.bind_some,aG]
     rw[show (Op.bytesLess x.Path.toList y.Path.toList || x.Path.toList==y.Path.toList)=M7 x y from rfl]
     have h7:(0:Int) < i:=by omega
     simp only[h7,decide_true,if_true,h0]
     cases EL x <;> cases M7 x y <;> simp[h0]
   ·intro _; unfold sU; simp
theorem m62 {F:Nat} {m:bE} (hF:1000≤F) (hm:m.Name.size≤100) (hp:∀p∈m.Parts,p.Path.size≤100):XL F m=some (vH m):=by
 unfold XL vH
 simp only[M6 hF hm,Option.bind_some,cK,aG,cU]
 cases hn:qQ m.Name
 ·simp
 ·by_cases hl:6 < (m.Parts.length:Int)
  ·have:¬m.Parts.length≤6:=by omega
   simp[hl,this]
  ·have h6:m.Parts.length≤6:=by omega
   rw[eV (s0:=(0:Int)) (n:=m.Parts.length) (F:=F) (λi:Nat=>(i:Int)) (λi=> !VW m i) (λ_=>false) (by omega) rfl,iO]
   ·simp only[hl,h6]
    cases (List.range m.Parts.length).any λi=> !VW m i <;> simp[after]
   ·intro i hi _
    unfold yB VW EL
    have hx:m.Parts[i]? =some m.Parts[i]:=List.getElem?_eq_getElem hi
    have hpx:=hp _ (List.mem_of_getElem? hx)
    generalize m.Parts[i]=x at hx hpx
    rw[iK (by omega)]
    simp only[aX,hx,M6 hF hpx,Option.bind_some,cK,aG,cE,cU,Int.ofNat_lt,hi,decide_true,if_true,LP]
    generalize qQ x.Path=a
    generalize x.Ids.length=n
    have hn:(25 < (n:Int))=(25 < n):=by simp; omega
    simp only[hn]
    by_cases h0:i=0
    ·subst h0
     simp
     grind
    ·have h5:m.Parts[i - 1]? =some m.Parts[i - 1]:=List.getElem?_eq_getElem (by omega)
     generalize m.Parts[i - 1]=y at h5
     rw[yA (by omega) (by omega)]
     simp only[aX,h5,Option.bind_some,aG]
     rw[show (Op.bytesLess x.Path.toList y.Path.toList || x.Path.toList==y.Path.toList)=M7 x y from rfl]
     have h7:(0:Int) < i:=by omega
     have h8:(i==0)=false:=by simpa using h0
     simp only[h7,decide_true,if_true,h8,Bool.false_or]
     generalize M7 x y=o
     generalize ((n==0):Bool)=e0
     generalize (x.Size==0:Bool)=e1
     have e2:decide (x.Size < 0)= !decide (0≤x.Size):=by rw[← decide_not]; congr 1; simp
     have e3:decide (200 < x.Size)= !decide (x.Size≤200):=by rw[← decide_not]; congr 1; simp
     have e4:decide (25 < n)= !decide (n≤25):=by rw[← decide_not]; congr 1; simp
     rw[e2,e3,e4]
     generalize decide (0≤x.Size)=f2
     generalize decide (x.Size≤200)=f3
     generalize decide (n≤25)=f4
     cases a <;> cases o <;> cases f2 <;> cases f3 <;> cases f4 <;> cases e0 <;> cases e1 <;> rfl
   ·intro _; unfold yB; simp
open Go.Vm
theorem pT {α:Type} {l:List α} (q:α→Bool) {F:Nat} {body:Int→Option (Lp Int Int)} (hF:l.length < F)
    (hb:∀i:Nat,i < l.length→body (i:Int)=some (if (l[i]?).any q then .ret (i:Int) else .go ((i+1:Nat):Int))) (he:body (l.length:Int)=some (.brk (l.length:Int))):
    (after (aS body F 0) λ_=>some (-1)).bind (λy=>some (decide (0≤y)))=some (l.any q):=by
  rw[eV (s0:=(0:Int)) (n:=l.length) (F:=F) (λi:Nat=>(i:Int)) (λi=>(l[i]?).any q) (λi=>(i:Int)) hF rfl (λi hi _=>hb i hi) (λ_=>he),← iU]
  unfold LF
  cases h:(List.range l.length).find? λi=>(l[i]?).any q with
  | none=>
    have:(List.range l.length).any (λi=>(l[i]?).any q)=false:=by
      rw[List.any_eq_false]
      exact λx hx=>by simpa using List.find?_eq_none.1 h x hx
    simp[after,this]
  | some i=>
    have:(List.range l.length).any (λi=>(l[i]?).any q)=true:=List.any_eq_true.2 ⟨i,List.mem_of_find?_eq_some h,List.find?_some (p:=λi=>(l[i]?).any q) h⟩
    simp[after,this]
theorem m89 {F:Nat} {l:List aH} {f:aH→Option Bool} (q:aH→Bool) (hF:l.length < F) (hl:l.length < 1000) (hf:∀x∈l,f x=some (q x)):VG F l f=some (l.any q):=by
 unfold VG Q2
 refine pT q hF (λi hi=> ?_) (by unfold sW; simp)
 unfold sW
 have hx:l[i]? =some l[i]:=List.getElem?_eq_getElem hi
 rw[iK (by omega)]
 simp only[aX,hx,hf _ (List.getElem_mem hi),Option.bind_some,Int.ofNat_lt,hi,decide_true,if_true,Option.any_some]
 split <;> rfl
theorem m91 {F:Nat} {l:List cT} {f:cT→Option Bool} (q:cT→Bool) (hF:l.length < F) (hl:l.length < 1000) (hf:∀x∈l,f x=some (q x)):M60 F l f=some (l.any q):=by
 unfold M60 Q7
 refine pT q hF (λi hi=> ?_) (by unfold tA; simp)
 unfold tA
 have hx:l[i]? =some l[i]:=List.getElem?_eq_getElem hi
 rw[iK (by omega)]
 simp only[aX,hx,hf _ (List.getElem_mem hi),Option.bind_some,Int.ofNat_lt,hi,decide_true,if_true,Option.any_some]
 split <;> rfl
theorem m94 {F:Nat} {l:List aR} {f:aR→Option Bool} (q:aR→Bool) (hF:l.length < F) (hl:l.length < 1000) (hf:∀x∈l,f x=some (q x)):XM F l f=some (l.any q):=by
 unfold XM Q9
 refine pT q hF (λi hi=> ?_) (by unfold tC; simp)
 unfold tC
 have hx:l[i]? =some l[i]:=List.getElem?_eq_getElem hi
 rw[iK (by omega)]
 simp only[aX,hx,hf _ (List.getElem_mem hi),Option.bind_some,Int.ofNat_lt,hi,decide_true,if_true,Option.any_some]
 split <;> rfl
theorem m93 {F:Nat} {l:List bH} {d:bH} (hF:l.length < F) (hl:l.length < 1000):M62 F l d=some (l.any λx=>decide (d=x)):=by
 unfold M62 Q8
 refine pT (λx=>decide (d=x)) hF (λi hi=> ?_) (by unfold tB; simp)
 unfold tB
 have hx:l[i]? =some l[i]:=List.getElem?_eq_getElem hi
 rw[iK (by omega)]
 simp only[aX,hx,Option.bind_some,Int.ofNat_lt,hi,decide_true,if_true,Option.any_some]
 split <;> rfl
def jH (c:aA) (d:bH):Bool:=c.Snaps.any λs=>s.Man.Parts.any λp=>p.Ids.any λx=>decide (d=x)
theorem m44 {F:Nat} {c:aA} {d:bH} (hF:1000≤F) (h:Sm c):VK F c d=some (jH c d):=by
 have hs:=h.sn
 unfold VK jH
 rw[m89 (λs=>s.Man.Parts.any λp=>p.Ids.any λx=>decide (d=x)) (by omega) (by omega)]
 ·rfl
 ·intro s hs'
  obtain⟨h1,h2,h3⟩:=h.man s hs'
  unfold M59
  rw[m91 (λp=>p.Ids.any λx=>decide (d=x)) (by omega) (by omega)]
  ·rfl
  ·intro p hp
   unfold M61
   rw[m93 (by have:=(h3 p hp).2; omega) (by have:=(h3 p hp).2; omega)]
   rfl
def zG (c:aA) (i:Nat):Bool:=match c.Exps[i]? with
 | none=>true
 | some x=>fF x.Seq 0 (c.Seq - 1) && (i==0 || (match c.Exps[i - 1]? with | none=>true | some y=>decide (y.Seq < x.Seq))) && fF x.Of 0 (x.Seq - 1) && !(x.Locs.length==0) && iA c x.Locs
def JZ (c:aA) (i:Nat):Bool:=match c.Exps[i]? with
 | none=>true
 | some x=> !c.Snaps.any λs=>s.Seq==x.Of
theorem gex {c:aA} (h:Sm c) {i:Nat} {x:aT} (hx:c.Exps[i]? =some x):gI x.Seq∧gI x.Of:=by
 have:=h.g.2.2.2.1 x (List.mem_of_getElem? hx)
 exact⟨this.1,this.2.1⟩
theorem VX {F:Nat} {c:aA} (hF:1000≤F) (h:Sm c) (hq:fF c.Seq 0 1073741824=true) {i:Nat} (hi:i < c.Exps.length):
    uZ F c i=some (if !(zG c i && JZ c i) then .ret false else .go ((i+1:Nat):Int)):=by
  have hc:=h.ex
  have hv:=h.vo
  have hsn:=h.sn
  unfold uZ zG JZ
  have hx:c.Exps[i]? =some c.Exps[i]:=List.getElem?_eq_getElem hi
  generalize c.Exps[i]=x at hx
  have gx:=gex h hx
  have hq':0≤c.Seq∧c.Seq≤1073741824:=by simpa [fF] using hq
  rw[iK (by omega),wr (n:=c.Seq - 1) (by omega) (by omega)]
  have hm:VG F c.Snaps (λx0=>Q3 F x0 x)=some (c.Snaps.any λs=>s.Seq==x.Of):=m89 (λs=>s.Seq==x.Of) (by omega) (by omega) (λs _=>rfl)
  simp only[aX,hx,hm,TS,VS hF (show c.Vols.length < 1000 by omega),Option.bind_some,cK,aG,cE,cU,Int.ofNat_lt,hi,decide_true,if_true,LP]
  generalize (x.Locs.length==0)=nl
  generalize iA c x.Locs=lb
  generalize (c.Snaps.any λs=>s.Seq==x.Of)=an
  cases h1:fF x.Seq 0 (c.Seq - 1)
  · simp
  · have h1':0≤x.Seq∧x.Seq≤c.Seq - 1:=by simpa [fF] using h1
    rw[wr (n:=x.Seq - 1) (by omega) (by omega)]
    generalize fF x.Of 0 (x.Seq - 1)=ob
    by_cases h0:i=0
    · subst h0
      cases nl <;> cases lb <;> cases an <;> cases ob <;> simp
    · have h5:c.Exps[i - 1]? =some c.Exps[i - 1]:=List.getElem?_eq_getElem (by omega)
      generalize c.Exps[i - 1]=y at h5
      rw[yA (by omega) (by omega)]
      have h7:(0:Int) < i:=by omega
      have h8:(i==0)=false:=by simpa using h0
      have e4:decide (x.Seq≤y.Seq)= !decide (y.Seq < x.Seq):=by rw[← decide_not]; congr 1; simp
      simp only[aX,h5,h7,h8,e4,Option.bind_some,decide_true,if_true,Bool.false_or]
      generalize decide (y.Seq < x.Seq)=od
      cases nl <;> cases lb <;> cases an <;> cases ob <;> cases od <;> simp[cK,aG]
def z5 (c:aA):Bool:= !(List.range c.Exps.length).any λi=> !(zG c i && JZ c i)
theorem m72 {F:Nat} {c:aA} (hF:1000≤F) (h:Sm c) (hq:fF c.Seq 0 1073741824=true):Z7 F c=some (z5 c && decide (c.Exps.length≤200)):=by
 have hc:=h.ex
 unfold Z7 z5
 rw[eV (s0:=(0:Int)) (n:=c.Exps.length) (F:=F) (λi:Nat=>(i:Int)) (λi=> !(zG c i && JZ c i)) (λ_=>false) (by omega) rfl,iO]
 ·cases (List.range c.Exps.length).any λi=> !(zG c i && JZ c i) <;> simp[after]; omega
 ·exact λi hi _=>VX hF h hq hi
 ·intro _; unfold uZ; simp
theorem RB {F:Nat} {c:aA} (hF:1000≤F) (h:Sm c) {i:Nat} (hi:i < c.Exps.length):
    oM F c i=some (if !zG c i then .ret false else .go ((i+1:Nat):Int)):=by
  have hc:=h.ex
  have hv:=h.vo
  unfold oM zG fF
  have hx:c.Exps[i]? =some c.Exps[i]:=List.getElem?_eq_getElem hi
  generalize c.Exps[i]=x at hx
  rw[iK (by omega)]
  simp only[aX,hx,m59,m61 hF (show c.Vols.length < 1000 by omega),Option.bind_some,cK,aG,cE,cU,Int.ofNat_lt,hi,decide_true,if_true,LP]
  generalize (x.Locs.length==0)=nl
  generalize iA c x.Locs=lb
  have e1:decide (x.Seq < 0)= !decide (0≤x.Seq):=by rw[← decide_not]; congr 1; simp
  have e2:decide (c.Seq≤x.Seq)= !decide (x.Seq≤c.Seq - 1):=by rw[← decide_not]; congr 1; simp; omega
  have e3:decide (x.Of < 0)= !decide (0≤x.Of):=by rw[← decide_not]; congr 1; simp
  have e5:decide (x.Seq≤x.Of)= !decide (x.Of≤x.Seq - 1):=by rw[← decide_not]; congr 1; simp; omega
  rw[e1,e2,e3,e5]
  generalize decide (0≤x.Seq)=d1
  generalize decide (x.Seq≤c.Seq - 1)=d2
  generalize decide (0≤x.Of)=d3
  generalize decide (x.Of≤x.Seq - 1)=d5
  by_cases h0:i=0
  · subst h0
    cases nl <;> cases lb <;> cases d1 <;> cases d2 <;> cases d3 <;> cases d5 <;> simp
  · have h5:c.Exps[i - 1]? =some c.Exps[i - 1]:=List.getElem?_eq_getElem (by omega)
    generalize c.Exps[i - 1]=y at h5
    rw[yA (by omega) (by omega)]
    have h7:(0:Int) < i:=by omega
    have h8:(i==0)=false:=by simpa using h0
    have e4:decide (x.Seq≤y.Seq)= !decide (y.Seq < x.Seq):=by rw[← decide_not]; congr 1; simp
    simp only[aX,h5,h7,h8,e4,Option.bind_some,decide_true,if_true,Bool.false_or]
    generalize decide (y.Seq < x.Seq)=od
    cases nl <;> cases lb <;> cases d1 <;> cases d2 <;> cases d3 <;> cases d5 <;> cases od <;> simp[cK,aG]
open Go.Vm
theorem aAZ {a b:Nat} (h:a+b < 1000000000):IntKind.wrap .i64 ((IntKind.wrap .u64 (IntKind.wrap .i64 ((a:Int)+b))).fdiv (2 ^ (min (1:Int).toNat (IntKind.bits .u64))))=(((a+b) / 2:Nat):Int):=by
 have e1:IntKind.wrap .i64 ((a:Int)+b)=((a+b:Nat):Int):=by rw[wr (by omega) (by omega)]; omega
 have e2:∀n:Nat,n < 1000000000→IntKind.wrap .u64 (n:Int)=n:=by
  intro n hn
  have e:IntKind.wrap .u64 (n:Int)=(n:Int) % 18446744073709551616:=rfl
  rw[e]; omega
 rw[e1,e2 _ h]
 have e3:(2:Int) ^ (min (1:Int).toNat (IntKind.bits .u64))=2:=by decide
 rw[e3,Int.fdiv_eq_ediv_of_nonneg _ (by omega),wr (by omega) (by omega)]
 omega
def uL (l:List aB):Prop:=(∀x∈l,mF x.Id)∧∀(i j:Nat) (x y:aB),l[i]? =some x→l[j]? =some y→i < j→ky x.Id < ky y.Id
theorem VY {c:aA} (h:Sm c) (hc:vG c=true):uL c.Chunks:=by
 refine⟨λx hx=>(h.g.2.2.1 x hx).1, ?_⟩
 have hs:∀i x y,c.Chunks[i]? =some x→c.Chunks[i+1]? =some y→ky x.Id < ky y.Id:=by
  intro i x y hx hy
  have hi:i+1 < c.Chunks.length:=(List.getElem?_eq_some_iff.1 hy).1
  unfold vG at hc
  simp only[Bool.not_eq_true',List.any_eq_false,List.mem_range] at hc
  have:=hc (i+1) hi
  unfold H6 at this
  rw[hy,show i+1 - 1=i from rfl,hx] at this
  simp at this
  exact this.1
 intro i j x y hx hy hij
 obtain⟨k,rfl⟩:∃k,j=i+1+k:=⟨j - i - 1,by omega⟩
 clear hij
 induction k generalizing y with
 | zero=>exact hs i x y hx hy
 | succ k ih=>
  have hk:i+1+k < c.Chunks.length:=by have:=(List.getElem?_eq_some_iff.1 hy).1; omega
  exact Int.lt_trans (ih _ (List.getElem?_eq_getElem hk)) (hs (i+1+k) _ _ (List.getElem?_eq_getElem hk) hy)
theorem bis {F:Nat} {l:List aB} {d:bH} (hr:uL l) (hd:mF d) (hl:l.length < 1000):∀(G lo hi:Nat),lo≤hi→hi≤l.length→hi - lo < G→
    (∀j x,l[j]? =some x→j < lo→ky x.Id < ky d)→(∀j x,l[j]? =some x→hi≤j→ky d≤ky x.Id)→
    ∃p:Nat,p≤l.length∧aS (λs=>sV F l d (λx0 x1=>zW F x0 x1) s.1 s.2) G ((lo:Int),(hi:Int))=some (.brk ((p:Int),(p:Int)))∧
      (∀j x,l[j]? =some x→j < p→ky x.Id < ky d)∧(∀j x,l[j]? =some x→p≤j→ky d≤ky x.Id)
  | 0,_,_,_,_,h,_,_=>by omega
  | G+1,lo,hi,h1,h2,h3,h4,h5=>by
    unfold aS sV
    by_cases hlt:lo < hi
    · have hm:(lo+hi) / 2 < l.length:=by omega
      have hx:l[(lo+hi) / 2]? =some l[(lo+hi) / 2]:=List.getElem?_eq_getElem hm
      generalize l[(lo+hi) / 2]=x at hx
      have gx:=hr.1 x (List.mem_of_getElem? hx)
      have e:zW F x d=some (if ky x.Id < ky d then -1 else if ky d < ky x.Id then 1 else 0):=by unfold zW; rw[M2 F gx hd]; rfl
      simp only[Int.ofNat_lt,hlt,decide_true,if_true,aAZ (show lo+hi < 1000000000 by omega),aX,hx,Option.bind_some,e]
      by_cases hk:ky x.Id < ky d
      · simp only[hk,if_true,show decide ((-1:Int) < 0)=true from rfl,aG]
        rw[iK (by omega)]
        exact bis hr hd hl G ((lo+hi) / 2+1) hi (by omega) h2 (by omega) (λj y hy hj=>by
          rcases Nat.lt_or_ge j ((lo+hi) / 2) with q | q
          · exact Int.lt_trans (hr.2 _ _ _ _ hy hx q) hk
          · obtain rfl:j=(lo+hi) / 2:=by omega
            rw[hx] at hy; cases hy; exact hk) h5
      · have e2:decide ((if ky x.Id < ky d then (-1:Int) else if ky d < ky x.Id then 1 else 0) < 0)=false:=by rw[if_neg hk]; split <;> rfl
        simp only[e2,Bool.false_eq_true,if_false,aG]
        exact bis hr hd hl G lo ((lo+hi) / 2) (by omega) (by omega) (by omega) h4 (λj y hy hj=>by
          rcases Nat.lt_or_ge ((lo+hi) / 2) j with q | q
          · have:=hr.2 _ _ _ _ hx hy q; omega
          · obtain rfl:j=(lo+hi) / 2:=by omega
            rw[hx] at hy; cases hy; omega)
    · obtain rfl:lo=hi:=by omega
      refine⟨lo,h2, ?_,h4,h5⟩
      simp
def kF (l:List aB) (d:bH):Bool:=l.any λx=>decide (x.Id=d)
theorem aA0 {F:Nat} {l:List aB} {d:bH} (hF:1000≤F) (hr:uL l) (hd:mF d) (hl:l.length < 1000):∃p:Int,xY F l d=some (p,kF l d):=by
 unfold xY MT
 obtain⟨p,hp,e,h1,h2⟩:=bis (F:=F) hr hd hl F 0 l.length (by omega) (Nat.le_refl _) (by omega) (λj x _ hj=>by omega) (λj x hx hj=>by have:=(List.getElem?_eq_some_iff.1 hx).1; omega)
 rw[show ((0:Int),(l.length:Int))=(((0:Nat):Int),(l.length:Int)) from rfl,e]
 simp only[aG]
 refine⟨p, ?_⟩
 by_cases hlt:p < l.length
 ·have hx:l[p]? =some l[p]:=List.getElem?_eq_getElem hlt
  have hmem:=List.getElem_mem hlt
  generalize l[p]=x at hx hmem
  have gx:=hr.1 x hmem
  have e:zW F x d=some (if ky x.Id < ky d then -1 else if ky d < ky x.Id then 1 else 0):=by unfold zW; rw[M2 F gx hd]; rfl
  simp only[Int.ofNat_lt,hlt,decide_true,if_true,aX,hx,Option.bind_some,e,aG]
  have hge:=h2 p x hx (Nat.le_refl _)
  have:kF l d=((if ky x.Id < ky d then (-1:Int) else if ky d < ky x.Id then 1 else 0)==0):=by
   rw[if_neg (by omega)]
   unfold kF
   by_cases hk:ky d < ky x.Id
   ·rw[if_pos hk]
    rw[List.any_eq_false.2]
    ·rfl
    intro y hy
    obtain⟨j,hj,rfl⟩:=List.getElem_of_mem hy
    have hy':l[j]? =some l[j]:=List.getElem?_eq_getElem hj
    simp only[decide_eq_true_eq]
    intro he
    rcases Nat.lt_or_ge j p with q | q
    ·have:=h1 j _ hy' q
     rw[he] at this; omega
    ·rcases Nat.lt_or_ge p j with q2 | q2
     ·have:=hr.2 _ _ _ _ hx hy' q2
      rw[he] at this; omega
     ·obtain rfl:j=p:=by omega
      rw[hy'] at hx; cases hx
      rw[he] at hk; omega
   ·rw[if_neg hk]
    refine List.any_eq_true.2 ⟨x,hmem, ?_⟩
    simp only[decide_eq_true_eq]
    exact M1 gx hd (by omega)
  rw[this]
 ·have hn:¬((p:Int) < (l.length:Int)):=by omega
  simp only[hn,decide_false,Bool.false_eq_true,if_false,aG,Option.bind_some]
  have:kF l d=false:=by
   unfold kF
   refine List.any_eq_false.2 λy hy=> ?_
   obtain⟨j,hj,rfl⟩:=List.getElem_of_mem hy
   have:=h1 j _ (List.getElem?_eq_getElem hj) (by omega)
   simp only[decide_eq_true_eq]
   intro he
   rw[he] at this; omega
  rw[this]
theorem H7 {ρ:Type} {body:Int→Option (Lp Int ρ)} {c:Nat→Bool} {n:Nat} (hb:∀i:Nat,i≤n→body (i:Int)=some (if c i then .go ((i+1:Nat):Int) else .brk (i:Int))) (hn:c n=false):∀(G k:Nat),k≤n→n - k < G→
    ∃p:Nat,p≤n∧c p=false∧aS body G (k:Int)=some (.brk (p:Int))
  | 0,_,_,h=>by omega
  | G+1,k,hk,h=>by
    unfold aS
    rw[hb k hk]
    cases hc:c k
    · exact⟨k,hk,hc,by simp⟩
    · have:k≠n:=by rintro rfl; rw[hn] at hc; cases hc
      obtain⟨p,h1,h2,h3⟩:=H7 hb hn G (k+1) (by omega) (by omega)
      exact⟨p,h1,h2,by simpa using h3⟩
theorem mS {S ρ:Type} {body:S→Option (Lp S ρ)} {I:Nat→S→Prop} {n:Nat} (hb:∀i s,i < n→I i s→∃s',body s=some (.go s')∧I (i+1) s') (he:∀s,I n s→body s=some (.brk s)):∀(G k:Nat) (s:S),k≤n→n - k < G→I k s→
    ∃s',I n s'∧aS body G s=some (.brk s')
  | 0,_,_,_,h,_=>by omega
  | G+1,k,s,hk,h,hi=>by
    unfold aS
    by_cases e:k=n
    · subst e
      rw[he s hi]
      exact⟨s,hi,rfl⟩
    · obtain⟨s',h1,h2⟩:=hb k s (by omega) hi
      rw[h1]
      exact mS hb he G (k+1) s' (by omega) (by omega) h2
theorem aGL {F:Nat} {l:List bH} {d:bH} (hF:1000≤F) (hl:l.length < 600) (gl:∀x∈l,mF x) (hd:mF d):
    ∃r,EH F l d=some r∧(∀x,x∈r.1↔x∈l∨x=d)∧r.1.length≤l.length+1:=by
  unfold EH
  obtain⟨p,h1,h2,h3⟩:=H7 (body:=s9 F l d) (n:=l.length) (c:=λi=>(l[i]?).any λx=>decide (ky x < ky d)) (λi hi=>by
    unfold s9
    rw[iK (by omega)]
    by_cases hlt:i < l.length
    · have hx:l[i]? =some l[i]:=List.getElem?_eq_getElem hlt
      simp only[Int.ofNat_lt,hlt,decide_true,if_true,aX,hx,Option.bind_some,aAX hF (gl _ (List.getElem_mem hlt)) hd,aG,Option.any_some]
      split <;> rfl
    · have hx:l[i]? =none:=List.getElem?_eq_none (by omega)
      simp[Int.ofNat_lt,hlt,hx,aG]) (by simp) F 0 (by omega) (by omega)
  rw[show (0:Int)=((0:Nat):Int) from rfl,h3]
  simp only[aG]
  have hins:(slc l 0 (p:Int)).bind (λx84=>(app ([]:List bH) x84).bind λz86=>(app z86 ([d]:List bH)).bind λz92=>(slc l (p:Int) (l).length).bind λx98=>(app z92 x98).bind λz100=>some (z100,(p:Int),true))
      =some (l.take p++ [d]++l.drop p,(p:Int),true):=by
    unfold slc
    rw[if_pos (by omega),if_pos (by omega)]
    simp only[Option.bind_some,Int.toNat_natCast]
    rw[bN (by simp; omega)]
    simp only[Option.bind_some,List.nil_append]
    rw[bN (by simp; omega)]
    simp only[Option.bind_some]
    rw[bN (by simp; omega)]
    simp
  have hmem:∀x,x∈l.take p++ [d]++l.drop p↔x∈l∨x=d:=by
    intro x
    simp only[List.mem_append,List.mem_singleton]
    rw[show (x∈l∨x=d)↔((x∈l.take p∨x∈l.drop p)∨x=d) from by rw[← List.mem_append,List.take_append_drop]]
    constructor
    · rintro((h | h) | h) <;> simp[h]
    · rintro((h | h) | h) <;> simp[h]
  by_cases hlt:p < l.length
  · have hx:l[p]? =some l[p]:=List.getElem?_eq_getElem hlt
    simp only[Int.ofNat_lt,hlt,decide_true,if_true,aX,hx,Option.bind_some,aG]
    by_cases he:l[p]=d
    · refine⟨(l,(p:Int),false),by simp[he],λx=> ?_,by simp⟩
      constructor
      · exact .inl
      · rintro(h | rfl)
        · exact h
        · rw[← he]; exact List.getElem_mem hlt
    · rw[if_neg (by simpa using he)]
      exact⟨_,hins,hmem,by simp; omega⟩
  · have hn:¬((p:Int) < (l.length:Int)):=by omega
    simp only[hn,decide_false,Bool.false_eq_true,if_false,aG]
    exact⟨_,hins,hmem,by simp; omega⟩
open Go.Vm
theorem GV {a b:ByteArray} (h:a.toList=b.toList):a=b:=Go.WideShapes.bytes_inj (by rwa [Go.Lib.toList_data,Go.Lib.toList_data] at h)
theorem gsn {c:aA} (h:Sm c) {s:aH} (hs:s∈c.Snaps):gI s.Seq∧∀p∈s.Man.Parts,∀d∈p.Ids,mF d:=by
 have:=h.g.2.1 s hs
 exact⟨this.1,λp hp d hd=>(this.2.1.2 p hp).2.2 d hd⟩
theorem m63 {F:Nat} {m:bE} (hF:1000≤F) (hp:m.Parts.length≤10) (hi:∀p∈m.Parts,p.Ids.length≤40) (hg:∀p∈m.Parts,∀d∈p.Ids,mF d):
    ∃ids,M49 F m=some ids∧(∀x,x∈ids↔∃p∈m.Parts,x∈p.Ids)∧ids.length≤400:=by
  unfold M49
  let I:Nat→List bH×Int→Prop:=λi s=>s.2=(i:Int)∧s.1.length≤40*i∧∀x,x∈s.1↔∃p∈m.Parts.take i,x∈p.Ids
  obtain⟨s,⟨h1,h2,h3⟩,h4⟩:=mS (body:=λs:List bH×Int=>vB F m s.1 s.2) (I:=I) (n:=m.Parts.length) (λi s hi' hI=>by
      obtain⟨l,q⟩:=s
      obtain⟨rfl,hl,hm⟩:=hI
      simp only at hl hm
      have hx:m.Parts[i]? =some m.Parts[i]:=List.getElem?_eq_getElem hi'
      have hmem:=List.getElem_mem hi'
      have htk:m.Parts.take (i+1)=m.Parts.take i++ [m.Parts[i]]:=by simp
      generalize m.Parts[i]=p at hx hmem htk
      have hpi:=hi p hmem
      have hgp:=hg p hmem
      have hgl:∀x∈l,mF x:=λx hx=>by
        obtain⟨p',hp',hx'⟩:=(hm x).1 hx
        exact hg p' (List.mem_of_mem_take hp') x hx'
      let J:Nat→List bH×Int→Prop:=λk s=>s.2=(k:Int)∧s.1.length≤40*i+k∧∀x,x∈s.1↔(x∈l∨x∈p.Ids.take k)
      obtain⟨t,⟨j1,j2,j3⟩,j4⟩:=mS (ρ:=Lp (List bH×Int) (List bH)) (body:=λs:List bH×Int=>vA F m (i:Int) s.1 s.2) (I:=J) (n:=p.Ids.length) (λk s hk hJ=>by
          obtain⟨u,q⟩:=s
          obtain⟨rfl,hu,hv⟩:=hJ
          simp only at hu hv
          have hd:p.Ids[k]? =some p.Ids[k]:=List.getElem?_eq_getElem hk
          have hdm:=List.getElem_mem hk
          have hdk:p.Ids.take (k+1)=p.Ids.take k++ [p.Ids[k]]:=by simp
          generalize p.Ids[k]=d at hd hdm hdk
          obtain⟨r,r1,r2,r3⟩:=aGL (F:=F) (l:=u) (d:=d) hF (by omega) (λx hx=>by
            rcases(hv x).1 hx with q | q
            · exact hgl x q
            · exact hgp x (List.mem_of_mem_take q)) (hgp d hdm)
          refine⟨(r.1,((k+1:Nat):Int)), ?_,rfl,by simp only; omega,λx=> ?_⟩
          · unfold vA
            rw[iK (by omega)]
            simp only[aX,hx,Option.bind_some,Int.ofNat_lt,hk,decide_true,if_true,hd,r1]
          · simp only[r2,hv,hdk,List.mem_append,List.mem_singleton,or_assoc]) (λs hs=>by
          obtain⟨u,q⟩:=s
          obtain⟨rfl, -, -⟩:=hs
          unfold vA
          simp[aX,hx]) F 0 (l,0) (by omega) (by omega) ⟨rfl,by simp only; omega,by simp⟩
      refine⟨(t.1,((i+1:Nat):Int)), ?_,rfl,by simp only; omega,λx=> ?_⟩
      · unfold vB
        rw[iK (by omega)]
        simp only[Int.ofNat_lt,hi',decide_true,if_true,j4,aG]
      · simp only[j3,hm,htk,List.take_length,List.mem_append,List.mem_singleton]
        constructor
        · rintro(⟨p',hp',hx'⟩ | hx')
          · exact⟨p',.inl hp',hx'⟩
          · exact⟨p,.inr rfl,hx'⟩
        · rintro⟨p',hp' | rfl,hx'⟩
          · exact .inl ⟨p',hp',hx'⟩
          · exact .inr hx') (λs hs=>by
      obtain⟨u,q⟩:=s
      obtain⟨rfl, -, -⟩:=hs
      unfold vB
      simp) F 0 ([],0) (by omega) (by omega) ⟨rfl,by simp,by simp⟩
  rw[h4]
  exact⟨s.1,by simp only[aG],by simpa using h3,by omega⟩
theorem m64 {F:Nat} {c:aA} {d:bH} (hF:1000≤F) (hl:c.Chunks.length < 1000):∃n:Int,KS F c d=some n∧(decide (n < 0))= !kF c.Chunks d:=by
 have:=pT (l:=c.Chunks) (λx=>decide (x.Id=d)) (F:=F) (body:=oK F c d) (by omega) (λi hi=>by
  unfold oK
  have hx:c.Chunks[i]? =some c.Chunks[i]:=List.getElem?_eq_getElem hi
  rw[iK (by omega)]
  simp only[aX,hx,Option.bind_some,Int.ofNat_lt,hi,decide_true,if_true,Option.any_some]
  split <;> rfl) (by unfold oK; simp)
 rw[show (after (aS (oK F c d) F 0) λ_=>some (-1))=KS F c d from rfl] at this
 obtain⟨n,h1,h2⟩:=Option.bind_eq_some_iff.1 this
 refine⟨n,h1, ?_⟩
 have h3:=Option.some.inj h2
 unfold kF
 rw[← h3,← decide_not]
 congr 1
 simp
theorem m50 {F:Nat} {c:aA} {i:Nat} {s:aH} (hF:1000≤F) (hl:c.Snaps.length < 1000) (hs:c.Snaps[i]? =some s):
    ∃n:Int,yC F c s.Man.Name=some n∧(n !=(i:Int))=(c.Snaps.take i).any λy=>s.Man.Name==y.Man.Name:=by
  have hi:i < c.Snaps.length:=(List.getElem?_eq_some_iff.1 hs).1
  have hsi:c.Snaps[i]=s:=by have:=List.getElem?_eq_getElem hi; rw[hs] at this; exact(Option.some.inj this).symm
  unfold yC
  rw[eV (s0:=(0:Int)) (n:=c.Snaps.length) (F:=F) (λi:Nat=>(i:Int)) (λi=>(c.Snaps[i]?).any λy=>y.Man.Name.toList==s.Man.Name.toList) (λi=>(i:Int)) (by omega) rfl]
  · unfold LF
    have hp:((c.Snaps[i]?).any λy=>y.Man.Name.toList==s.Man.Name.toList)=true:=by rw[hs]; simp
    cases h:(List.range c.Snaps.length).find? λi=>(c.Snaps[i]?).any λy=>y.Man.Name.toList==s.Man.Name.toList with
    | none=>
      have:=List.find?_eq_none.1 h i (List.mem_range.2 hi)
      exact absurd hp this
    | some k=>
      refine⟨(k:Int),rfl, ?_⟩
      obtain⟨hk1,hk2,hk3⟩:=List.find?_range_eq_some.1 h
      rw[Bool.eq_iff_iff]
      simp only[bne_iff_ne,ne_eq,List.any_eq_true]
      have hkl:k < c.Snaps.length:=List.mem_range.1 hk2
      rw[List.getElem?_eq_getElem hkl] at hk1
      simp only[Option.any_some,beq_iff_eq] at hk1
      constructor
      · intro hne
        have hki:k < i:=by
          rcases Nat.lt_or_ge k i with q | q
          · exact q
          · have:=hk3 i (by omega)
            rw[hp] at this; cases this
        refine⟨c.Snaps[k], ?_, ?_⟩
        · rw[List.mem_take_iff_getElem]
          exact⟨k,by omega,rfl⟩
        · exact(kX _ _).2 (GV hk1.symm)
      · rintro⟨y,hy,he⟩ hc
        rw[List.mem_take_iff_getElem] at hy
        obtain⟨j,hj,rfl⟩:=hy
        have:=hk3 j (by omega)
        rw[List.getElem?_eq_getElem (by omega)] at this
        rw[(kX _ _).1 he] at this
        simp at this
  · intro j hj _
    unfold oL
    have hx:c.Snaps[j]? =some c.Snaps[j]:=List.getElem?_eq_getElem hj
    rw[iK (by omega)]
    simp only[aX,hx,Option.bind_some,Int.ofNat_lt,hj,decide_true,if_true,Option.any_some]
    split <;> rfl
  · intro _; unfold oL; simp
def M8 (c:aA) (m:bE):Bool:=m.Parts.all λp=>p.Ids.all λd=>kF c.Chunks d
def DJ (c:aA) (i:Nat):Bool:=match c.Snaps[i]? with
 | none=>true
 | some s=>fF s.Seq 0 (c.Seq - 1) && (i==0 || (match c.Snaps[i - 1]? with | none=>true | some y=>decide (y.Seq < s.Seq))) && !((c.Snaps.take i).any λy=>s.Man.Name==y.Man.Name) && vH s.Man && iA c s.Locs
def FU (c:aA) (i:Nat):Bool:=match c.Snaps[i]? with
 | none=>true
 | some s=>M8 c s.Man
def TU (c:aA) (i:Nat):Bool:=match c.Snaps[i]? with
 | none=>true
 | some s=> !c.Exps.any λx=>x.Of==s.Seq
def TV (c:aA) (i:Nat):List ByteArray:=(c.Snaps.take i).foldl (λl s=>lY l s.Man.Name) []
theorem RC (c:aA) (x:ByteArray):∀i,((TV c i).any λz=>x==z)=(c.Snaps.take i).any λy=>x==y.Man.Name:=by
 have:∀(l:List aH) (acc:List ByteArray),((l.foldl (λl s=>lY l s.Man.Name) acc).any λz=>x==z)=((acc.any λz=>x==z) || l.any λy=>x==y.Man.Name):=by
  intro l
  induction l with
  | nil=>simp
  | cons s l ih=>
   intro acc
   rw[List.foldl_cons,ih,List.any_cons,← Bool.or_assoc]
   congr 1
   unfold lY
   split
   ·rename_i h
    rw[Bool.eq_iff_iff]
    simp only[Bool.or_eq_true,List.any_eq_true] at h ⊢
    constructor
    ·exact .inl
    ·rintro(q | q)
     ·exact q
     ·obtain⟨y,hy,he⟩:=h
      rw[(kX _ _).1 q,(kX _ _).1 he]
      exact⟨y,hy,(kX _ _).2 rfl⟩
   ·simp
 intro i
 rw[TV,this]
 simp
open Go.Vm
theorem VZ {F:Nat} {c:aA} {s:aH} (hF:1000≤F) (h:Sm c) (hr:uL c.Chunks) (hs:s∈c.Snaps):
    aS (λq=>u6 F c s q) F 0=some (if !M8 c s.Man then .ret (.ret false) else .brk (s.Man.Parts.length:Int)):=by
  obtain⟨-,h2,h3⟩:=h.man s hs
  have hg:=(gsn h hs).2
  have hc:=h.ch
  rw[eV (s0:=(0:Int)) (n:=s.Man.Parts.length) (F:=F) (λi:Nat=>(i:Int)) (λi=>(s.Man.Parts[i]?).any λp=> !p.Ids.all λd=>kF c.Chunks d) (λ_=>.ret false) (by omega) rfl,iO,iU,tD]
  · rfl
  · intro i hi _
    unfold u6
    have hx:s.Man.Parts[i]? =some s.Man.Parts[i]:=List.getElem?_eq_getElem hi
    have hm:=List.getElem_mem hi
    generalize s.Man.Parts[i]=p at hx hm
    have h4:=(h3 p hm).2
    rw[iK (by omega)]
    simp only[aX,hx,Option.bind_some,Int.ofNat_lt,hi,decide_true,if_true,Option.any_some]
    rw[eV (s0:=(0:Int)) (n:=p.Ids.length) (F:=F) (λi:Nat=>(i:Int)) (λi=>(p.Ids[i]?).any λd=> !kF c.Chunks d) (λ_=>.ret (.ret false)) (by omega) rfl,iO,iU,tD]
    · cases p.Ids.all λd=>kF c.Chunks d <;> simp[after]
    · intro k hk _
      unfold xZ
      have hd:p.Ids[k]? =some p.Ids[k]:=List.getElem?_eq_getElem hk
      have hdm:=List.getElem_mem hk
      generalize p.Ids[k]=d at hd hdm
      obtain⟨z,hz⟩:=aA0 (F:=F) (l:=c.Chunks) (d:=d) hF hr (hg p hm d hdm) (by omega)
      rw[iK (by omega)]
      simp only[aX,hd,Option.bind_some,Int.ofNat_lt,hk,decide_true,if_true,Option.any_some,hz]
      split <;> rfl
    · intro _; unfold xZ; simp
  · intro _; unfold u6; simp
theorem M9 {c:aA} {i:Nat} {s:aH} (hx:c.Snaps[i]? =some s):TV c (i+1)=lY (TV c i) s.Man.Name:=by
 unfold TV
 have hi:=(List.getElem?_eq_some_iff.1 hx)
 obtain⟨hi,rfl⟩:=hi
 rw[List.take_succ_eq_append_getElem hi,List.foldl_append]
 rfl
theorem V0 {F:Nat} {c:aA} (hF:1000≤F) (h:Sm c) (hr:uL c.Chunks) (hq:fF c.Seq 0 1073741824=true) {i:Nat} (hi:i < c.Snaps.length):
    u7 F c (TV c i) i=some (if !(DJ c i && FU c i) then .ret false else .go (TV c (i+1),((i+1:Nat):Int))):=by
  have hv:=h.vo
  have hsn:=h.sn
  have hq':0≤c.Seq∧c.Seq≤1073741824:=by simpa [fF] using hq
  unfold u7 DJ FU
  have hx:c.Snaps[i]? =some c.Snaps[i]:=List.getElem?_eq_getElem hi
  have hm:=List.getElem_mem hi
  generalize c.Snaps[i]=x at hx hm
  rw[iK (by omega),wr (n:=c.Seq - 1) (by omega) (by omega),M9 hx]
  simp only[aX,hx,TS,m73 hF,VS hF (show c.Vols.length < 1000 by omega),Option.bind_some,cK,aG,cE,cU,Int.ofNat_lt,hi,decide_true,if_true,RC,VZ hF h hr hm]
  generalize ((c.Snaps.take i).any λy=>x.Man.Name==y.Man.Name)=nb
  generalize iA c x.Locs=lb
  generalize M8 c x.Man=pb
  have e1:((if vH x.Man=true then (0:Int) else 1) !=0)= !vH x.Man:=by cases vH x.Man <;> rfl
  rw[e1]
  generalize vH x.Man=mb
  generalize fF x.Seq 0 (c.Seq - 1)=ib
  by_cases h0:i=0
  · subst h0
    cases nb <;> cases lb <;> cases pb <;> cases mb <;> cases ib <;> simp[aG,cE]
  · have h5:c.Snaps[i - 1]? =some c.Snaps[i - 1]:=List.getElem?_eq_getElem (by omega)
    generalize c.Snaps[i - 1]=y at h5
    rw[yA (by omega) (by omega)]
    have h7:(0:Int) < i:=by omega
    have h8:(i==0)=false:=by simpa using h0
    have e4:decide (x.Seq≤y.Seq)= !decide (y.Seq < x.Seq):=by rw[← decide_not]; congr 1; simp
    simp only[aX,h5,h7,h8,e4,Option.bind_some,decide_true,if_true,Bool.false_or]
    generalize decide (y.Seq < x.Seq)=od
    cases nb <;> cases lb <;> cases pb <;> cases mb <;> cases ib <;> cases od <;> simp[aG,cE]
def CF (c:aA):Bool:= !(List.range c.Snaps.length).any λi=> !(DJ c i && FU c i)
theorem m71 {F:Nat} {c:aA} (hF:1000≤F) (h:Sm c) (hr:uL c.Chunks) (hq:fF c.Seq 0 1073741824=true):M80 F c=some (CF c && decide (c.Snaps.length≤8)):=by
 have hc:=h.sn
 unfold M80 CF
 rw[eV (s0:=(([]:List ByteArray),(0:Int))) (n:=c.Snaps.length) (F:=F) (λi:Nat=>(TV c i,(i:Int))) (λi=> !(DJ c i && FU c i)) (λ_=>false) (by omega) rfl,iO]
 ·cases (List.range c.Snaps.length).any λi=> !(DJ c i && FU c i) <;> simp[after]; omega
 ·exact λi hi _=>V0 hF h hr hq hi
 ·intro _; unfold u7; simp
theorem V1 {F:Nat} {c:aA} (hF:1000≤F) (h:Sm c) {i:Nat} (hi:i < c.Snaps.length):
    rI F c i=some (if !(DJ c i && FU c i && TU c i) then .ret false else .go ((i+1:Nat):Int)):=by
  have hv:=h.vo
  have hsn:=h.sn
  have hch:=h.ch
  have hex:=h.ex
  unfold rI DJ FU TU fF
  have hx:c.Snaps[i]? =some c.Snaps[i]:=List.getElem?_eq_getElem hi
  have hm:=List.getElem_mem hi
  generalize c.Snaps[i]=x at hx hm
  obtain⟨k1,k2,k3⟩:=h.man x hm
  obtain⟨ids,i1,i2,i3⟩:=m63 (F:=F) (m:=x.Man) hF k2 (λp hp=>(k3 p hp).2) (gsn h hm).2
  obtain⟨n,n1,n2⟩:=m50 (F:=F) hF (by omega) hx
  rw[iK (by omega)]
  have l7:aS (λs=>vD F c ids s) F 0=some (if !M8 c x.Man then .ret (.ret false) else .brk (ids.length:Int)):=by
    rw[eV (s0:=(0:Int)) (n:=ids.length) (F:=F) (λi:Nat=>(i:Int)) (λi=>(ids[i]?).any λd=> !kF c.Chunks d) (λ_=>.ret false) (by omega) rfl,iO,iU,tD]
    · have:M8 c x.Man=ids.all λd=>kF c.Chunks d:=by
        rw[Bool.eq_iff_iff]
        simp only[M8,List.all_eq_true]
        constructor
        · intro q d hd
          obtain⟨p,hp,hd'⟩:=(i2 d).1 hd
          exact q p hp d hd'
        · intro q p hp d hd
          exact q d ((i2 d).2 ⟨p,hp,hd⟩)
      rw[this]
    · intro k hk _
      unfold vD
      have hd:ids[k]? =some ids[k]:=List.getElem?_eq_getElem hk
      generalize ids[k]=d at hd
      obtain⟨z,hz,hz2⟩:=m64 (F:=F) (c:=c) (d:=d) hF (by omega)
      rw[iK (by omega)]
      simp only[aX,hd,Option.bind_some,Int.ofNat_lt,hk,decide_true,if_true,Option.any_some,hz,hz2]
      split <;> rfl
    · intro _; unfold vD; simp
  have l9:aS (λs=>vF F c x s) F 0=some (if c.Exps.any λy=>y.Of==x.Seq then .ret (.ret false) else .brk (c.Exps.length:Int)):=by
    rw[eV (s0:=(0:Int)) (n:=c.Exps.length) (F:=F) (λi:Nat=>(i:Int)) (λi=>(c.Exps[i]?).any λy=>y.Of==x.Seq) (λ_=>.ret false) (by omega) rfl,iO,iU]
    · intro k hk _
      unfold vF
      have hd:c.Exps[k]? =some c.Exps[k]:=List.getElem?_eq_getElem hk
      rw[iK (by omega)]
      simp only[aX,hd,Option.bind_some,Int.ofNat_lt,hk,decide_true,if_true,Option.any_some]
      split <;> rfl
    · intro _; unfold vF; simp
  simp only[aX,hx,m62 hF k1 (λp hp=>(k3 p hp).1),m61 hF (show c.Vols.length < 1000 by omega),n1,n2,i1,l7,l9,Option.bind_some,cK,aG,cE,cU,Int.ofNat_lt,hi,decide_true,if_true]
  generalize ((c.Snaps.take i).any λy=>x.Man.Name==y.Man.Name)=nb
  generalize iA c x.Locs=lb
  generalize M8 c x.Man=pb
  generalize (c.Exps.any λy=>y.Of==x.Seq)=xb
  generalize vH x.Man=mb
  have e1:decide (x.Seq < 0)= !decide (0≤x.Seq):=by rw[← decide_not]; congr 1; simp
  have e2:decide (c.Seq≤x.Seq)= !decide (x.Seq≤c.Seq - 1):=by rw[← decide_not]; congr 1; simp; omega
  rw[e1,e2]
  generalize decide (0≤x.Seq)=d1
  generalize decide (x.Seq≤c.Seq - 1)=d2
  by_cases h0:i=0
  · subst h0
    cases nb <;> cases lb <;> cases pb <;> cases mb <;> cases d1 <;> cases d2 <;> cases xb <;> simp[aG,cE]
  · have h5:c.Snaps[i - 1]? =some c.Snaps[i - 1]:=List.getElem?_eq_getElem (by omega)
    generalize c.Snaps[i - 1]=y at h5
    rw[yA (by omega) (by omega)]
    have h7:(0:Int) < i:=by omega
    have h8:(i==0)=false:=by simpa using h0
    have e4:decide (x.Seq≤y.Seq)= !decide (y.Seq < x.Seq):=by rw[← decide_not]; congr 1; simp
    simp only[aX,h5,h7,h8,e4,Option.bind_some,decide_true,if_true,Bool.false_or]
    generalize decide (y.Seq < x.Seq)=od
    cases nb <;> cases lb <;> cases pb <;> cases mb <;> cases d1 <;> cases d2 <;> cases xb <;> cases od <;> simp[aG,cE]
def gA (c:aA):Bool:=fF c.Seq 0 1073741824 && (c.Vols.all l8 && fF c.Vols.length 1 8) && (vG c && decide (c.Chunks.length≤200)) && (CF c && decide (c.Snaps.length≤8)) && (z5 c && decide (c.Exps.length≤200))
theorem m33 {F:Nat} {c:aA} (hF:1000≤F) (h:Sm c):Q4 F c=some (if gA c then 0 else 1):=by
 have hv:=h.vo
 unfold Q4 gA
 simp only[TS,m69 hF hv,m70 hF h,Option.bind_some,cK,aG,cU]
 cases hq:fF c.Seq 0 1073741824
 ·simp
 ·cases hv':(c.Vols.all l8 && fF c.Vols.length 1 8)
  ·simp
  ·cases hc:vG c
   ·simp
   ·have hr:=VY h hc
    simp only[m71 hF h hr hq,m72 hF h hq,Option.bind_some,cU,cK,aG]
    generalize decide (c.Chunks.length≤200)=a
    generalize (CF c && decide (c.Snaps.length≤8))=b
    generalize (z5 c && decide (c.Exps.length≤200))=d
    cases a <;> cases b <;> cases d <;> simp
theorem tE {n:Nat} (p q:Nat→Bool):((List.range n).any λi=> !(p i && q i))=(((List.range n).any λi=> !p i) || (List.range n).any λi=> !q i):=by
 rw[Bool.eq_iff_iff]
 simp only[Bool.or_eq_true,List.any_eq_true,Bool.not_eq_true',Bool.and_eq_false_iff]
 constructor
 ·rintro⟨i,hi,q | q⟩
  ·exact .inl ⟨i,hi,q⟩
  ·exact .inr ⟨i,hi,q⟩
 ·rintro(⟨i,hi,q⟩ | ⟨i,hi,q⟩)
  ·exact⟨i,hi,.inl q⟩
  ·exact⟨i,hi,.inr q⟩
theorem aA1 (c:aA):((List.range c.Snaps.length).any λi=> !TU c i)=(List.range c.Exps.length).any λi=> !JZ c i:=by
 have h1:((List.range c.Snaps.length).any λi=> !TU c i)=c.Snaps.any λs=>c.Exps.any λx=>x.Of==s.Seq:=by
  refine Eq.trans ?_ (iU c.Snaps _)
  congr 1
  funext i
  unfold TU
  cases c.Snaps[i]? <;> simp
 have h2:((List.range c.Exps.length).any λi=> !JZ c i)=c.Exps.any λx=>c.Snaps.any λs=>s.Seq==x.Of:=by
  refine Eq.trans ?_ (iU c.Exps _)
  congr 1
  funext i
  unfold JZ
  cases c.Exps[i]? <;> simp
 rw[h1,h2,Bool.eq_iff_iff]
 simp only[List.any_eq_true,beq_iff_eq]
 constructor
 ·rintro⟨s,hs,x,hx,e⟩; exact⟨x,hx,s,hs,e.symm⟩
 ·rintro⟨x,hx,s,hs,e⟩; exact⟨s,hs,x,hx,e.symm⟩
theorem m19 {F:Nat} {c:aA} (hF:1000≤F) (h:Sm c):VJ F c=some (gA c):=by
 have hv:=h.vo
 have hsn:=h.sn
 have hch:=h.ch
 have hex:=h.ex
 have l0:aS (λs=>rG F c s) F 0=some (if !c.Vols.all l8 then .ret false else .brk (c.Vols.length:Int)):=by
  rw[eV (s0:=(0:Int)) (n:=c.Vols.length) (F:=F) (λi:Nat=>(i:Int)) (λi=>(c.Vols[i]?).any λv=> !l8 v) (λ_=>false) (by omega) rfl,iO,iU,tD]
  ·exact λi hi _=>VU hF h hi
  ·intro _; unfold rG; simp
 have l3:aS (λs=>rH F c s) F 0=some (if !vG c then .ret false else .brk (c.Chunks.length:Int)):=by
  rw[eV (s0:=(0:Int)) (n:=c.Chunks.length) (F:=F) (λi:Nat=>(i:Int)) (λi=> !H6 c i) (λ_=>false) (by omega) rfl,iO]
  ·unfold vG; rw[Bool.not_not]
  ·exact λi hi _=>VT hF h hi
  ·intro _; unfold rH; simp
 have l5:aS (λs=>rI F c s) F 0=some (if (List.range c.Snaps.length).any λi=> !(DJ c i && FU c i && TU c i) then .ret false else .brk (c.Snaps.length:Int)):=by
  rw[eV (s0:=(0:Int)) (n:=c.Snaps.length) (F:=F) (λi:Nat=>(i:Int)) (λi=> !(DJ c i && FU c i && TU c i)) (λ_=>false) (by omega) rfl,iO]
  ·exact λi hi _=>V1 hF h hi
  ·intro _; unfold rI; simp
 have l11:aS (λs=>oM F c s) F 0=some (if (List.range c.Exps.length).any λi=> !zG c i then .ret false else .brk (c.Exps.length:Int)):=by
  rw[eV (s0:=(0:Int)) (n:=c.Exps.length) (F:=F) (λi:Nat=>(i:Int)) (λi=> !zG c i) (λ_=>false) (by omega) rfl,iO]
  ·exact λi hi _=>RB hF h hi
  ·intro _; unfold oM; simp
 have hs:CF c= !(List.range c.Snaps.length).any λi=> !(DJ c i && FU c i):=rfl
 have he:z5 c= !(((List.range c.Exps.length).any λi=> !zG c i) || (List.range c.Exps.length).any λi=> !JZ c i):=by unfold z5; rw[tE]
 unfold VJ gA
 rw[tE (λi=>DJ c i && FU c i) (TU c),aA1] at l5
 simp only[m59,l0,l3,l5,l11,hs,he,Option.bind_some,cK,aG,cU]
 generalize ((List.range c.Snaps.length).any λi=> !(DJ c i && FU c i))=a1
 generalize ((List.range c.Exps.length).any λi=> !zG c i)=a2
 generalize ((List.range c.Exps.length).any λi=> !JZ c i)=a3
 generalize c.Vols.all l8=a4
 generalize vG c=a5
 generalize fF c.Seq 0 1073741824=a6
 generalize fF c.Vols.length 1 8=a7
 have f1:decide (8 < (c.Snaps.length:Int))= !decide (c.Snaps.length≤8):=by rw[← decide_not]; congr 1; simp; omega
 have f2:decide (200 < (c.Chunks.length:Int))= !decide (c.Chunks.length≤200):=by rw[← decide_not]; congr 1; simp; omega
 have f3:decide (200 < (c.Exps.length:Int))= !decide (c.Exps.length≤200):=by rw[← decide_not]; congr 1; simp; omega
 rw[f1,f2,f3]
 generalize decide (c.Snaps.length≤8)=b1
 generalize decide (c.Chunks.length≤200)=b2
 generalize decide (c.Exps.length≤200)=b3
 cases a6 <;> cases b1 <;> cases b2 <;> cases b3 <;> cases a7 <;> cases a4 <;> cases a5 <;> cases a1 <;> cases a2 <;> cases a3 <;> rfl
end Go.Proofs.YtbbifdfldpfphaaGreat
