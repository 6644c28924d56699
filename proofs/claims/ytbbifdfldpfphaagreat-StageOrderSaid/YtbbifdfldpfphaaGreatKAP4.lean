import Derived.Test.YtbbifdfldpfphaaGreatKAP3
import Derived.Test.YtbbifdfldpfphaaGreatKAP1
import Derived.Lib.Bytealg
set_option linter.unusedSimpArgs false
set_option linter.unusedVariables false
set_option maxHeartbeats 4000000
set_option maxRecDepth 100000
open Bool(false_eq_true)
open ByteArray(empty)
open Int(ofNat_lt)
open Go.IntKind(wrap)
open List(any_eq_false any_eq_true getElem?_eq_getElem getElem_mem map mem_append mem_of_getElem? mem_range mem_singleton nil_sublist range)
open Nat(lt_or_ge pos_of_ne_zero)
open Option(any_some bind_some)
open Go.Proofs.Tryz(prog)
namespace Go.Proofs.YtbbifdfldpfphaaGreat
open Go.Vm
def ID (m:Nat) (p0:Int) (p1:Int) (p2:Int):Option (Bool):=
 after (if decide (p1<=p0) then (Bk (decide (p0<=p2))) else Bk false:Option (Lp (Bool) (Bool))) λj4=>some j4
theorem QF {u:Nat} {p0:Int} {p1:Int} {p2:Int} {o:Bool} (h:aF) (m:ID u p0 p1 p2=some o):
 aM prog 97 [nZ p0,nZ p1,nZ p2] h (λr h'=>r= .sc (.bool o)/\h'=h):=by
 refine fQ 15 [.tmp 6] Tryz.func97 rfl rfl rfl rfl ?_
 unfold ID at m
 refine v (vs (fO m (σ:=Bool) (λs=>[]) (λs=>.c 6 (.sc (.bool s)) .nil) (λx m=> ?_) ?_))
 refine v ?_
 apply vi m<;>intro b5 m
 rw[b5]
 exact n5 m
 rw[b5]
 exact n5 m
 rintro _ j4 m
 refine v ?_
 obtain rfl:=eR m
 exact eH rfl
theorem AC:aP prog 97=true:=by kernel_rfl
def wS (m:Nat) (p0:bH) (p1:bH) (q0:Int):Option (Lp (Int) (Bool)):=
 if decide (q0 < 32) then ((ix p0.1 q0).bind λx0=>(ix p1.1 q0).bind λx1=>if (x0 !=x1)then ((ix p0.1 q0).bind λx2=>(ix p1.1 q0).bind λx3=>Rk (decide (x2 < x3))) else Gk (wrap .i64 (q0+1))) else Bk q0
def NG (m:Nat) (p0:bH) (p1:bH):Option (Bool):=
 after (aR (λs=>wS m p0 p1 s) m 0) λr0=>some false
theorem aAZ {w:Nat} {p0:bH} {p1:bH} {o:Bool} (h:aF) (m:NG w p0 p1=some o):
 aM prog 147 [.agg (bC p0),.agg (bC p1)] h (λr h'=>r= .sc (.bool o)/\h'=h):=by
 refine fQ 24 [.tmp 4] Tryz.func147 rfl rfl rfl rfl ?_
 unfold NG at m
 refine v (gZ rfl rfl λk2 K3=>gZ rfl rfl λk5 K6=>v (jS m (σ:=Int) (λs=>[(some k5,.obj 36 (bC p1)),(some k2,.obj 36 (bC p0))]) (λs=>.c 2 (.ptr k2 0) (.c 3 (.ptr k5 0) (.c 5 (nZ s) .nil))) (lx (.k3 .nil)) ?_ ?_))
 rintro _ q0 x m
 replace m:wS w p0 p1 q0=some x:=m
 unfold wS at m
 refine v (v ?_)
 apply vi m<;>intro c0 m
 refine v (v (v (vq (by kernel_rfl) ?_)))
 obtain⟨_,X0,m⟩:=aD m
 refine bU (mA X0 xT rfl rfl) (vn (λu=>nH 0 X0 EE rfl (aW 1 u rfl) rfl) ?_)
 obtain⟨_,X1,m⟩:=aD m
 refine bU (mA X1 xT rfl rfl) (vn (λu=>nH 0 X1 EE rfl (aW 0 u rfl) rfl) (v ?_))
 apply vi m<;>intro c1 m
 refine v (vq (by kernel_rfl) ?_)
 obtain⟨_,X2,m⟩:=aD m
 refine bU (mA X2 xT rfl rfl) (vn (λu=>nH 0 X2 EE rfl (aW 1 u rfl) rfl) ?_)
 obtain⟨_,X3,m⟩:=aD m
 refine bU (mA X3 xT rfl rfl) (vn (λu=>nH 0 X3 EE rfl (aW 0 u rfl) rfl) (v (fY m λm=> ?_)))
 cases m
 exact eH rfl
 exact v (v (hH m))
 exact v (GT m)
 rintro _ r0 m
 refine v (v ?_)
 obtain rfl:=eR m
 exact eH rfl
theorem T1:aP prog 147=true:=by kernel_rfl
def tC (m:Nat) (p0:aA) (p1:List aS) (q0:Int):Option (Lp (Int) (Bool)):=
 if decide (q0 < (p1.length:Int)) then ((ix p1 q0).bind λx0=>after (if decide (x0.Vol < 0) then Bk true else if decide ((p0.Vols.length:Int)<=x0.Vol) then Bk true else (ix p0.Vols x0.Vol).bind λx1=>if (x1.State !=2)then Bk true else (ix p0.Vols x0.Vol).bind λx2=>(ID m x0.File 1 x2.Files).bind λy0=>if (!y0)then Bk true else (ID m x0.Off 0 16777215).bind λy1=>if (!y1)then Bk true else (ID m x0.Len 13 8013).bind λy2=>Bk (!y2):Option (Lp (Bool) (Lp (Int) (Bool)))) λj0=>if j0 then Rk false else after (if decide (0 < q0) then ((ix p1 (wrap .i64 (q0 - 1))).bind λx3=>after (if decide (x3.Vol < x0.Vol) then (Bk (!true)) else if (x3.Vol==x0.Vol)then (if decide (x3.File < x0.File) then (Bk (!true)) else if (x3.File==x0.File)then (Bk (!(decide (x3.Off < x0.Off)))) else Bk (!false)) else Bk (!false):Option (Lp (Bool) (Lp (Unit) (Lp (Int) (Bool))))) λj1=>if j1 then (Rk (.ret false)) else Bk ()) else Bk ():Option (Lp (Unit) (Lp (Int) (Bool)))) λ_=>Gk (wrap .i64 (q0+1))) else Bk q0
def AD (m:Nat) (p0:aA) (p1:List aS):Option (Bool):=
 if decide (200 < (p1.length:Int)) then (some false) else after (aR (λs=>tC m p0 p1 s) m 0) λr0=>some true
theorem KC {w:Nat} {p0:aA} {p1:List aS} {o:Bool} (h:aF) (m:AD w p0 p1=some o):
 aM prog 148 [.agg (aC p0),.sl none 4 (map aN p1)] h (λr h'=>r= .sc (.bool o)/\h'=h):=by
 refine fQ 108 [.tmp 4] Tryz.func148 rfl rfl rfl rfl ?_
 unfold AD at m
 refine v (gZ rfl rfl λk2 K3=>v (cU kB rfl (v ?_)))
 apply vi m<;>intro c7 m
 refine v (v ?_)
 obtain rfl:=eR m
 exact eH rfl
 refine v (v (jS m (σ:=Int) (λs=>[(some k2,.obj 30 (aC p0))]) (λs=>.c 1 (.sl none 4 (map aN p1)) (.c 2 (.ptr k2 0) (.c 5 (nZ s) .nil))) (lx (.k3 .nil)) ?_ ?_))
 rintro _ q0 x m
 replace m:tC w p0 p1 q0=some x:=m
 unfold tC at m
 refine v (cU kB rfl (v ?_))
 apply vi m<;>intro c0 m
 refine v (v (v (vx m jH rfl rfl λx0 _ m=>va (.agg (aN x0)) nD rfl rfl (ve λu=>bG (JO) u EM rfl rfl λk202 K0=>qk K0 rfl (ve λu=>aL 0 (aN x0) u rfl rfl rfl rfl MZ rfl rfl λK1=>qk K1 rfl (vs (vs (fO m (σ:=Bool) (λs=>[(some k202,.obj 81 (aN x0)),(some k2,.obj 30 (aC p0))]) (λs=>.c 1 (.sl none 4 (map aN p1)) (.c 2 (.ptr k2 0) (.c 5 (nZ q0) (.c 6 (.ptr k202 0) (.c 66 (.sc (.bool s)) .nil))))) (λx m=> ?_) ?_))))))))
 refine v (vq (by kernel_rfl) (vl 0 _ cB rfl rfl rfl ?_))
 apply vi m<;>intro b0 m
 rw[b0]
 exact kN m
 rw[b0]
 refine vl 0 _ cB rfl rfl rfl (vl 1 _ i9 rfl rfl rfl (cU rF rfl ?_))
 apply vi m<;>intro b1 m
 rw[b1]
 exact kN m
 rw[b1]
 refine vl 1 _ i9 rfl rfl rfl (vl 0 _ cB rfl rfl rfl (vx m nA rfl rfl λ_ _ m=> ?_))
 apply vi m<;>intro b2 m
 rw[b2]
 exact kN m
 rw[b2]
 refine vl 0 _ cB rfl rfl rfl (vl 1 _ i9 rfl rfl rfl (vl 0 _ cB rfl rfl rfl (vx m nA rfl rfl λ_ _ m=>vk QF AC m rfl rfl λ_ m=> ?_)))
 apply vi m<;>intro b3 m
 rw[b3]
 exact kN m
 rw[b3]
 refine vl 0 _ cB rfl rfl rfl (vk QF AC m rfl rfl λ_ m=> ?_)
 apply vi m<;>intro b4 m
 rw[b4]
 exact kN m
 rw[b4]
 exact vl 0 _ cB rfl rfl rfl (vk QF AC m rfl rfl λ_ m=>kN m)
 rintro _ j0 m
 refine v ?_
 apply vi m<;>intro c1 m
 refine v (v (fY m λm=> ?_))
 obtain rfl:=eR m
 exact eH rfl
 refine v (v (fO m (σ:=Unit) (λs=>[(some k202,.obj 81 (aN x0)),(some k2,.obj 30 (aC p0))]) (λs=>.c 1 (.sl none 4 (map aN p1)) (.c 2 (.ptr k2 0) (.c 5 (nZ q0) .nil))) (λx m=> ?_) ?_))
 refine v ?_
 apply vi m<;>intro c2 m
 refine v (vx m jH rfl rfl λx1 _ m=>va (.agg (aN x1)) nD rfl rfl (ve λu=>bG (JO) u EM rfl rfl λk268 K2=>qk K2 rfl (ve λu=>aL 0 (aN x1) u rfl rfl rfl rfl MZ rfl rfl λK4=>qk K4 rfl (vs (fO m (σ:=Bool) (λs=>[(some k268,.obj 81 (aN x1)),(some k202,.obj 81 (aN x0)),(some k2,.obj 30 (aC p0))]) (λs=>.c 1 (.sl none 4 (map aN p1)) (.c 2 (.ptr k2 0) (.c 5 (nZ q0) (.c 107 (.sc (.bool s)) .nil)))) (λx m=> ?_) ?_)))))
 refine v (vl 0 _ cB rfl rfl rfl (vl 1 _ cB rfl rfl rfl ?_))
 apply vi m<;>intro b5 m
 rw[b5]
 exact fZ m
 rw[b5]
 refine vl 0 _ cB rfl rfl rfl (vl 1 _ cB rfl rfl rfl ?_)
 apply vi m<;>intro b6 m
 rw[b6]
 refine vl 0 _ cB rfl rfl rfl (vl 1 _ cB rfl rfl rfl ?_)
 apply vi m<;>intro b7 m
 rw[b7]
 exact fZ m
 rw[b7]
 refine vl 0 _ cB rfl rfl rfl (vl 1 _ cB rfl rfl rfl ?_)
 apply vi m<;>intro b8 m
 rw[b8]
 exact vl 0 _ cB rfl rfl rfl (vl 1 _ cB rfl rfl rfl (fZ m))
 rw[b8]
 exact fZ m
 rw[b6]
 exact fZ m
 rintro _ j1 m
 refine v ?_
 apply vi m<;>intro c3 m
 refine v (v (fY m λm=>fY m λm=> ?_))
 obtain rfl:=eR m
 exact eH rfl
 exact v (zU m (mK [1,2] rfl rfl (.k3 .nil)))
 exact v (hH m)
 rintro _ _ m
 exact v (zU m (mK [1] rfl rfl (.k3 .nil)))
 exact v (GT m)
 rintro _ r0 m
 refine v (v ?_)
 obtain rfl:=eR m
 exact eH rfl
theorem A7:aP prog 148=true:=by kernel_rfl
def tD (m:Nat) (p0:ByteArray) (q0:Int):Option (Lp (Int) (Bool)):=
 if decide (q0 < (p0.size:Int)) then (after ((QX p0 q0).bind λx0=>if decide (x0 < 33) then Bk true else (QX p0 q0).bind λx1=>Bk (decide (126 < x1)):Option (Lp (Bool) (Lp (Int) (Bool)))) λj0=>if j0 then Rk false else Gk (wrap .i64 (q0+1))) else Bk q0
def CM (m:Nat) (p0:ByteArray):Option (Bool):=
 after (aR (λs=>tD m p0 s) m 0) λr0=>after (if decide (1<=(p0.size:Int)) then (Bk (decide ((p0.size:Int)<=20))) else Bk false:Option (Lp (Bool) (Bool))) λj0=>some j0
theorem NH {u:Nat} {p0:ByteArray} {o:Bool} (h:aF) (m:CM u p0=some o):
 aM prog 140 [.sc (.string p0)] h (λr h'=>r= .sc (.bool o)/\h'=h):=by
 refine fQ 28 [.tmp 2] Tryz.func140 rfl rfl rfl rfl ?_
 unfold CM at m
 refine v (v (jS m (σ:=Int) (λs=>[]) (λs=>.c 0 (.sc (.string p0)) (.c 3 (nZ s) .nil)) (lx (.k2 .nil)) ?_ ?_))
 rintro _ q0 x m
 replace m:tD u p0 q0=some x:=m
 unfold tD at m
 refine v (bU (rD U7 rfl) (v ?_))
 apply vi m<;>intro c0 m
 refine v (v (vs (fO m (σ:=Bool) (λs=>[]) (λs=>.c 0 (.sc (.string p0)) (.c 3 (nZ q0) (.c 19 (.sc (.bool s)) .nil))) (λx m=> ?_) ?_)))
 refine v ?_
 obtain⟨_,X0,m⟩:=aD m
 refine bU (H8 X0 u9 rfl rfl) ?_
 apply vi m<;>intro b0 m
 rw[b0]
 exact hH m
 rw[b0]
 obtain⟨_,X1,m⟩:=aD m
 exact bU (H8 X1 u9 rfl rfl) (hH m)
 rintro _ j0 m
 refine v ?_
 apply vi m<;>intro c1 m
 refine v (v (fY m λm=> ?_))
 obtain rfl:=eR m
 exact eH rfl
 exact v (v (wQ m))
 exact v (LH m)
 rintro _ r0 m
 refine vs (fO m (σ:=Bool) (λs=>[]) (λs=>.c 2 (.sc (.bool s)) .nil) (λx m=> ?_) ?_)
 refine v (bU (rD U7 rfl) ?_)
 apply vi m<;>intro b1 m
 rw[b1]
 exact bU (rD U7 rfl) (n5 m)
 rw[b1]
 exact n5 m
 rintro _ j1 m
 refine v ?_
 obtain rfl:=eR m
 exact eH rfl
theorem EO:aP prog 140=true:=by kernel_rfl
def yJ (m:Nat) (p0:bE) (q0:Int):Option (Lp (Int) (Bool)):=
 if decide (q0 < (p0.Parts.length:Int)) then ((ix p0.Parts q0).bind λx0=>after ((CM m x0.Path).bind λy0=>if (!y0)then Bk true else if decide (0 < q0) then ((ix p0.Parts (wrap .i64 (q0 - 1))).bind λx1=>if (Op.bytesLess x0.Path.toList x1.Path.toList || x0.Path.toList==x1.Path.toList)then Bk true else if decide (x0.Size < 0) then Bk true else if decide (200 < x0.Size) then Bk true else if decide (25 < (x0.Ids.length:Int)) then Bk true else Bk (((x0.Ids.length:Int)==0) !=(x0.Size==0))) else if decide (x0.Size < 0) then Bk true else if decide (200 < x0.Size) then Bk true else if decide (25 < (x0.Ids.length:Int)) then Bk true else Bk (((x0.Ids.length:Int)==0) !=(x0.Size==0)):Option (Lp (Bool) (Lp (Int) (Bool)))) λj0=>if j0 then Rk false else Gk (wrap .i64 (q0+1))) else Bk q0
def YG (m:Nat) (p0:bE):Option (Bool):=
 after ((CM m p0.Name).bind λy0=>if (!y0)then Bk true else Bk (decide (6 < (p0.Parts.length:Int))):Option (Lp (Bool) (Bool))) λj0=>if j0 then (some false) else after (aR (λs=>yJ m p0 s) m 0) λr0=>some true
theorem W98 {w:Nat} {p0:bE} {o:Bool} (h:aF) (m:YG w p0=some o):
 aM prog 98 [.agg (bI p0)] h (λr h'=>r= .sc (.bool o)/\h'=h):=by
 refine fQ 73 [.tmp 2] Tryz.func98 rfl rfl rfl rfl ?_
 unfold YG at m
 refine v (gZ rfl rfl λk2 K3=>vs (vs (fO m (σ:=Bool) (λs=>[(some k2,.obj 58 (bI p0))]) (λs=>.c 1 (.ptr k2 0) (.c 14 (.sc (.bool s)) .nil)) (λx m=> ?_) ?_)))
 refine v (vl 0 _ IC rfl rfl rfl (vk NH EO m rfl rfl λ_ m=> ?_))
 apply vi m<;>intro b0 m
 rw[b0]
 exact wQ m
 rw[b0]
 exact vl 0 _ oO rfl rfl rfl (cU xX rfl (wQ m))
 rintro _ j0 m
 refine v ?_
 apply vi m<;>intro c0 m
 refine v (v ?_)
 obtain rfl:=eR m
 exact eH rfl
 refine v (v (jS m (σ:=Int) (λs=>[(some k2,.obj 58 (bI p0))]) (λs=>.c 1 (.ptr k2 0) (.c 3 (nZ s) .nil)) (lx (.k2 .nil)) ?_ ?_))
 rintro _ q0 x m
 replace m:yJ w p0 q0=some x:=m
 unfold yJ at m
 refine v (vl 0 _ oO rfl rfl rfl (cU xX rfl (v ?_)))
 apply vi m<;>intro c1 m
 refine v (v (v (vl 0 _ oO rfl rfl rfl (vx m qQ rfl rfl λx0 _ m=>va (.agg (bX x0)) EL rfl rfl (ve λu=>bG (YU) u J6 rfl rfl λk112 K0=>qk K0 rfl (ve λu=>aL 0 (bX x0) u rfl rfl rfl rfl MX rfl rfl λK1=>qk K1 rfl (vs (fO m (σ:=Bool) (λs=>[(some k112,.obj 70 (bX x0)),(some k2,.obj 58 (bI p0))]) (λs=>.c 1 (.ptr k2 0) (.c 3 (nZ q0) (.c 72 (.sc (.bool s)) .nil))) (λx m=> ?_) ?_))))))))
 refine v (vq (by kernel_rfl) (vl 0 _ IC rfl rfl rfl (vk NH EO m rfl rfl λ_ m=> ?_)))
 apply vi m<;>intro b1 m
 rw[b1]
 exact hH m
 rw[b1]
 apply vi m<;>intro b2 m
 rw[b2]
 refine vl 0 _ IC rfl rfl rfl (vl 1 _ oO rfl rfl rfl (vx m qQ rfl rfl λ_ _ m=>bU (GC rfl rfl rfl trivial) ?_))
 apply vi m<;>intro b3 m
 rw[b3]
 exact hH m
 rw[b3]
 refine vl 0 _ cB rfl rfl rfl ?_
 apply vi m<;>intro b4 m
 rw[b4]
 exact hH m
 rw[b4]
 refine vl 0 _ cB rfl rfl rfl ?_
 apply vi m<;>intro b5 m
 rw[b5]
 exact hH m
 rw[b5]
 refine vl 0 _ yC rfl rfl rfl (cU sU rfl ?_)
 apply vi m<;>intro b6 m
 rw[b6]
 exact hH m
 rw[b6]
 exact vl 0 _ yC rfl rfl rfl (cU sU rfl (vl 0 _ cB rfl rfl rfl (bU (UU u4 rfl rfl rfl) (hH m))))
 rw[b2]
 refine vl 0 _ cB rfl rfl rfl ?_
 apply vi m<;>intro b7 m
 rw[b7]
 exact hH m
 rw[b7]
 refine vl 0 _ cB rfl rfl rfl ?_
 apply vi m<;>intro b8 m
 rw[b8]
 exact hH m
 rw[b8]
 refine vl 0 _ yC rfl rfl rfl (cU sU rfl ?_)
 apply vi m<;>intro b9 m
 rw[b9]
 exact hH m
 rw[b9]
 exact vl 0 _ yC rfl rfl rfl (cU sU rfl (vl 0 _ cB rfl rfl rfl (bU (UU u4 rfl rfl rfl) (hH m))))
 rintro _ j1 m
 refine v ?_
 apply vi m<;>intro c2 m
 refine v (v (fY m λm=> ?_))
 obtain rfl:=eR m
 exact eH rfl
 exact v (v (zU m (mK [1] rfl rfl (.k2 .nil))))
 exact v (LH m)
 rintro _ r0 m
 refine v (v ?_)
 obtain rfl:=eR m
 exact eH rfl
theorem aA0:aP prog 98=true:=by kernel_rfl
def wT (m:Nat) (p0:bH) (p1:bH) (q0:Int):Option (Lp (Int) (Bool)):=
 if decide (q0 < 32) then ((ix p0.1 q0).bind λx0=>(ix p1.1 q0).bind λx1=>if (x0 !=x1)then ((ix p0.1 q0).bind λx2=>(ix p1.1 q0).bind λx3=>Rk (decide (x2 < x3))) else Gk (wrap .i64 (q0+1))) else Bk q0
def RL (m:Nat) (p0:bH) (p1:bH):Option (Bool):=
 after (aR (λs=>wT m p0 p1 s) m 0) λr0=>some false
theorem aFZ {w:Nat} {p0:bH} {p1:bH} {o:Bool} (h:aF) (m:RL w p0 p1=some o):
 aM prog 167 [.agg (bC p0),.agg (bC p1)] h (λr h'=>r= .sc (.bool o)/\h'=h):=by
 refine fQ 24 [.tmp 4] Tryz.func167 rfl rfl rfl rfl ?_
 unfold RL at m
 refine v (gZ rfl rfl λk2 K3=>gZ rfl rfl λk5 K6=>v (jS m (σ:=Int) (λs=>[(some k5,.obj 36 (bC p1)),(some k2,.obj 36 (bC p0))]) (λs=>.c 2 (.ptr k2 0) (.c 3 (.ptr k5 0) (.c 5 (nZ s) .nil))) (lx (.k3 .nil)) ?_ ?_))
 rintro _ q0 x m
 replace m:wT w p0 p1 q0=some x:=m
 unfold wT at m
 refine v (v ?_)
 apply vi m<;>intro c0 m
 refine v (v (v (vq (by kernel_rfl) ?_)))
 obtain⟨_,X0,m⟩:=aD m
 refine bU (mA X0 xT rfl rfl) (vn (λu=>nH 0 X0 EE rfl (aW 1 u rfl) rfl) ?_)
 obtain⟨_,X1,m⟩:=aD m
 refine bU (mA X1 xT rfl rfl) (vn (λu=>nH 0 X1 EE rfl (aW 0 u rfl) rfl) (v ?_))
 apply vi m<;>intro c1 m
 refine v (vq (by kernel_rfl) ?_)
 obtain⟨_,X2,m⟩:=aD m
 refine bU (mA X2 xT rfl rfl) (vn (λu=>nH 0 X2 EE rfl (aW 1 u rfl) rfl) ?_)
 obtain⟨_,X3,m⟩:=aD m
 refine bU (mA X3 xT rfl rfl) (vn (λu=>nH 0 X3 EE rfl (aW 0 u rfl) rfl) (v (fY m λm=> ?_)))
 cases m
 exact eH rfl
 exact v (v (hH m))
 exact v (GT m)
 rintro _ r0 m
 refine v (v ?_)
 obtain rfl:=eR m
 exact eH rfl
theorem aA1:aP prog 167=true:=by kernel_rfl
def tE (m:Nat) (p0:List bH) (p1:bH) (q0:Int):Option (Lp (Int) ((List bH)×Int×Bool)):=
 after (if decide (q0 < (p0.length:Int)) then ((ix p0 q0).bind λx0=>(RL m x0 p1).bind λy0=>Bk y0) else Bk false:Option (Lp (Bool) (Lp (Int) ((List bH)×Int×Bool)))) λj0=>if j0 then (Gk (wrap .i64 (q0+1))) else Bk q0
def EP (m:Nat) (p0:List bH) (p1:bH):Option ((List bH)×Int×Bool):=
 after (aR (λs=>tE m p0 p1 s) m 0) λr0=>after (if decide (r0 < (p0.length:Int)) then ((ix p0 r0).bind λx0=>Bk (decide (x0=p1))) else Bk false:Option (Lp (Bool) ((List bH)×Int×Bool))) λj0=>if j0 then (some (p0,r0,false)) else (slc p0 0 r0).bind λx1=>(app ([]:List bH) x1).bind λz0=>(app z0 ([p1]:List bH)).bind λz1=>(slc p0 r0 (p0).length).bind λx2=>(app z1 x2).bind λz2=>some (z2,r0,true)
theorem aA2 {w:Nat} {p0:List bH} {p1:bH} {o:(List bH)×Int×Bool} (h:aF) (m:EP w p0 p1=some o):
 aM prog 106 [.sl none 32 (map bC p0),.agg (bC p1)] h (λr h'=>r= .tup [.sl none 32 (map bC o.1),nZ o.2.1,.sc (.bool o.2.2)]/\h'=h):=by
 refine fQ 51 [.tmp 4,.tmp 5,.tmp 6] Tryz.func106 rfl rfl rfl rfl ?_
 unfold EP at m
 refine v (gZ rfl rfl λk2 K3=>v (vs (jS m (σ:=Int) (λs=>[(some k2,.obj 36 (bC p1))]) (λs=>.c 0 (.sl none 32 (map bC p0)) (.c 3 (.ptr k2 0) (.c 7 (nZ s) .nil))) (lx (.k3 .nil)) ?_ ?_)))
 rintro _ q0 x m
 replace m:tE w p0 p1 q0=some x:=m
 unfold tE at m
 refine vs (vs (fO m (σ:=Bool) (λs=>[(some k2,.obj 36 (bC p1))]) (λs=>.c 0 (.sl none 32 (map bC p0)) (.c 3 (.ptr k2 0) (.c 7 (nZ q0) (.c 20 (.sc (.bool s)) .nil)))) (λx m=> ?_) ?_))
 refine v (vq (by kernel_rfl) (cU sU rfl ?_))
 apply vi m<;>intro b0 m
 rw[b0]
 exact vx m yB rfl rfl λx0 _ m=>va (.agg (bC x0)) fA rfl rfl (vl 0 (.agg (bC p1)) fA rfl rfl rfl (vk aFZ aA1 m rfl rfl λ_ m=>fZ m))
 rw[b0]
 exact fZ m
 rintro _ j0 m
 refine v ?_
 apply vi m<;>intro c0 m
 exact v (v (v (hH m)))
 exact v (GT m)
 rintro _ r0 m
 refine vs (vs (fO m (σ:=Bool) (λs=>[(some k2,.obj 36 (bC p1))]) (λs=>.c 0 (.sl none 32 (map bC p0)) (.c 3 (.ptr k2 0) (.c 7 (nZ r0) (.c 34 (.sc (.bool s)) .nil)))) (λx m=> ?_) ?_))
 refine v (vq (by kernel_rfl) (cU sU rfl ?_))
 apply vi m<;>intro b1 m
 rw[b1]
 exact vx m yB rfl rfl λx1 _ m=>va (.agg (bC x1)) fA rfl rfl (vl 0 (.agg (bC p1)) fA rfl rfl rfl (bU (AY EI TR u5 EE rfl rfl) (fZ m)))
 rw[b1]
 exact fZ m
 rintro _ j1 m
 refine v ?_
 apply vi m<;>intro c1 m
 refine v (v ?_)
 cases m
 exact vr λu=>dW.of3 (.inl rfl) (gQ _ _ (.sl _ _ _) rfl) (gQ _ _ (.sc (.int _ _)) rfl) (gQ _ _ (.sc (.bool _)) rfl) (aU (nil_sublist _) u).1 (bD.refl _ _) (bD.refl _ _) (bD.refl _ _) ⟨rfl,rfl⟩
 refine v (v (v (vz [(1000000,some k2,.obj 36 (bC p1))] mixed (λu=>⟨λ_=>aO 0 u rfl,trivial⟩) λu=>zC 0 rfl (fJ (.sc (.slice _ _ _)) rfl) (zC 1 rfl (fJ (.sl _ _ _) rfl) (zI 2 rfl rfl ?_)))))
 obtain⟨_,X0,m⟩:=aD m
 refine zC 3 rfl (n3 X0 yB rfl rfl rfl rfl) (zL 5 0 (.agg (bC p1)) rfl fA rfl rfl rfl (zC 6 rfl (dX (map bC ([p1]:List bH)) CI rfl rfl rfl rfl) ?_))
 obtain⟨z0,Z0,m⟩:=aD m
 refine zE 4 rfl (oM (c:=bC) Z0 CI rfl rfl u nofun rfl λtg0 t0 K0=>⟨⟨λ_=>aO 1 K0 rfl,trivial⟩, ?_⟩)
 obtain⟨z1,Z1,m⟩:=aD m
 refine zE 7 rfl (fC (c:=bC) 0 Z1 CI rfl rfl rfl t0 K0 rfl λtg1 t1 K1=>⟨⟨λ_=>aO 1 K1 rfl,trivial⟩, ?_⟩)
 refine zC 8 rfl (iC (ow _ _ _) rfl) (zX (qk (f:=.c 8 _ (.c 44 _ (.c 41 _ (.c 43 _ (.c 42 _ (TP 40 _ _ _ _ _)))))) K1 rfl (v ?_)))
 obtain⟨_,X1,m⟩:=aD m
 refine bU (n3 X1 yB rfl rfl rfl rfl) ?_
 obtain⟨z2,Z2,m⟩:=aD m
 refine ve λu=>fC (c:=bC) 0 Z2 CI rfl rfl rfl t1 u rfl λtg2 t2 K2=>qk K2 rfl (v ?_)
 cases m
 exact vr λu=>dW.of3 (.inl rfl) (gQ _ _ (ow _ _ _) rfl) (gQ _ _ (.sc (.int _ _)) rfl) (gQ _ _ (.sc (.bool _)) rfl) (aU (nil_sublist _) u).1 ((dU _ 0 t2 u rfl)) (bD.refl _ _) (bD.refl _ _) ⟨rfl,rfl⟩
theorem T2:aP prog 106=true:=by kernel_rfl
def vI (m:Nat) (p0:bE) (q0:Int) (q1:List bH) (q2:Int):Option (Lp ((List bH)×Int) (Lp ((List bH)×Int) ((List bH)))):=
 (ix p0.Parts q0).bind λx0=>if decide (q2 < (x0.Ids.length:Int)) then ((ix p0.Parts q0).bind λx1=>(ix x1.Ids q2).bind λx2=>(EP m q1 x2).bind λy0=>Gk (y0.1,wrap .i64 (q2+1))) else Bk (q1,q2)
def vJ (m:Nat) (p0:bE) (q0:List bH) (q1:Int):Option (Lp ((List bH)×Int) ((List bH))):=
 if decide (q1 < (p0.Parts.length:Int)) then (after (aR (λs=>vI m p0 q1 s.1 s.2) m (q0,0)) λ⟨r0,r1⟩=>Gk (r0,wrap .i64 (q1+1))) else Bk (q0,q1)
def M49 (m:Nat) (p0:bE):Option ((List bH)):=
 after (aR (λs=>vJ m p0 s.1 s.2) m ([],0)) λ⟨r0,r1⟩=>some r0
theorem W49 {u:Nat} {p0:bE} {o:(List bH)} (h:aF) (m:M49 u p0=some o):
 aM prog 49 [.agg (bI p0)] h (λr h'=>r= .sl none 32 (map bC o)/\h'=h):=by
 refine fQ 40 [.tmp 2] Tryz.func49 rfl rfl rfl rfl ?_
 unfold M49 at m
 refine v (gZ rfl rfl λk2 K3=>v (v (jS m (σ:=(List bH)×Int) (λs=>[(some k2,.obj 58 (bI p0))]) (λs=>.c 1 (.ptr k2 0) (.c 3 (.sl none 32 (map bC s.1)) (.c 4 (nZ s.2) .nil))) (lx (.cons (bD.refl _ _) (.cons (a9 _) (.cons (bD.refl _ _) .nil)))) ?_ ?_)))
 rintro _ ⟨q0,q1⟩ x m
 replace m:vJ u p0 q0 q1=some x:=m
 unfold vJ at m
 refine v (vl 0 _ oO rfl rfl rfl (cU xX rfl (v ?_)))
 apply vi m<;>intro c0 m
 refine v (v (v (jS m (σ:=(List bH)×Int) (λs=>[(some k2,.obj 58 (bI p0))]) (λs=>.c 1 (.ptr k2 0) (.c 3 (.sl none 32 (map bC s.1)) (.c 4 (nZ q1) (.c 5 (nZ s.2) .nil)))) (lx (.k4 .nil)) ?_ ?_)))
 rintro _ ⟨q2,q3⟩ x m
 replace m:vI u p0 q1 q2 q3=some x:=m
 unfold vI at m
 refine v (vl 0 _ oO rfl rfl rfl (vx m qQ rfl rfl λ_ _ m=>cU sU rfl (v ?_)))
 apply vi m<;>intro c1 m
 exact v (v (v (vl 0 _ oO rfl rfl rfl (vx m qQ rfl rfl λ_ _ m=>vx m yB rfl rfl λx0 _ m=>va (.agg (bC x0)) fA rfl rfl (vk aA2 T2 m rfl rfl λ_ m=>v (fZ m))))))
 exact v (vB m)
 rintro _ ⟨r0,r1⟩ m
 exact v (hH m)
 exact v (GT m)
 rintro _ ⟨r2,r3⟩ m
 refine v (v ?_)
 obtain rfl:=eR m
 exact eH rfl
theorem aF0:aP prog 49=true:=by kernel_rfl
def oR (m:Nat) (p0:aA) (p1:bH) (q0:Int):Option (Lp (Int) (Int)):=
 if decide (q0 < (p0.Chunks.length:Int)) then ((ix p0.Chunks q0).bind λx0=>if decide (x0.Id=p1) then Rk q0 else Gk (wrap .i64 (q0+1))) else Bk q0
def LI (m:Nat) (p0:aA) (p1:bH):Option (Int):=
 after (aR (λs=>oR m p0 p1 s) m 0) λr0=>some (-1)
theorem W88 {u:Nat} {p0:aA} {p1:bH} {o:Int} (h:aF) (m:LI u p0 p1=some o):
 aM prog 88 [.agg (aC p0),.agg (bC p1)] h (λr h'=>r=nZ o/\h'=h):=by
 refine fQ 22 [.tmp 4] Tryz.func88 rfl rfl rfl rfl ?_
 unfold LI at m
 refine v (gZ rfl rfl λk2 K3=>gZ rfl rfl λk5 K6=>v (jS m (σ:=Int) (λs=>[(some k5,.obj 36 (bC p1)),(some k2,.obj 30 (aC p0))]) (λs=>.c 2 (.ptr k2 0) (.c 3 (.ptr k5 0) (.c 5 (nZ s) .nil))) (lx (.k3 .nil)) ?_ ?_))
 rintro _ q0 x m
 replace m:oR u p0 p1 q0=some x:=m
 unfold oR at m
 refine v (vl 1 _ fE rfl rfl rfl (cU lH rfl (v ?_)))
 apply vi m<;>intro c0 m
 refine v (v (v (vq (by kernel_rfl) (vl 1 _ fE rfl rfl rfl (vx m hX rfl rfl λx0 _ m=>va (.agg (bC x0.Id)) fA rfl rfl (vl 0 (.agg (bC p1)) fA rfl rfl rfl (bU (AY EI TR u5 EE rfl rfl) (v ?_))))))))
 apply vi m<;>intro c1 m
 refine v (v (fY m λm=> ?_))
 obtain rfl:=eR m
 exact eH rfl
 exact v (v (hH m))
 exact v (GT m)
 rintro _ r0 m
 refine v (v ?_)
 cases m
 exact eH rfl
theorem RM:aP prog 88=true:=by kernel_rfl
def oU (m:Nat) (p0:aA) (p1:ByteArray) (q0:Int):Option (Lp (Int) (Int)):=
 if decide (q0 < (p0.Snaps.length:Int)) then ((ix p0.Snaps q0).bind λx0=>if (x0.Man.Name.toList==p1.toList)then Rk q0 else Gk (wrap .i64 (q0+1))) else Bk q0
def yK (m:Nat) (p0:aA) (p1:ByteArray):Option (Int):=
 after (aR (λs=>oU m p0 p1 s) m 0) λr0=>some (-1)
theorem VV {u:Nat} {p0:aA} {p1:ByteArray} {o:Int} (h:aF) (m:yK u p0 p1=some o):
 aM prog 149 [.agg (aC p0),.sc (.string p1)] h (λr h'=>r=nZ o/\h'=h):=by
 refine fQ 23 [.tmp 4] Tryz.func149 rfl rfl rfl rfl ?_
 unfold yK at m
 refine v (gZ rfl rfl λk2 K3=>v (jS m (σ:=Int) (λs=>[(some k2,.obj 30 (aC p0))]) (λs=>.c 1 (.sc (.string p1)) (.c 2 (.ptr k2 0) (.c 5 (nZ s) .nil))) (lx (.k3 .nil)) ?_ ?_))
 rintro _ q0 x m
 replace m:oU u p0 p1 q0=some x:=m
 unfold oU at m
 refine v (vl 0 _ fD rfl rfl rfl (cU lA rfl (v ?_)))
 apply vi m<;>intro c0 m
 refine v (v (v (vl 0 _ fD rfl rfl rfl (vx m iW rfl rfl λ_ _ m=>bU (GC rfl rfl rfl trivial) (v ?_)))))
 apply vi m<;>intro c1 m
 refine v (v (fY m λm=> ?_))
 obtain rfl:=eR m
 exact eH rfl
 exact v (v (hH m))
 exact v (GT m)
 rintro _ r0 m
 refine v (v ?_)
 cases m
 exact eH rfl
theorem NI:aP prog 149=true:=by kernel_rfl
def rL (m:Nat) (p0:aA) (q0:Int):Option (Lp (Int) (Bool)):=
 if decide (q0 < (p0.Vols.length:Int)) then ((ix p0.Vols q0).bind λx0=>after ((ID m x0.Pool 0 1).bind λy0=>if (!y0)then Bk true else (ID m x0.Epoch 0 1048576).bind λy1=>Bk (!y1):Option (Lp (Bool) (Lp (Int) (Bool)))) λj0=>if j0 then Rk false else after (if (x0.State==1)then (Bk (x0.State==1)) else Bk (x0.State==3):Option (Lp (Bool) (Lp (Int) (Bool)))) λj1=>after (if j1 then (if (x0.Files !=0)then (Rk (.ret false)) else Bk ()) else if (x0.State==2)then ((ID m x0.Files 1 65535).bind λy2=>if (!y2)then (Rk (.ret false)) else Bk ()) else Rk (.ret false):Option (Lp (Unit) (Lp (Int) (Bool)))) λ_=>Gk (wrap .i64 (q0+1))) else Bk q0
def rM (m:Nat) (p0:aA) (q0:Int):Option (Lp (Int) (Bool)):=
 if decide (q0 < (p0.Chunks.length:Int)) then ((ix p0.Chunks q0).bind λx0=>after (if decide (0 < q0) then ((ix p0.Chunks (wrap .i64 (q0 - 1))).bind λx1=>(NG m x1.Id x0.Id).bind λy0=>if (!y0)then Bk true else (AD m p0 x0.Locs).bind λy1=>if (!y1)then Bk true else if x0.Staged then ((ID m (x0.Data.length:Int) 1 64).bind λy2=>if (!y2)then Bk true else if (!x0.Staged)then (if decide (0 < (x0.Data.length:Int)) then Bk true else Bk ((x0.Locs.length:Int)==0)) else Bk false) else if (!x0.Staged)then (if decide (0 < (x0.Data.length:Int)) then Bk true else Bk ((x0.Locs.length:Int)==0)) else Bk false) else (AD m p0 x0.Locs).bind λy3=>if (!y3)then Bk true else if x0.Staged then ((ID m (x0.Data.length:Int) 1 64).bind λy4=>if (!y4)then Bk true else if (!x0.Staged)then (if decide (0 < (x0.Data.length:Int)) then Bk true else Bk ((x0.Locs.length:Int)==0)) else Bk false) else if (!x0.Staged)then (if decide (0 < (x0.Data.length:Int)) then Bk true else Bk ((x0.Locs.length:Int)==0)) else Bk false:Option (Lp (Bool) (Lp (Int) (Bool)))) λj0=>if j0 then Rk false else Gk (wrap .i64 (q0+1))) else Bk q0
def vK (m:Nat) (p0:aA) (y0:(List bH)) (q0:Int):Option (Lp (Int) (Lp (Int) (Bool))):=
 if decide (q0 < (y0.length:Int)) then ((ix y0 q0).bind λx0=>(LI m p0 x0).bind λy1=>if decide (y1 < 0) then (Rk (.ret false)) else Gk (wrap .i64 (q0+1))) else Bk q0
def vL (m:Nat) (p0:aA) (x0:aH) (q0:Int):Option (Lp (Int) (Lp (Int) (Bool))):=
 if decide (q0 < (p0.Exps.length:Int)) then ((ix p0.Exps q0).bind λx1=>if (x1.Of==x0.Seq)then (Rk (.ret false)) else Gk (wrap .i64 (q0+1))) else Bk q0
def rN (m:Nat) (p0:aA) (q0:Int):Option (Lp (Int) (Bool)):=
 if decide (q0 < (p0.Snaps.length:Int)) then ((ix p0.Snaps q0).bind λx0=>after (if decide (x0.Seq < 0) then Bk true else if decide (p0.Seq<=x0.Seq) then Bk true else if decide (0 < q0) then ((ix p0.Snaps (wrap .i64 (q0 - 1))).bind λx1=>if decide (x0.Seq<=x1.Seq) then Bk true else (YG m x0.Man).bind λy0=>if (!y0)then Bk true else (AD m p0 x0.Locs).bind λy1=>if (!y1)then Bk true else (yK m p0 x0.Man.Name).bind λy2=>Bk (y2 !=q0)) else (YG m x0.Man).bind λy3=>if (!y3)then Bk true else (AD m p0 x0.Locs).bind λy4=>if (!y4)then Bk true else (yK m p0 x0.Man.Name).bind λy5=>Bk (y5 !=q0):Option (Lp (Bool) (Lp (Int) (Bool)))) λj0=>if j0 then Rk false else (M49 m x0.Man).bind λy6=>after (aR (λs=>vK m p0 y6 s) m 0) λr0=>after (aR (λs=>vL m p0 x0 s) m 0) λr1=>Gk (wrap .i64 (q0+1))) else Bk q0
def oW (m:Nat) (p0:aA) (q0:Int):Option (Lp (Int) (Bool)):=
 if decide (q0 < (p0.Exps.length:Int)) then ((ix p0.Exps q0).bind λx0=>after (if decide (x0.Seq < 0) then Bk true else if decide (p0.Seq<=x0.Seq) then Bk true else if decide (0 < q0) then ((ix p0.Exps (wrap .i64 (q0 - 1))).bind λx1=>if decide (x0.Seq<=x1.Seq) then Bk true else if decide (x0.Of < 0) then Bk true else if decide (x0.Seq<=x0.Of) then Bk true else (AD m p0 x0.Locs).bind λy0=>if (!y0)then Bk true else Bk ((x0.Locs.length:Int)==0)) else if decide (x0.Of < 0) then Bk true else if decide (x0.Seq<=x0.Of) then Bk true else (AD m p0 x0.Locs).bind λy1=>if (!y1)then Bk true else Bk ((x0.Locs.length:Int)==0):Option (Lp (Bool) (Lp (Int) (Bool)))) λj0=>if j0 then Rk false else Gk (wrap .i64 (q0+1))) else Bk q0
def VW (m:Nat) (p0:aA):Option (Bool):=
 after ((ID m p0.Seq 0 1073741824).bind λy0=>if (!y0)then Bk true else if decide (8 < (p0.Snaps.length:Int)) then Bk true else if decide (200 < (p0.Chunks.length:Int)) then Bk true else if decide (200 < (p0.Exps.length:Int)) then Bk true else (ID m (p0.Vols.length:Int) 1 8).bind λy1=>Bk (!y1):Option (Lp (Bool) (Bool))) λj0=>if j0 then (some false) else after (aR (λs=>rL m p0 s) m 0) λr0=>after (aR (λs=>rM m p0 s) m 0) λr1=>after (aR (λs=>rN m p0 s) m 0) λr2=>after (aR (λs=>oW m p0 s) m 0) λr3=>some true
theorem W89 {w:Nat} {p0:aA} {o:Bool} (h:aF) (m:VW w p0=some o):
 aM prog 89 [.agg (aC p0)] h (λr h'=>r= .sc (.bool o)/\h'=h):=by
 refine fQ 296 [.tmp 2] Tryz.func89 rfl rfl rfl rfl ?_
 unfold VW at m
 refine v (gZ rfl rfl λk2 K3=>vs (vs (fO m (σ:=Bool) (λs=>[(some k2,.obj 30 (aC p0))]) (λs=>.c 1 (.ptr k2 0) (.c 42 (.sc (.bool s)) .nil)) (λx m=> ?_) ?_)))
 refine v (vl 0 _ cB rfl rfl rfl (vk QF AC m rfl rfl λ_ m=> ?_))
 apply vi m<;>intro b0 m
 rw[b0]
 exact wQ m
 rw[b0]
 refine vl 0 _ fD rfl rfl rfl (cU lA rfl ?_)
 apply vi m<;>intro b1 m
 rw[b1]
 exact wQ m
 rw[b1]
 refine vl 0 _ fE rfl rfl rfl (cU lH rfl ?_)
 apply vi m<;>intro b2 m
 rw[b2]
 exact wQ m
 rw[b2]
 refine vl 0 _ iL rfl rfl rfl (cU pT rfl ?_)
 apply vi m<;>intro b3 m
 rw[b3]
 exact wQ m
 rw[b3]
 exact vl 0 _ i9 rfl rfl rfl (cU rF rfl (vk QF AC m rfl rfl λ_ m=>wQ m))
 rintro _ j0 m
 refine v ?_
 apply vi m<;>intro c0 m
 refine v (v ?_)
 obtain rfl:=eR m
 exact eH rfl
 refine v (v (jS m (σ:=Int) (λs=>[(some k2,.obj 30 (aC p0))]) (λs=>.c 1 (.ptr k2 0) (.c 3 (nZ s) .nil)) (lx (.k2 .nil)) ?_ ?_))
 rintro _ q0 x m
 replace m:rL w p0 q0=some x:=m
 unfold rL at m
 refine v (vl 0 _ i9 rfl rfl rfl (cU rF rfl (v ?_)))
 apply vi m<;>intro c1 m
 refine v (v (v (vl 0 _ i9 rfl rfl rfl (vx m nA rfl rfl λx0 _ m=>va (.agg (dH x0)) Z6 rfl rfl (ve λu=>bG (JO) u RD rfl rfl λk156 K0=>qk K0 rfl (ve λu=>aL 0 (dH x0) u rfl rfl rfl rfl Z7 rfl rfl λK1=>qk K1 rfl (vs (vs (fO m (σ:=Bool) (λs=>[(some k156,.obj 49 (dH x0)),(some k2,.obj 30 (aC p0))]) (λs=>.c 1 (.ptr k2 0) (.c 3 (nZ q0) (.c 4 (.ptr k156 0) (.c 64 (.sc (.bool s)) .nil)))) (λx m=> ?_) ?_)))))))))
 refine v (vl 0 _ cB rfl rfl rfl (vk QF AC m rfl rfl λ_ m=> ?_))
 apply vi m<;>intro b4 m
 rw[b4]
 exact fZ m
 rw[b4]
 exact vl 0 _ cB rfl rfl rfl (vk QF AC m rfl rfl λ_ m=>fZ m)
 rintro _ j1 m
 refine v ?_
 apply vi m<;>intro c2 m
 refine v (v (fY m λm=> ?_))
 obtain rfl:=eR m
 exact eH rfl
 refine v (v (vl 0 _ cB rfl rfl rfl (v (v (fO m (σ:=Bool) (λs=>[(some k156,.obj 49 (dH x0)),(some k2,.obj 30 (aC p0))]) (λs=>.c 1 (.ptr k2 0) (.c 3 (nZ q0) (.c 4 (.ptr k156 0) (.c 66 (nZ x0.State) (.c 67 (.sc (.bool s)) .nil))))) (λx m=> ?_) ?_)))))
 refine v ?_
 apply vi m<;>intro c3 m
 exact v (kN m)
 exact v (kN m)
 rintro _ j2 m
 refine fO m (σ:=Unit) (λs=>[(some k156,.obj 49 (dH x0)),(some k2,.obj 30 (aC p0))]) (λs=>.c 1 (.ptr k2 0) (.c 3 (nZ q0) .nil)) (λx m=> ?_) ?_
 refine v ?_
 apply vi m<;>intro c4 m
 refine v (vl 0 _ cB rfl rfl rfl (v ?_))
 apply vi m<;>intro c5 m
 refine v (v (fY m λm=>fY m λm=> ?_))
 obtain rfl:=eR m
 exact eH rfl
 exact v (wQ m)
 refine v (v ?_)
 apply vi m<;>intro c6 m
 refine v (vl 0 _ cB rfl rfl rfl (vk QF AC m rfl rfl λ_ m=>v ?_))
 apply vi m<;>intro c7 m
 refine v (v (fY m λm=>fY m λm=> ?_))
 obtain rfl:=eR m
 exact eH rfl
 exact v (wQ m)
 refine v (v (fY m λm=>fY m λm=> ?_))
 obtain rfl:=eR m
 exact eH rfl
 rintro _ _ m
 exact v (zU m (mK [1] rfl rfl (.k2 .nil)))
 exact v (LH m)
 rintro _ r0 m
 refine v (jS m (σ:=Int) (λs=>[(some k2,.obj 30 (aC p0))]) (λs=>.c 1 (.ptr k2 0) (.c 5 (nZ s) .nil)) (lx (.k2 .nil)) ?_ ?_)
 rintro _ q1 x m
 replace m:rM w p0 q1=some x:=m
 unfold rM at m
 refine v (vl 0 _ fE rfl rfl rfl (cU lH rfl (v ?_)))
 apply vi m<;>intro c8 m
 refine v (v (v (vl 0 _ fE rfl rfl rfl (vx m hX rfl rfl λx1 _ m=>va (.agg (aK x1)) pH rfl rfl (ve λu=>bG (bC gY++(TE:List AV)) u qP rfl rfl λk364 K2=>qk K2 rfl (ve λu=>aL 0 (aK x1) u rfl rfl rfl rfl EK rfl rfl λK4=>qk K4 rfl (vs (fO m (σ:=Bool) (λs=>[(some k364,.obj 44 (aK x1)),(some k2,.obj 30 (aC p0))]) (λs=>.c 1 (.ptr k2 0) (.c 5 (nZ q1) (.c 140 (.sc (.bool s)) .nil))) (λx m=> ?_) ?_))))))))
 refine v (vq (by kernel_rfl) ?_)
 apply vi m<;>intro b5 m
 rw[b5]
 refine vl 1 _ fE rfl rfl rfl (vx m hX rfl rfl λx2 _ m=>va (.agg (bC x2.Id)) fA rfl rfl (vl 0 (.agg (bC x1.Id)) fA rfl rfl rfl (vk aAZ T1 m rfl rfl λ_ m=> ?_)))
 apply vi m<;>intro b6 m
 rw[b6]
 exact hH m
 rw[b6]
 refine vl 1 (.agg (aC p0)) dC rfl rfl rfl (vl 0 _ fW rfl rfl rfl (vk KC A7 m rfl rfl λ_ m=> ?_))
 apply vi m<;>intro b7 m
 rw[b7]
 exact hH m
 rw[b7]
 refine vl 0 _ GV rfl rfl rfl ?_
 apply vi m<;>intro b8 m
 rw[b8]
 refine vl 0 _ n6 rfl rfl rfl (cU nR rfl (vk QF AC m rfl rfl λ_ m=> ?_))
 apply vi m<;>intro b9 m
 rw[b9]
 exact hH m
 rw[b9]
 refine vl 0 _ GV rfl rfl rfl ?_
 apply vi m<;>intro b10 m
 rw[b10]
 refine vl 0 _ n6 rfl rfl rfl (cU nR rfl ?_)
 apply vi m<;>intro b11 m
 rw[b11]
 exact hH m
 rw[b11]
 exact vl 0 _ fW rfl rfl rfl (cU kB rfl (hH m))
 rw[b10]
 exact hH m
 rw[b8]
 refine vl 0 _ GV rfl rfl rfl ?_
 apply vi m<;>intro b12 m
 rw[b12]
 refine vl 0 _ n6 rfl rfl rfl (cU nR rfl ?_)
 apply vi m<;>intro b13 m
 rw[b13]
 exact hH m
 rw[b13]
 exact vl 0 _ fW rfl rfl rfl (cU kB rfl (hH m))
 rw[b12]
 exact hH m
 rw[b5]
 refine vl 1 (.agg (aC p0)) dC rfl rfl rfl (vl 0 _ fW rfl rfl rfl (vk KC A7 m rfl rfl λ_ m=> ?_))
 apply vi m<;>intro b14 m
 rw[b14]
 exact hH m
 rw[b14]
 refine vl 0 _ GV rfl rfl rfl ?_
 apply vi m<;>intro b15 m
 rw[b15]
 refine vl 0 _ n6 rfl rfl rfl (cU nR rfl (vk QF AC m rfl rfl λ_ m=> ?_))
 apply vi m<;>intro b16 m
 rw[b16]
 exact hH m
 rw[b16]
 refine vl 0 _ GV rfl rfl rfl ?_
 apply vi m<;>intro b17 m
 rw[b17]
 refine vl 0 _ n6 rfl rfl rfl (cU nR rfl ?_)
 apply vi m<;>intro b22 m
 rw[b22]
 exact hH m
 rw[b22]
 exact vl 0 _ fW rfl rfl rfl (cU kB rfl (hH m))
 rw[b17]
 exact hH m
 rw[b15]
 refine vl 0 _ GV rfl rfl rfl ?_
 apply vi m<;>intro b23 m
 rw[b23]
 refine vl 0 _ n6 rfl rfl rfl (cU nR rfl ?_)
 apply vi m<;>intro b24 m
 rw[b24]
 exact hH m
 rw[b24]
 exact vl 0 _ fW rfl rfl rfl (cU kB rfl (hH m))
 rw[b23]
 exact hH m
 rintro _ j3 m
 refine v ?_
 apply vi m<;>intro c9 m
 refine v (v (fY m λm=> ?_))
 obtain rfl:=eR m
 exact eH rfl
 exact v (v (zU m (mK [1] rfl rfl (.k2 .nil))))
 exact v (LH m)
 rintro _ r1 m
 refine v (jS m (σ:=Int) (λs=>[(some k2,.obj 30 (aC p0))]) (λs=>.c 1 (.ptr k2 0) (.c 7 (nZ s) .nil)) (lx (.k2 .nil)) ?_ ?_)
 rintro _ q2 x m
 replace m:rN w p0 q2=some x:=m
 unfold rN at m
 refine v (vl 0 _ fD rfl rfl rfl (cU lA rfl (v ?_)))
 apply vi m<;>intro c10 m
 refine v (v (v (vl 0 _ fD rfl rfl rfl (vx m iW rfl rfl λx3 _ m=>va (.agg (bJ x3)) sR rfl rfl (ve λu=>bG (XZ) u xZ rfl rfl λk707 K5=>qk K5 rfl (ve λu=>aL 0 (bJ x3) u rfl rfl rfl rfl GZ rfl rfl λK6=>qk K6 rfl (vs (vs (fO m (σ:=Bool) (λs=>[(some k707,.obj 60 (bJ x3)),(some k2,.obj 30 (aC p0))]) (λs=>.c 1 (.ptr k2 0) (.c 7 (nZ q2) (.c 8 (.ptr k707 0) (.c 200 (.sc (.bool s)) .nil)))) (λx m=> ?_) ?_)))))))))
 refine v (vq (by kernel_rfl) (vl 0 _ cB rfl rfl rfl ?_))
 apply vi m<;>intro b25 m
 rw[b25]
 exact fZ m
 rw[b25]
 refine vl 0 _ cB rfl rfl rfl (vl 1 _ cB rfl rfl rfl ?_)
 apply vi m<;>intro b26 m
 rw[b26]
 exact fZ m
 rw[b26]
 apply vi m<;>intro b27 m
 rw[b27]
 refine vl 0 _ cB rfl rfl rfl (vl 1 _ fD rfl rfl rfl (vx m iW rfl rfl λ_ _ m=> ?_))
 apply vi m<;>intro b28 m
 rw[b28]
 exact fZ m
 rw[b28]
 refine vl 0 (.agg (bI x3.Man)) pW rfl rfl rfl (vk W98 aA0 m rfl rfl λ_ m=> ?_)
 apply vi m<;>intro b29 m
 rw[b29]
 exact fZ m
 rw[b29]
 refine vl 1 (.agg (aC p0)) dC rfl rfl rfl (vl 0 _ fW rfl rfl rfl (vk KC A7 m rfl rfl λ_ m=> ?_))
 apply vi m<;>intro b30 m
 rw[b30]
 exact fZ m
 rw[b30]
 exact vl 1 (.agg (aC p0)) dC rfl rfl rfl (vl 0 _ IC rfl rfl rfl (vk VV NI m rfl rfl λ_ m=>fZ m))
 rw[b27]
 refine vl 0 (.agg (bI x3.Man)) pW rfl rfl rfl (vk W98 aA0 m rfl rfl λ_ m=> ?_)
 apply vi m<;>intro b31 m
 rw[b31]
 exact fZ m
 rw[b31]
 refine vl 1 (.agg (aC p0)) dC rfl rfl rfl (vl 0 _ fW rfl rfl rfl (vk KC A7 m rfl rfl λ_ m=> ?_))
 apply vi m<;>intro b32 m
 rw[b32]
 exact fZ m
 rw[b32]
 exact vl 1 (.agg (aC p0)) dC rfl rfl rfl (vl 0 _ IC rfl rfl rfl (vk VV NI m rfl rfl λ_ m=>fZ m))
 rintro _ j4 m
 refine v ?_
 apply vi m<;>intro c11 m
 refine v (v (fY m λm=> ?_))
 obtain rfl:=eR m
 exact eH rfl
 refine v (v (vl 0 (.agg (bI x3.Man)) pW rfl rfl rfl (vk W49 aF0 m rfl rfl λy0 m=>v (jS m (σ:=Int) (λs=>[(some k707,.obj 60 (bJ x3)),(some k2,.obj 30 (aC p0))]) (λs=>.c 1 (.ptr k2 0) (.c 7 (nZ q2) (.c 8 (.ptr k707 0) (.c 9 (.sl none 32 (map bC y0)) (.c 10 (nZ s) .nil))))) (lx (.k5 .nil)) ?_ ?_))))
 rintro _ q3 x m
 replace m:vK w p0 y0 q3=some x:=m
 unfold vK at m
 refine v (cU sU rfl (v ?_))
 apply vi m<;>intro c12 m
 refine v (v (v (vq (by kernel_rfl) (vl 1 (.agg (aC p0)) dC rfl rfl rfl (vx m yB rfl rfl λx4 _ m=>va (.agg (bC x4)) fA rfl rfl (vk W88 RM m rfl rfl λ_ m=>v ?_))))))
 apply vi m<;>intro c13 m
 refine v (v (fY m λm=>fY m λm=> ?_))
 obtain rfl:=eR m
 exact eH rfl
 exact v (v (kN m))
 exact v (YE m)
 rintro _ r2 m
 refine v (jS m (σ:=Int) (λs=>[(some k707,.obj 60 (bJ x3)),(some k2,.obj 30 (aC p0))]) (λs=>.c 1 (.ptr k2 0) (.c 7 (nZ q2) (.c 8 (.ptr k707 0) (.c 11 (nZ s) .nil)))) (lx (.k4 .nil)) ?_ ?_)
 rintro _ q4 x m
 replace m:vL w p0 x3 q4=some x:=m
 unfold vL at m
 refine v (vl 1 _ iL rfl rfl rfl (cU pT rfl (v ?_)))
 apply vi m<;>intro c14 m
 refine v (v (v (vq (by kernel_rfl) (vl 1 _ iL rfl rfl rfl (vx m iX rfl rfl λ_ _ m=>vl 0 _ cB rfl rfl rfl (v ?_))))))
 apply vi m<;>intro c15 m
 refine v (v (fY m λm=>fY m λm=> ?_))
 obtain rfl:=eR m
 exact eH rfl
 exact v (v (fZ m))
 exact v (vB m)
 rintro _ r3 m
 exact v (zU m (mK [1] rfl rfl (.k2 .nil)))
 exact v (LH m)
 rintro _ r4 m
 refine v (jS m (σ:=Int) (λs=>[(some k2,.obj 30 (aC p0))]) (λs=>.c 1 (.ptr k2 0) (.c 12 (nZ s) .nil)) (lx (.k2 .nil)) ?_ ?_)
 rintro _ q5 x m
 replace m:oW w p0 q5=some x:=m
 unfold oW at m
 refine v (vl 0 _ iL rfl rfl rfl (cU pT rfl (v ?_)))
 apply vi m<;>intro c16 m
 refine v (v (v (vl 0 _ iL rfl rfl rfl (vx m iX rfl rfl λx5 _ m=>va (.agg (cH x5)) z9 rfl rfl (ve λu=>bG ([nZ 0,nZ 0,sZ]) u sV rfl rfl λk941 K7=>qk K7 rfl (ve λu=>aL 0 (cH x5) u rfl rfl rfl rfl J7 rfl rfl λK8=>qk K8 rfl (vs (fO m (σ:=Bool) (λs=>[(some k941,.obj 99 (cH x5)),(some k2,.obj 30 (aC p0))]) (λs=>.c 1 (.ptr k2 0) (.c 12 (nZ q5) (.c 295 (.sc (.bool s)) .nil))) (λx m=> ?_) ?_))))))))
 refine v (vq (by kernel_rfl) (vl 0 _ cB rfl rfl rfl ?_))
 apply vi m<;>intro b33 m
 rw[b33]
 exact hH m
 rw[b33]
 refine vl 0 _ cB rfl rfl rfl (vl 1 _ cB rfl rfl rfl ?_)
 apply vi m<;>intro b34 m
 rw[b34]
 exact hH m
 rw[b34]
 apply vi m<;>intro b35 m
 rw[b35]
 refine vl 0 _ cB rfl rfl rfl (vl 1 _ iL rfl rfl rfl (vx m iX rfl rfl λ_ _ m=> ?_))
 apply vi m<;>intro b36 m
 rw[b36]
 exact hH m
 rw[b36]
 refine vl 0 _ cB rfl rfl rfl ?_
 apply vi m<;>intro b37 m
 rw[b37]
 exact hH m
 rw[b37]
 refine vl 0 _ cB rfl rfl rfl (vl 0 _ cB rfl rfl rfl ?_)
 apply vi m<;>intro b38 m
 rw[b38]
 exact hH m
 rw[b38]
 refine vl 1 (.agg (aC p0)) dC rfl rfl rfl (vl 0 _ fW rfl rfl rfl (vk KC A7 m rfl rfl λ_ m=> ?_))
 apply vi m<;>intro b39 m
 rw[b39]
 exact hH m
 rw[b39]
 exact vl 0 _ fW rfl rfl rfl (cU kB rfl (hH m))
 rw[b35]
 refine vl 0 _ cB rfl rfl rfl ?_
 apply vi m<;>intro b40 m
 rw[b40]
 exact hH m
 rw[b40]
 refine vl 0 _ cB rfl rfl rfl (vl 0 _ cB rfl rfl rfl ?_)
 apply vi m<;>intro b41 m
 rw[b41]
 exact hH m
 rw[b41]
 refine vl 1 (.agg (aC p0)) dC rfl rfl rfl (vl 0 _ fW rfl rfl rfl (vk KC A7 m rfl rfl λ_ m=> ?_))
 apply vi m<;>intro b42 m
 rw[b42]
 exact hH m
 rw[b42]
 exact vl 0 _ fW rfl rfl rfl (cU kB rfl (hH m))
 rintro _ j5 m
 refine v ?_
 apply vi m<;>intro c17 m
 refine v (v (fY m λm=> ?_))
 obtain rfl:=eR m
 exact eH rfl
 exact v (v (zU m (mK [1] rfl rfl (.k2 .nil))))
 exact v (LH m)
 rintro _ r5 m
 refine v (v ?_)
 obtain rfl:=eR m
 exact eH rfl
theorem aA4:aP prog 89=true:=by kernel_rfl
def tF (m:Nat) (p0:List cT) (p1:cT->Option Bool) (q0:Int):Option (Lp (Int) (Int)):=
 if decide (q0 < (p0.length:Int)) then ((ix p0 q0).bind λx0=>(p1 x0).bind λy0=>if y0 then Rk q0 else Gk (wrap .i64 (q0+1))) else Bk q0
def RN (m:Nat) (p0:List cT) (p1:cT->Option Bool):Option (Int):=
 after (aR (λs=>tF m p0 p1 s) m 0) λr0=>some (-1)
theorem aF1 {w:Nat} {p0:List cT} {p1:cT->Option Bool} {o:Int} (h:aF) {p1F:Nat} {p1C:List AV} (p1B:aP prog p1F=true) (p1H:∀x0 o h0,iJ h h0->p1 x0=some o->aM prog p1F ([.agg (bX x0)]++p1C) h0 (λr h'=>r= .sc (.bool o)/\h'=h0)) (m:RN w p0 p1=some o):
 aM prog 109 [.sl none 3 (map bX p0),.fn (.func p1F) p1C] h (λr h'=>r=nZ o/\h'=h):=by
 refine fQ 19 [.tmp 4] Tryz.func109 rfl rfl rfl rfl ?_
 unfold RN at m
 refine v (v (cU xX rfl (jS m (σ:=Int) (λs=>[]) (λs=>.c 0 (.sl none 3 (map bX p0)) (.c 1 (.fn (.func p1F) p1C) (.c 7 (nZ (p0.length:Int)) (.c 8 (nZ s) .nil)))) (lx (.k4 .nil)) ?_ ?_)))
 rintro _ q0 x m
 replace m:tF w p0 p1 q0=some x:=m
 unfold tF at m
 refine v (v ?_)
 apply vi m<;>intro c0 m
 refine v (v (v (v (vx m qQ rfl rfl λx1 _ m=>va (.agg (bX x1)) EL rfl rfl ?_))))
 obtain⟨_,Y0,m⟩:=aD m
 refine vn (λu=>bV (p1H _ _ _ (aU (nil_sublist _) u).1 Y0) rfl p1B rfl) (v ?_)
 apply vi m<;>intro c1 m
 refine v (v (fY m λm=> ?_))
 obtain rfl:=eR m
 exact eH rfl
 exact v (v (fZ m))
 exact v (vB m)
 rintro _ r0 m
 refine v (v ?_)
 cases m
 exact eH rfl
theorem aA5:aP prog 109=true:=by kernel_rfl
def M60 (m:Nat) (p0:List cT) (p1:cT->Option Bool):Option (Bool):=
 (RN m p0 p1).bind λy3=>some (decide (0<=y3))
theorem W60 {w:Nat} {p0:List cT} {p1:cT->Option Bool} {o:Bool} (h:aF) {p1F:Nat} {p1C:List AV} (p1B:aP prog p1F=true) (p1H:∀x0 o h0,iJ h h0->p1 x0=some o->aM prog p1F ([.agg (bX x0)]++p1C) h0 (λr h'=>r= .sc (.bool o)/\h'=h0)) (m:M60 w p0 p1=some o):
 aM prog 60 [.sl none 3 (map bX p0),.fn (.func p1F) p1C] h (λr h'=>r= .sc (.bool o)/\h'=h):=by
 refine fQ 9 [.tmp 4] Tryz.func60 rfl rfl rfl rfl ?_
 unfold M60 at m
 refine v (v ?_)
 obtain⟨_,Y4,m⟩:=aD m
 refine vn (λu=>bV (aF1 _ p1B (λx0 o h0 hs ho=>p1H x0 o h0 ((aU (nil_sublist _) u).1.trans hs) ho) Y4) rfl aA5 rfl) (v ?_)
 cases m
 exact eH rfl
theorem aF2:aP prog 60=true:=by kernel_rfl
def tG (m:Nat) (p0:List bH) (p1:bH) (q0:Int):Option (Lp (Int) (Int)):=
 if decide (q0 < (p0.length:Int)) then ((ix p0 q0).bind λx0=>if decide (p1=x0) then Rk q0 else Gk (wrap .i64 (q0+1))) else Bk q0
def RO (m:Nat) (p0:List bH) (p1:bH):Option (Int):=
 after (aR (λs=>tG m p0 p1 s) m 0) λr0=>some (-1)
theorem aF3 {u:Nat} {p0:List bH} {p1:bH} {o:Int} (h:aF) (m:RO u p0 p1=some o):
 aM prog 110 [.sl none 32 (map bC p0),.agg (bC p1)] h (λr h'=>r=nZ o/\h'=h):=by
 refine fQ 19 [.tmp 4] Tryz.func110 rfl rfl rfl rfl ?_
 unfold RO at m
 refine v (gZ rfl rfl λk2 K3=>v (cU sU rfl (jS m (σ:=Int) (λs=>[(some k2,.obj 36 (bC p1))]) (λs=>.c 0 (.sl none 32 (map bC p0)) (.c 3 (.ptr k2 0) (.c 7 (nZ (p0.length:Int)) (.c 8 (nZ s) .nil)))) (lx (.k4 .nil)) ?_ ?_)))
 rintro _ q0 x m
 replace m:tG u p0 p1 q0=some x:=m
 unfold tG at m
 refine v (v ?_)
 apply vi m<;>intro c0 m
 refine v (v (v (v (vq (by kernel_rfl) (vl 0 (.agg (bC p1)) fA rfl rfl rfl (vx m yB rfl rfl λx0 _ m=>va (.agg (bC x0)) fA rfl rfl (bU (AY EI TR u5 EE rfl rfl) (v ?_))))))))
 apply vi m<;>intro c1 m
 refine v (v (fY m λm=> ?_))
 obtain rfl:=eR m
 exact eH rfl
 exact v (v (fZ m))
 exact v (vB m)
 rintro _ r0 m
 refine v (v ?_)
 cases m
 exact eH rfl
theorem aA7:aP prog 110=true:=by kernel_rfl
def M62 (m:Nat) (p0:List bH) (p1:bH):Option (Bool):=
 (RO m p0 p1).bind λy6=>some (decide (0<=y6))
theorem W62 {u:Nat} {p0:List bH} {p1:bH} {o:Bool} (h:aF) (m:M62 u p0 p1=some o):
 aM prog 62 [.sl none 32 (map bC p0),.agg (bC p1)] h (λr h'=>r= .sc (.bool o)/\h'=h):=by
 refine fQ 9 [.tmp 4] Tryz.func62 rfl rfl rfl rfl ?_
 unfold M62 at m
 refine v (gZ rfl rfl λk2 K3=>v (vl 0 (.agg (bC p1)) fA rfl rfl rfl (vk aF3 aA7 m rfl rfl λ_ m=>v ?_)))
 cases m
 exact eH rfl
theorem aF4:aP prog 62=true:=by kernel_rfl
def M61 (m:Nat) (p0:cT) (c0:bH):Option (Bool):=
 (M62 m p0.Ids c0).bind λy6=>some y6
theorem W61 {w:Nat} {p0:cT} {c0:bH} {o:Bool} (h:aF) {c0K:bT} (c0H:h c0K=some (.obj 36 (bC c0))) (m:M61 w p0 c0=some o):
 aM prog 61 [.agg (bX p0),.ptr c0K 0] h (λr h'=>r= .sc (.bool o)/\h'=h):=by
 refine fQ 8 [.tmp 3] Tryz.func61 rfl rfl rfl rfl ?_
 unfold M61 at m
 refine v (gZ rfl rfl λk2 K3=>v (vl 0 _ yC rfl rfl rfl (vn (λu=>gO (.agg (bC c0)) fA rfl (gP u c0H) rfl) (vk W62 aF4 m rfl rfl λ_ m=>v ?_))))
 obtain rfl:=eR m
 exact eH rfl
theorem aF5:aP prog 61=true:=by kernel_rfl
def M59 (m:Nat) (p0:aH) (c0:bH):Option (Bool):=
 (M60 m p0.Man.Parts (λx0=>M61 m x0 c0)).bind λy6=>some y6
theorem W59 {w:Nat} {p0:aH} {c0:bH} {o:Bool} (h:aF) {c0K:bT} (c0H:h c0K=some (.obj 36 (bC c0))) (m:M59 w p0 c0=some o):
 aM prog 59 [.agg (bJ p0),.ptr c0K 0] h (λr h'=>r= .sc (.bool o)/\h'=h):=by
 refine fQ 9 [.tmp 3] Tryz.func59 rfl rfl rfl rfl ?_
 unfold M59 at m
 refine v (gZ rfl rfl λk2 K3=>v (vl 0 _ oO rfl rfl rfl ?_))
 obtain⟨_,Y7,m⟩:=aD m
 refine vn (λu=>bV (W60 _ aF5 (λ_ o h0 hs ho=>W61 _ (hs _ _ (gP u c0H)) ho) Y7) rfl aF2 rfl) (v ?_)
 obtain rfl:=eR m
 exact eH rfl
theorem aF6:aP prog 59=true:=by kernel_rfl
def VX (m:Nat) (p0:aA) (p1:bH):Option (Bool):=
 (VT m p0.Snaps (λx0=>M59 m x0 p1)).bind λy9=>some y9
theorem W22 {w:Nat} {p0:aA} {p1:bH} {o:Bool} (h:aF) (m:VX w p0 p1=some o):
 aM prog 22 [.agg (aC p0),.agg (bC p1)] h (λr h'=>r= .sc (.bool o)/\h'=h):=by
 refine fQ 9 [.tmp 4] Tryz.func22 rfl rfl rfl rfl ?_
 unfold VX at m
 refine v (gZ rfl rfl λk2 K3=>gZ rfl rfl λk5 K6=>v (vl 1 _ fD rfl rfl rfl ?_))
 obtain⟨_,Y0,m⟩:=aD m
 refine vn (λu=>bV (W58 _ aF6 (λ_ o h0 hs ho=>W59 _ (hs _ _ (aW 0 u rfl)) ho) Y0) rfl aAP rfl) (v ?_)
 obtain rfl:=eR m
 exact eH rfl
theorem VY:aP prog 22=true:=by kernel_rfl
def yL (m:Nat) (p0:aA) (p1:(List aS)->Bool->Option Bool) (q0:List aE) (q1:Int):Option (Lp ((List aE)×Int) ((List aE))):=
 if decide (q1 < (p0.Chunks.length:Int)) then ((ix p0.Chunks q1).bind λx0=>(VX m p0 x0.Id).bind λy0=>(p1 x0.Locs y0).bind λy1=>after (if y1 then ((app q0 ([({ Kind:=1,Id:=x0.Id,Seq:=0,Of:=0,Off:=0,Len:=0}:aE)]:List aE)).bind λz0=>Bk z0) else Bk q0:Option (Lp ((List aE)) (Lp ((List aE)×Int) ((List aE))))) λj0=>Gk (j0,wrap .i64 (q1+1))) else Bk (q0,q1)
def yM (m:Nat) (p0:aA) (p1:(List aS)->Bool->Option Bool) (q0:List aE) (q1:Int):Option (Lp ((List aE)×Int) ((List aE))):=
 if decide (q1 < (p0.Snaps.length:Int)) then ((ix p0.Snaps q1).bind λx0=>(p1 x0.Locs true).bind λy0=>after (if y0 then ((app q0 ([({ Kind:=2,Id:=gY,Seq:=x0.Seq,Of:=0,Off:=0,Len:=0}:aE)]:List aE)).bind λz0=>Bk z0) else Bk q0:Option (Lp ((List aE)) (Lp ((List aE)×Int) ((List aE))))) λj0=>Gk (j0,wrap .i64 (q1+1))) else Bk (q0,q1)
def yN (m:Nat) (p0:aA) (p1:(List aS)->Bool->Option Bool) (q0:List aE) (q1:Int):Option (Lp ((List aE)×Int) ((List aE))):=
 if decide (q1 < (p0.Exps.length:Int)) then ((ix p0.Exps q1).bind λx0=>(p1 x0.Locs true).bind λy0=>after (if y0 then ((app q0 ([({ Kind:=3,Id:=gY,Seq:=x0.Seq,Of:=x0.Of,Off:=0,Len:=0}:aE)]:List aE)).bind λz0=>Bk z0) else Bk q0:Option (Lp ((List aE)) (Lp ((List aE)×Int) ((List aE))))) λj0=>Gk (j0,wrap .i64 (q1+1))) else Bk (q0,q1)
def VZ (m:Nat) (p0:aA) (p1:(List aS)->Bool->Option Bool):Option ((List aE)):=
 after (aR (λs=>yL m p0 p1 s.1 s.2) m ([],0)) λ⟨r0,r1⟩=>after (aR (λs=>yM m p0 p1 s.1 s.2) m (r0,0)) λ⟨r2,r3⟩=>after (aR (λs=>yN m p0 p1 s.1 s.2) m (r2,0)) λ⟨r4,r5⟩=>some r4
theorem W50 {w:Nat} {p0:aA} {p1:(List aS)->Bool->Option Bool} {o:(List aE)} (h:aF) {p1F:Nat} {p1C:List AV} (p1B:aP prog p1F=true) (p1H:∀x0 x1 o h0,iJ h h0->p1 x0 x1=some o->aM prog p1F ([.sl none 4 (map aN x0),.sc (.bool x1)]++p1C) h0 (λr h'=>r= .sc (.bool o)/\h'=h0)) (m:VZ w p0 p1=some o):
 aM prog 50 [.agg (aC p0),.fn (.func p1F) p1C] h (λr h'=>r= .sl none 37 (map aI o)/\h'=h):=by
 refine fQ 73 [.tmp 4] Tryz.func50 rfl rfl rfl rfl ?_
 unfold VZ at m
 refine v (gZ rfl rfl λk2 K3=>v (v (vl 0 _ fE rfl rfl rfl (cU lH rfl (pM (z6 (.tok 38 37 (([]:List aE).length*37)) 5 (ow none 37 (map aI [])) (gD _ _)) (nU m (σ:=(List aE)×Int) (τ:=Option bT) (λg s=>[(g,.tok 38 37 ((s.1:List aE).length*37)),(some k2,.obj 30 (aC p0))]) (λg s=>(g=none->s.1= [])) (λg s=>.c 1 (.fn (.func p1F) p1C) (.c 2 (.ptr k2 0) (.c 5 (ow g 37 (map aI s.1)) (.c 13 (.sl none 35 (map aK p0.Chunks)) (.c 14 (nZ (p0.Chunks.length:Int)) (.c 15 (nZ s.2) .nil)))))) none (λ_=>rfl) (lx (.k6 .nil)) ?_ ?_))))))
 rintro tg0 ⟨q0,q1⟩ x t0 m
 replace m:yL w p0 p1 q0 q1=some x:=m
 unfold yL at m
 refine v (v ?_)
 apply vi m<;>intro c0 m
 refine v (v (v (vx m hX rfl rfl λx2 _ m=>va (.agg (aK x2)) pH rfl rfl (ve λu=>bG (bC gY++(TE:List AV)) u qP rfl rfl λk128 K0=>qk K0 rfl (ve λu=>aL 0 (aK x2) u rfl rfl rfl rfl EK rfl rfl λK1=>qk K1 rfl (v (vq (by kernel_rfl) (vl 0 _ fW rfl rfl rfl (vl 2 (.agg (aC p0)) dC rfl rfl rfl (vl 0 (.agg (bC x2.Id)) fA rfl rfl rfl (vk W22 VY m rfl rfl λ_ m=> ?_)))))))))))
 obtain⟨_,Y0,m⟩:=aD m
 refine vn (λu=>bV (p1H _ _ _ _ (aU (nil_sublist _) u).1 Y0) rfl p1B rfl) (oI m (σ:=(List aE)) (τ:=Option bT) (λg s=>[(some k128,.obj 44 (aK x2)),(g,.tok 38 37 ((s:List aE).length*37)),(some k2,.obj 30 (aC p0))]) (λg s=>(g=none->s= [])) (λg s=>.c 1 (.fn (.func p1F) p1C) (.c 2 (.ptr k2 0) (.c 5 (ow g 37 (map aI s)) (.c 13 (.sl none 35 (map aK p0.Chunks)) (.c 14 (nZ (p0.Chunks.length:Int)) (.c 15 (nZ q1) .nil)))))) (λx m=> ?_) ?_)
 refine v ?_
 apply vi m<;>intro c1 m
 refine v (vl 0 (.agg (bC x2.Id)) fA rfl rfl rfl (bU (eJ (aI ({ Kind:=1,Id:=x2.Id,Seq:=0,Of:=0,Off:=0,Len:=0}:aE)) sQ rfl) (bU (dX (map aI ([({ Kind:=1,Id:=x2.Id,Seq:=0,Of:=0,Off:=0,Len:=0}:aE)]:List aE)) lI rfl rfl rfl rfl) ?_)))
 obtain⟨z0,Z0,m⟩:=aD m
 exact ve λu=>fC (c:=aI) 1 Z0 lI rfl rfl rfl t0 u rfl λtg1 t1 K2=>qk K2 rfl (eG m tg1 t1 (lx (.k6 .nil)))
 exact v (eG m tg0 t0 (lx (.k6 .nil)))
 rintro tg2 j0 t2 m
 exact v (eG m tg2 t2 (mK [1,2] rfl rfl (.k6 .nil)))
 exact v (lR m tg0 t0 (lx (.k6 .nil)))
 rintro tg3 ⟨r0,r1⟩ t3 m
 refine v (vl 1 _ fD rfl rfl rfl (cU lA rfl (nU m (σ:=(List aE)×Int) (τ:=Option bT) (λg s=>[(g,.tok 38 37 ((s.1:List aE).length*37)),(some k2,.obj 30 (aC p0))]) (λg s=>(g=none->s.1= [])) (λg s=>.c 1 (.fn (.func p1F) p1C) (.c 2 (.ptr k2 0) (.c 5 (ow g 37 (map aI s.1)) (.c 35 (.sl none 4 (map bJ p0.Snaps)) (.c 36 (nZ (p0.Snaps.length:Int)) (.c 37 (nZ s.2) .nil)))))) tg3 t3 (lx (.k6 .nil)) ?_ ?_)))
 rintro tg4 ⟨q2,q3⟩ x t4 m
 replace m:yM w p0 p1 q2 q3=some x:=m
 unfold yM at m
 refine v (v ?_)
 apply vi m<;>intro c2 m
 refine v (v (v (vx m iW rfl rfl λx3 _ m=>va (.agg (bJ x3)) sR rfl rfl (ve λu=>bG (XZ) u xZ rfl rfl λk234 K4=>qk K4 rfl (ve λu=>aL 0 (bJ x3) u rfl rfl rfl rfl GZ rfl rfl λK5=>qk K5 rfl (v (vl 0 _ fW rfl rfl rfl ?_)))))))
 obtain⟨_,Y1,m⟩:=aD m
 refine vn (λu=>bV (p1H _ _ _ _ (aU (nil_sublist _) u).1 Y1) rfl p1B rfl) (oI m (σ:=(List aE)) (τ:=Option bT) (λg s=>[(some k234,.obj 60 (bJ x3)),(g,.tok 38 37 ((s:List aE).length*37)),(some k2,.obj 30 (aC p0))]) (λg s=>(g=none->s= [])) (λg s=>.c 1 (.fn (.func p1F) p1C) (.c 2 (.ptr k2 0) (.c 5 (ow g 37 (map aI s)) (.c 35 (.sl none 4 (map bJ p0.Snaps)) (.c 36 (nZ (p0.Snaps.length:Int)) (.c 37 (nZ q3) .nil)))))) (λx m=> ?_) ?_)
 refine v ?_
 apply vi m<;>intro c3 m
 refine v (vl 0 _ cB rfl rfl rfl (bU (eJ (aI ({ Kind:=2,Id:=gY,Seq:=x3.Seq,Of:=0,Off:=0,Len:=0}:aE)) sQ rfl) (bU (dX (map aI ([({ Kind:=2,Id:=gY,Seq:=x3.Seq,Of:=0,Off:=0,Len:=0}:aE)]:List aE)) lI rfl rfl rfl rfl) ?_)))
 obtain⟨z1,Z1,m⟩:=aD m
 exact ve λu=>fC (c:=aI) 1 Z1 lI rfl rfl rfl t4 u rfl λtg5 t5 K6=>qk K6 rfl (eG m tg5 t5 (lx (.k6 .nil)))
 exact v (eG m tg4 t4 (lx (.k6 .nil)))
 rintro tg6 j1 t6 m
 exact v (eG m tg6 t6 (mK [1,2] rfl rfl (.k6 .nil)))
 exact v (lR m tg4 t4 (lx (.k6 .nil)))
 rintro tg7 ⟨r2,r3⟩ t7 m
 refine v (vl 1 _ iL rfl rfl rfl (cU pT rfl (nU m (σ:=(List aE)×Int) (τ:=Option bT) (λg s=>[(g,.tok 38 37 ((s.1:List aE).length*37)),(some k2,.obj 30 (aC p0))]) (λg s=>(g=none->s.1= [])) (λg s=>.c 1 (.fn (.func p1F) p1C) (.c 5 (ow g 37 (map aI s.1)) (.c 53 (.sl none 3 (map cH p0.Exps)) (.c 54 (nZ (p0.Exps.length:Int)) (.c 55 (nZ s.2) .nil))))) tg7 t7 (lx (.k5 .nil)) ?_ ?_)))
 rintro tg8 ⟨q4,q5⟩ x t8 m
 replace m:yN w p0 p1 q4 q5=some x:=m
 unfold yN at m
 refine v (v ?_)
 apply vi m<;>intro c4 m
 refine v (v (v (vx m iX rfl rfl λx4 _ m=>va (.agg (cH x4)) z9 rfl rfl (ve λu=>bG ([nZ 0,nZ 0,sZ]) u sV rfl rfl λk338 K7=>qk K7 rfl (ve λu=>aL 0 (cH x4) u rfl rfl rfl rfl J7 rfl rfl λK8=>qk K8 rfl (v (vl 0 _ fW rfl rfl rfl ?_)))))))
 obtain⟨_,Y2,m⟩:=aD m
 refine vn (λu=>bV (p1H _ _ _ _ (aU (nil_sublist _) u).1 Y2) rfl p1B rfl) (oI m (σ:=(List aE)) (τ:=Option bT) (λg s=>[(some k338,.obj 99 (cH x4)),(g,.tok 38 37 ((s:List aE).length*37)),(some k2,.obj 30 (aC p0))]) (λg s=>(g=none->s= [])) (λg s=>.c 1 (.fn (.func p1F) p1C) (.c 5 (ow g 37 (map aI s)) (.c 53 (.sl none 3 (map cH p0.Exps)) (.c 54 (nZ (p0.Exps.length:Int)) (.c 55 (nZ q5) .nil))))) (λx m=> ?_) ?_)
 refine v ?_
 apply vi m<;>intro c5 m
 refine v (vl 0 _ cB rfl rfl rfl (vl 0 _ cB rfl rfl rfl (bU (eJ (aI ({ Kind:=3,Id:=gY,Seq:=x4.Seq,Of:=x4.Of,Off:=0,Len:=0}:aE)) sQ rfl) (bU (dX (map aI ([({ Kind:=3,Id:=gY,Seq:=x4.Seq,Of:=x4.Of,Off:=0,Len:=0}:aE)]:List aE)) lI rfl rfl rfl rfl) ?_))))
 obtain⟨z2,Z2,m⟩:=aD m
 exact ve λu=>fC (c:=aI) 1 Z2 lI rfl rfl rfl t8 u rfl λtg9 t9 K9=>qk K9 rfl (eG m tg9 t9 (lx (.k5 .nil)))
 exact v (eG m tg8 t8 (lx (.k5 .nil)))
 rintro tg10 j2 t10 m
 exact v (eG m tg10 t10 (mK [1,2] rfl rfl (.k5 .nil)))
 exact v (lR m tg8 t8 (lx (.k5 .nil)))
 rintro tg11 ⟨r4,r5⟩ t11 m
 refine v (v ?_)
 obtain rfl:=eR m
 exact vr λu=>dW.of1 (.inl rfl) (gQ _ _ (ow _ _ _) rfl) (aU (nil_sublist _) u).1 ((dU _ 0 t11 u rfl)) ⟨rfl,rfl⟩
theorem V0:aP prog 50=true:=by kernel_rfl
def tH (m:Nat) (p0:List aS) (p1:aS->Option Bool) (q0:Int):Option (Lp (Int) (Int)):=
 if decide (q0 < (p0.length:Int)) then ((ix p0 q0).bind λx0=>(p1 x0).bind λy0=>if y0 then Rk q0 else Gk (wrap .i64 (q0+1))) else Bk q0
def RP (m:Nat) (p0:List aS) (p1:aS->Option Bool):Option (Int):=
 after (aR (λs=>tH m p0 p1 s) m 0) λr0=>some (-1)
theorem aF9 {w:Nat} {p0:List aS} {p1:aS->Option Bool} {o:Int} (h:aF) {p1F:Nat} {p1C:List AV} (p1B:aP prog p1F=true) (p1H:∀x0 o h0,iJ h h0->p1 x0=some o->aM prog p1F ([.agg (aN x0)]++p1C) h0 (λr h'=>r= .sc (.bool o)/\h'=h0)) (m:RP w p0 p1=some o):
 aM prog 108 [.sl none 4 (map aN p0),.fn (.func p1F) p1C] h (λr h'=>r=nZ o/\h'=h):=by
 refine fQ 19 [.tmp 4] Tryz.func108 rfl rfl rfl rfl ?_
 unfold RP at m
 refine v (v (cU kB rfl (jS m (σ:=Int) (λs=>[]) (λs=>.c 0 (.sl none 4 (map aN p0)) (.c 1 (.fn (.func p1F) p1C) (.c 7 (nZ (p0.length:Int)) (.c 8 (nZ s) .nil)))) (lx (.k4 .nil)) ?_ ?_)))
 rintro _ q0 x m
 replace m:tH w p0 p1 q0=some x:=m
 unfold tH at m
 refine v (v ?_)
 apply vi m<;>intro c0 m
 refine v (v (v (v (vx m jH rfl rfl λx1 _ m=>va (.agg (aN x1)) nD rfl rfl ?_))))
 obtain⟨_,Y0,m⟩:=aD m
 refine vn (λu=>bV (p1H _ _ _ (aU (nil_sublist _) u).1 Y0) rfl p1B rfl) (v ?_)
 apply vi m<;>intro c1 m
 refine v (v (fY m λm=> ?_))
 obtain rfl:=eR m
 exact eH rfl
 exact v (v (fZ m))
 exact v (vB m)
 rintro _ r0 m
 refine v (v ?_)
 cases m
 exact eH rfl
theorem T3:aP prog 108=true:=by kernel_rfl
def YH (m:Nat) (p0:List aS) (p1:aS->Option Bool):Option (Bool):=
 (RP m p0 p1).bind λy3=>some (decide (0<=y3))
theorem W55 {w:Nat} {p0:List aS} {p1:aS->Option Bool} {o:Bool} (h:aF) {p1F:Nat} {p1C:List AV} (p1B:aP prog p1F=true) (p1H:∀x0 o h0,iJ h h0->p1 x0=some o->aM prog p1F ([.agg (aN x0)]++p1C) h0 (λr h'=>r= .sc (.bool o)/\h'=h0)) (m:YH w p0 p1=some o):
 aM prog 55 [.sl none 4 (map aN p0),.fn (.func p1F) p1C] h (λr h'=>r= .sc (.bool o)/\h'=h):=by
 refine fQ 9 [.tmp 4] Tryz.func55 rfl rfl rfl rfl ?_
 unfold YH at m
 refine v (v ?_)
 obtain⟨_,Y4,m⟩:=aD m
 refine vn (λu=>bV (aF9 _ p1B (λx0 o h0 hs ho=>p1H x0 o h0 ((aU (nil_sublist _) u).1.trans hs) ho) Y4) rfl T3 rfl) (v ?_)
 cases m
 exact eH rfl
theorem aA9:aP prog 55=true:=by kernel_rfl
def V1 (m:Nat) (p0:aS) (c0:Int):Option (Bool):=
 some (p0.Vol==c0)
theorem aGA {w:Nat} {p0:aS} {c0:Int} {o:Bool} (h:aF) {c0K:bT} (c0H:h c0K=some (.obj 3 (eO c0))) (m:V1 w p0 c0=some o):
 aM prog 111 [.agg (aN p0),.ptr c0K 0] h (λr h'=>r= .sc (.bool o)/\h'=h):=by
 refine fQ 8 [.tmp 3] Tryz.func111 rfl rfl rfl rfl ?_
 unfold V1 at m
 refine v (gZ rfl rfl λk2 K3=>v (vl 0 _ cB rfl rfl rfl (vn (λu=>gO (nZ c0) cB rfl (gP u c0H) rfl) (v ?_))))
 cases m
 exact eH rfl
theorem aBA:aP prog 111=true:=by kernel_rfl
def M64 (m:Nat) (p0:List aS) (p1:Int):Option (Bool):=
 (YH m p0 (λx0=>V1 m x0 p1)).bind λy6=>some y6
theorem W64 {w:Nat} {p0:List aS} {p1:Int} {o:Bool} (h:aF) (m:M64 w p0 p1=some o):
 aM prog 64 [.sl none 4 (map aN p0),nZ p1] h (λr h'=>r= .sc (.bool o)/\h'=h):=by
 refine fQ 8 [.tmp 4] Tryz.func64 rfl rfl rfl rfl ?_
 unfold M64 at m
 refine v (gZ rfl rfl λk2 K3=>v ?_)
 obtain⟨_,Y7,m⟩:=aD m
 refine vn (λu=>bV (W55 _ aBA (λ_ o h0 hs ho=>aGA _ (hs _ _ (aW 0 u rfl)) ho) Y7) rfl aA9 rfl) (v ?_)
 obtain rfl:=eR m
 exact eH rfl
theorem aBB:aP prog 64=true:=by kernel_rfl
def M63 (m:Nat) (p0:List aS) (p1:Bool) (c0:Int):Option (Bool):=
 (M64 m p0 c0).bind λy3=>some y3
theorem W63 {u:Nat} {p0:List aS} {p1:Bool} {c0:Int} {o:Bool} (h:aF) {c0K:bT} (c0H:h c0K=some (.obj 3 (eO c0))) (m:M63 u p0 p1 c0=some o):
 aM prog 63 [.sl none 4 (map aN p0),.sc (.bool p1),.ptr c0K 0] h (λr h'=>r= .sc (.bool o)/\h'=h):=by
 refine fQ 9 [.tmp 5] Tryz.func63 rfl rfl rfl rfl ?_
 unfold M63 at m
 refine v (v (bU (gO (nZ c0) cB rfl c0H rfl) (vk W64 aBB m rfl rfl λ_ m=>v ?_)))
 obtain rfl:=eR m
 exact eH rfl
theorem aGC:aP prog 63=true:=by kernel_rfl
def YI (m:Nat) (p0:aS) (c0:aA) (c1:Int):Option (Bool):=
 after ((zW m p0.Vol 0 (wrap .i64 ((c0.Vols.length:Int) - 1))).bind λy0=>if y0 then ((ix c0.Vols p0.Vol).bind λx0=>Bk (x0.Pool==c1)) else Bk false:Option (Lp (Bool) (Bool))) λj0=>some j0
theorem W56 {w:Nat} {p0:aS} {c0:aA} {c1:Int} {o:Bool} (h:aF) {c0K:bT} (c0H:h c0K=some (.obj 30 (aC c0))) {c1K:bT} (c1H:h c1K=some (.obj 3 (eO c1))) (m:YI w p0 c0 c1=some o):
 aM prog 56 [.agg (aN p0),.ptr c0K 0,.ptr c1K 0] h (λr h'=>r= .sc (.bool o)/\h'=h):=by
 refine fQ 23 [.tmp 4] Tryz.func56 rfl rfl rfl rfl ?_
 unfold YI at m
 refine v (gZ rfl rfl λk2 K3=>vs (fO m (σ:=Bool) (λs=>[(some k2,.obj 81 (aN p0))]) (λs=>.c 4 (.sc (.bool s)) .nil) (λx m=> ?_) ?_))
 refine v (vq (by kernel_rfl) (vl 0 _ cB rfl rfl rfl (vn (λu=>gO (.sl none 4 (map dH c0.Vols)) i9 rfl (gP u c0H) rfl) (cU rF rfl (vk DP pJ m rfl rfl λ_ m=> ?_)))))
 apply vi m<;>intro b0 m
 rw[b0]
 exact vn (λu=>gO (.sl none 4 (map dH c0.Vols)) i9 rfl (gP u c0H) rfl) (vl 0 _ cB rfl rfl rfl (vx m nA rfl rfl λ_ _ m=>vn (λu=>gO (nZ c1) cB rfl (gP u c1H) rfl) (n5 m)))
 rw[b0]
 exact n5 m
 rintro _ j0 m
 refine v ?_
 obtain rfl:=eR m
 exact eH rfl
theorem aGD:aP prog 56=true:=by kernel_rfl
def T4 (m:Nat) (p0:aA) (p1:List aS) (p2:Int):Option (Bool):=
 (YH m p1 (λx0=>YI m x0 p0 p2)).bind λy9=>some y9
theorem W21 {w:Nat} {p0:aA} {p1:List aS} {p2:Int} {o:Bool} (h:aF) (m:T4 w p0 p1 p2=some o):
 aM prog 21 [.agg (aC p0),.sl none 4 (map aN p1),nZ p2] h (λr h'=>r= .sc (.bool o)/\h'=h):=by
 refine fQ 10 [.tmp 6] Tryz.func21 rfl rfl rfl rfl ?_
 unfold T4 at m
 refine v (gZ rfl rfl λk2 K3=>gZ rfl rfl λk5 K6=>v ?_)
 obtain⟨_,Y0,m⟩:=aD m
 refine vn (λu=>bV (W55 _ aGD (λ_ o h0 hs ho=>W56 _ (hs _ _ (aW 1 u rfl)) (hs _ _ (aW 0 u rfl)) ho) Y0) rfl aA9 rfl) (v ?_)
 obtain rfl:=eR m
 exact eH rfl
theorem RQ:aP prog 21=true:=by kernel_rfl
def yO (m:Nat) (p0:List aB) (p1:aB->Option Bool) (q0:Int):Option (Lp (Int) (Int)):=
 if decide (q0 < (p0.length:Int)) then ((ix p0 q0).bind λx0=>(p1 x0).bind λy0=>if y0 then Rk q0 else Gk (wrap .i64 (q0+1))) else Bk q0
def M53 (m:Nat) (p0:List aB) (p1:aB->Option Bool):Option (Int):=
 after (aR (λs=>yO m p0 p1 s) m 0) λr0=>some (-1)
theorem W53 {w:Nat} {p0:List aB} {p1:aB->Option Bool} {o:Int} (h:aF) {p1F:Nat} {p1C:List AV} (p1B:aP prog p1F=true) (p1H:∀x0 o h0,iJ h h0->p1 x0=some o->aM prog p1F ([.agg (aK x0)]++p1C) h0 (λr h'=>r= .sc (.bool o)/\h'=h0)) (m:M53 w p0 p1=some o):
 aM prog 53 [.sl none 35 (map aK p0),.fn (.func p1F) p1C] h (λr h'=>r=nZ o/\h'=h):=by
 refine fQ 19 [.tmp 4] Tryz.func53 rfl rfl rfl rfl ?_
 unfold M53 at m
 refine v (v (cU lH rfl (jS m (σ:=Int) (λs=>[]) (λs=>.c 0 (.sl none 35 (map aK p0)) (.c 1 (.fn (.func p1F) p1C) (.c 7 (nZ (p0.length:Int)) (.c 8 (nZ s) .nil)))) (lx (.k4 .nil)) ?_ ?_)))
 rintro _ q0 x m
 replace m:yO w p0 p1 q0=some x:=m
 unfold yO at m
 refine v (v ?_)
 apply vi m<;>intro c0 m
 refine v (v (v (v (vx m hX rfl rfl λx1 _ m=>va (.agg (aK x1)) pH rfl rfl ?_))))
 obtain⟨_,Y0,m⟩:=aD m
 refine vn (λu=>bV (p1H _ _ _ (aU (nil_sublist _) u).1 Y0) rfl p1B rfl) (v ?_)
 apply vi m<;>intro c1 m
 refine v (v (fY m λm=> ?_))
 obtain rfl:=eR m
 exact eH rfl
 exact v (v (fZ m))
 exact v (vB m)
 rintro _ r0 m
 refine v (v ?_)
 cases m
 exact eH rfl
theorem aGE:aP prog 53=true:=by kernel_rfl
def M54 (m:Nat) (p0:aB) (c0:bH):Option (Bool):=
 some (decide (p0.Id=c0))
theorem W54 {w:Nat} {p0:aB} {c0:bH} {o:Bool} (h:aF) {c0K:bT} (c0H:h c0K=some (.obj 36 (bC c0))) (m:M54 w p0 c0=some o):
 aM prog 54 [.agg (aK p0),.ptr c0K 0] h (λr h'=>r= .sc (.bool o)/\h'=h):=by
 refine fQ 8 [.tmp 3] Tryz.func54 rfl rfl rfl rfl ?_
 unfold M54 at m
 refine v (gZ rfl rfl λk2 K3=>v (vl 0 (.agg (bC p0.Id)) fA rfl rfl rfl (vn (λu=>gO (.agg (bC c0)) fA rfl (gP u c0H) rfl) (bU (AY EI TR u5 EE rfl rfl) (v ?_)))))
 cases m
 exact eH rfl
theorem aGF:aP prog 54=true:=by kernel_rfl
def YJ (m:Nat) (p0:aA) (p1:bH):Option (Int):=
 (M53 m p0.Chunks (λx0=>M54 m x0 p1)).bind λy9=>some y9
theorem W20 {w:Nat} {p0:aA} {p1:bH} {o:Int} (h:aF) (m:YJ w p0 p1=some o):
 aM prog 20 [.agg (aC p0),.agg (bC p1)] h (λr h'=>r=nZ o/\h'=h):=by
 refine fQ 9 [.tmp 4] Tryz.func20 rfl rfl rfl rfl ?_
 unfold YJ at m
 refine v (gZ rfl rfl λk2 K3=>gZ rfl rfl λk5 K6=>v (vl 1 _ fE rfl rfl rfl ?_))
 obtain⟨_,Y0,m⟩:=aD m
 refine vn (λu=>bV (W53 _ aGF (λ_ o h0 hs ho=>W54 _ (hs _ _ (aW 0 u rfl)) ho) Y0) rfl aGE rfl) (v ?_)
 obtain rfl:=eR m
 exact eH rfl
theorem aBD:aP prog 20=true:=by kernel_rfl
def M51 (m:Nat) (p0:List aS) (p1:Bool) (c0:aA) (c1:Int):Option (Bool):=
 after (if p1 then ((T4 m c0 p0 c1).bind λy0=>if (!y0)then (if (c1==0)then Bk true else (T4 m c0 p0 0).bind λy1=>Bk y1) else Bk false) else Bk false:Option (Lp (Bool) (Bool))) λj0=>some j0
theorem W51 {u:Nat} {p0:List aS} {p1:Bool} {c0:aA} {c1:Int} {o:Bool} (h:aF) {c0K:bT} (c0H:h c0K=some (.obj 30 (aC c0))) {c1K:bT} (c1H:h c1K=some (.obj 3 (eO c1))) (m:M51 u p0 p1 c0 c1=some o):
 aM prog 51 [.sl none 4 (map aN p0),.sc (.bool p1),.ptr c0K 0,.ptr c1K 0] h (λr h'=>r= .sc (.bool o)/\h'=h):=by
 refine fQ 24 [.tmp 6] Tryz.func51 rfl rfl rfl rfl ?_
 unfold M51 at m
 refine v (vs (fO m (σ:=Bool) (λs=>[]) (λs=>.c 6 (.sc (.bool s)) .nil) (λx m=> ?_) ?_))
 refine v ?_
 apply vi m<;>intro b0 m
 rw[b0]
 refine bU (gO (.agg (aC c0)) dC rfl c0H rfl) (bU (gO (nZ c1) cB rfl c1H rfl) (vk W21 RQ m rfl rfl λ_ m=> ?_))
 apply vi m<;>intro b1 m
 rw[b1]
 refine bU (gO (nZ c1) cB rfl c1H rfl) ?_
 apply vi m<;>intro b2 m
 rw[b2]
 exact n5 m
 rw[b2]
 exact bU (gO (.agg (aC c0)) dC rfl c0H rfl) (vk W21 RQ m rfl rfl λ_ m=>n5 m)
 rw[b1]
 exact n5 m
 rw[b0]
 exact n5 m
 rintro _ j0 m
 refine v ?_
 obtain rfl:=eR m
 exact eH rfl
theorem aGG:aP prog 51=true:=by kernel_rfl
def M68 (m:Nat) (p0:aS) (c0:Int):Option (Bool):=
 some (p0.Vol==c0)
theorem W68 {w:Nat} {p0:aS} {c0:Int} {o:Bool} (h:aF) {c0K:bT} (c0H:h c0K=some (.obj 3 (eO c0))) (m:M68 w p0 c0=some o):
 aM prog 68 [.agg (aN p0),.ptr c0K 0] h (λr h'=>r= .sc (.bool o)/\h'=h):=by
 refine fQ 8 [.tmp 3] Tryz.func68 rfl rfl rfl rfl ?_
 unfold M68 at m
 refine v (gZ rfl rfl λk2 K3=>v (vl 0 _ cB rfl rfl rfl (vn (λu=>gO (nZ c0) cB rfl (gP u c0H) rfl) (v ?_))))
 cases m
 exact eH rfl
theorem aGI:aP prog 68=true:=by kernel_rfl
open Go.Vm Go.ChangeShapes Go.WideShapes
section
variable {H:Type} {enc:TypeId×Value->H} {W:World}
theorem ce3:prog.cellsOf 3=1:=by kernel_rfl
theorem rd3:Rd enc prog W 3 eO gI:=UY u3
theorem aGJ:Rd enc prog W 22 RA (gL gI):=Rd.slice rd3 u22 ce3 (λ_=>rfl) (by decide)
theorem aBF:prog.cellsOf 67=5:=by kernel_rfl
theorem aGK:prog.cellsOf 64=1:=by kernel_rfl
theorem aBG:prog.cellsOf 95=2:=by kernel_rfl
theorem ce9:prog.cellsOf 9=1:=by kernel_rfl
theorem aGL:prog.cellsOf 41=1:=by kernel_rfl
theorem ce5:prog.cellsOf 5=1:=by kernel_rfl
theorem rd5:Rd enc prog W 5 f9 gB:=ZK u5
theorem aGM:Rd enc prog W 41 iF (gL gB):=Rd.slice rd5 u41 ce5 (λ_=>rfl) (by decide)
theorem aGN:Q3 prog 95=some 2:=by kernel_rfl
theorem aGO:prog.cellsOf 65=1:=by kernel_rfl
theorem ce4:prog.cellsOf 4=1:=by kernel_rfl
theorem rd4:Rd enc prog W 4 GU gT:=Q2 u4
theorem aGP:Rd enc prog W 65 ED (gL gT):=Rd.slice rd4 u65 ce4 (λ_=>rfl) (by decide)
theorem aGQ:Q3 prog 67=some 5:=by kernel_rfl
def G1 (x:cT):Prop:=gT x.Path/\gI x.Size/\(gL (λx:bH=>gL gB x.1)) x.Ids
def yP (x:bE):Prop:=gT x.Name/\(gL G1) x.Parts
def pY (x:aS):Prop:=gI x.Vol/\gI x.File/\gI x.Off/\gI x.Len
def V2 (x:aH):Prop:=gI x.Seq/\yP x.Man/\(gL pY) x.Locs
def IE (x:aB):Prop:=(λx:bH=>gL gB x.1) x.Id/\gT x.Staged/\(gL gB) x.Data/\(gL pY) x.Locs
def aBH (x:aT):Prop:=gI x.Seq/\gI x.Of/\(gL pY) x.Locs
def T5 (x:aQ):Prop:=gI x.Pool/\gI x.Epoch/\gI x.State/\gI x.Files
def A8 (x:aA):Prop:=gI x.Seq/\(gL V2) x.Snaps/\(gL IE) x.Chunks/\(gL aBH) x.Exps/\(gL T5) x.Vols
theorem rr3:prog.readableRec 3=true/\3 < prog.types.size:=⟨by kernel_rfl,of_decide_eq_true (by kernel_rfl)⟩
theorem aGS:prog.readableRec 22=true/\22 < prog.types.size:=⟨by kernel_rfl,of_decide_eq_true (by kernel_rfl)⟩
theorem aGT:prog.readableRec 23=true/\23 < prog.types.size:=⟨by kernel_rfl,of_decide_eq_true (by kernel_rfl)⟩
theorem aGU:ownKnob prog.godebug=none:=by kernel_rfl
theorem NJ:laidOutB prog=true:=by kernel_rfl
end
def fB (a b c:Int):Bool:=decide (b<=a) && decide (a<=c)
theorem T6 (F:Nat) (a b c:Int):zW F a b c=some (fB a b c):=by
 unfold zW fB
 by_cases h:b<=a<;>simp[after,h]
theorem m59 (F:Nat) (a b c:Int):ID F a b c=some (fB a b c):=by
 unfold ID fB
 by_cases h:b<=a<;>simp[after,h]
def jU (a b:aS):Bool:=if a.Vol !=b.Vol then decide (b.Vol < a.Vol) else if a.File !=b.File then decide (b.File < a.File) else decide (b.Off < a.Off)
theorem aGV (F:Nat) (a b:aS):NA F a b=some (jU a b):=by
 unfold NA jU
 split
 ·rfl
 ·split<;>rfl
def EQ (c:aA) (l:List aS) (i:Nat):Bool:=match l[i]? with
  | none=>true
  | some x=>fB x.Vol 0 ((c.Vols.length:Int) - 1) && (match c.Vols[x.Vol.toNat]? with | none=>false | some v=>v.State==2 && fB x.File 1 v.Files) && fB x.Off 0 16777215 && fB x.Len 13 8013 &&
      (i==0 || (match l[i - 1]? with | none=>true | some y=>jU x y))
def iH (c:aA) (l:List aS):Bool:=decide (l.length<=200) && !(range l.length).any λi=> !EQ c l i
theorem V3 {F:Nat} {c:aA} {l:List aS} (hF:1000<=F) (hv:c.Vols.length < 1000):AA F c l=some (iH c l):=by
 unfold AA iH
 by_cases hl:200 < (l.length:Int)
 ·rw[if_pos (by simpa using hl)]; simp; omega
 ·rw[if_neg (by simpa using hl)]
  rw[eZ (s0:=(0:Int)) (n:=l.length) (F:=F) (λi:Nat=>(i:Int)) (λi=> !EQ c l i) (λ_=>false) (by omega) rfl,iS]
  ·have:l.length<=200:=by omega
   simp only[this,decide_true,Bool.true_and]
   split<;>rename_i h<;>simp[after,h]
  ·intro i hi _
   unfold sX EQ
   have hx:l[i]? =some l[i]:=getElem?_eq_getElem hi
   generalize l[i]=x at hx
   rw[wr (by omega) (by omega),iG (by omega)]
   simp only[aX,hx,T6,aGV,bind_some,cK,aG,cE,cV,ofNat_lt,hi,decide_true,if_true]
   cases h1:fB x.Vol 0 ((c.Vols.length:Int) - 1)
   ·simp[after]
   ·have h2:0<=x.Vol/\x.Vol.toNat < c.Vols.length:=by simp[fB] at h1; omega
    have h3:c.Vols[x.Vol.toNat]? =some c.Vols[x.Vol.toNat]:=getElem?_eq_getElem h2.2
    generalize c.Vols[x.Vol.toNat]=v at h3
    simp only[oQ _ h2.1,h3,bind_some]
    by_cases h0:i=0
    ·subst h0
     simp[after]
     grind
    ·have h5:l[i - 1]? =some l[i - 1]:=getElem?_eq_getElem (by omega)
     generalize l[i - 1]=y at h5
     rw[yI (by omega) (by omega)]
     simp[after,aX,h5,h0,pos_of_ne_zero h0]
     grind
  ·intro _
   unfold sX
   simp
open Go.Vm Go.Lib
def key:List Int->Int
 | []=>0
 | a::u=>a*256 ^ u.length+key u
theorem G2:∀ {l:List Int},gL gB l->0<=key l/\key l < 256 ^ l.length
 | [],_=>by simp[key]
 | a::u,h=>by
  have⟨h1,h2⟩:=h a (by simp)
  have⟨h3,h4⟩:=G2 (l:=u) λx hx=>h x (by simp[hx])
  have hp:(0:Int) < 256 ^ u.length:=Int.pow_pos (by decide)
  simp only[key,List.length_cons,Int.pow_succ]
  have:a*256 ^ u.length<=255*256 ^ u.length:=Int.mul_le_mul_of_nonneg_right (by omega) (by omega)
  have:0<=a*256 ^ u.length:=Int.mul_nonneg h1 (by omega)
  omega
theorem qL {a b:Int} {u v:List Int} (hl:u.length=v.length) (ha:gL gB (a::u)) (hb:gL gB (b::v)):
    (a < b->key (a::u) < key (b::v))/\(a=b->(key (a::u) < key (b::v)↔key u < key v)/\(key (a::u)=key (b::v)↔key u=key v)):=by
  have⟨h3,h4⟩:=G2 (l:=u) λx hx=>ha x (by simp[hx])
  have⟨h5,h6⟩:=G2 (l:=v) λx hx=>hb x (by simp[hx])
  simp only[key]
  rw[hl] at h4 ⊢
  generalize (256:Int) ^ v.length=q at h4 h6
  constructor
  . intro h
    have:(a+1)*q<=b*q:=Int.mul_le_mul_of_nonneg_right (by omega) (by omega)
    rw[Int.add_mul] at this
    omega
  . rintro rfl
    omega
theorem IF:∀ {a b:List Int},a.length=b.length->gL gB a->gL gB b->key a=key b->a=b
 | [],[],_,_,_,_=>rfl
 | x::u,y::v,hl,ha,hb,h=>by
  have hl':u.length=v.length:=by simpa using hl
  obtain⟨h1,h2⟩:=qL hl' ha hb
  obtain⟨h3, -⟩:=qL hl'.symm hb ha
  rcases Int.lt_trichotomy x y with q | q | q
  ·have:=h1 q; omega
  ·subst q
   rw[IF hl' (λz hz=>ha z (by simp[hz])) (λz hz=>hb z (by simp[hz])) ((h2 rfl).2.1 h)]
  ·have:=h3 q; omega
theorem A9 (xs:List Int):(bA xs).data.toList=xs.map λz=>z.toNat.toUInt8:=by
 have:∀(xs:List Int) (acc:ByteArray),(xs.foldl (λacc z=>acc.push z.toNat.toUInt8) acc).data.toList=acc.data.toList++xs.map λz=>z.toNat.toUInt8:=by
  intro xs
  induction xs with
  | nil=>simp
  | cons x xs ih=>intro acc; rw[List.foldl_cons,ih]; simp[ByteArray.push]
 rw[bA,this]
 rfl
theorem T7 {a b:Int} (ha:gB a) (hb:gB b):a.toNat.toUInt8 < b.toNat.toUInt8↔a < b:=by
 unfold gB at ha hb
 rw[UInt8.lt_iff_toNat_lt]
 simp only[Nat.toUInt8,UInt8.toNat_ofNat']
 omega
theorem ER:∀ {a b:List Int},a.length=b.length->gL gB a->gL gB b->compareBytes (a.map λz=>z.toNat.toUInt8) (b.map λz=>z.toNat.toUInt8)=if key a < key b then -1 else if key b < key a then 1 else 0
 | [],[],_,_,_=>by simp[compareBytes,key]
 | x::u,y::v,hl,ha,hb=>by
  have hl':u.length=v.length:=by simpa using hl
  obtain⟨h1,h2⟩:=qL hl' ha hb
  obtain⟨h3,h4⟩:=qL hl'.symm hb ha
  have hx:=ha x (by simp)
  have hy:=hb y (by simp)
  simp only[List.map_cons,compareBytes,T7 hx hy,T7 hy hx]
  rcases Int.lt_trichotomy x y with q | q | q
  ·rw[if_pos q,if_pos (h1 q)]
  ·subst q
   rw[if_neg (by omega),if_neg (by omega),ER hl' (λz hz=>ha z (by simp[hz])) (λz hz=>hb z (by simp[hz]))]
   simp only[(h2 rfl).1,(h4 rfl).1]
  ·rw[if_neg (by omega),if_pos q,if_neg (by have:=h3 q; omega),if_pos (h3 q)]
def mL (x:bH):Prop:=gL gB x.1
def ky (x:bH):Int:=key x.1
theorem NK {a b:bH} (ha:mL a) (hb:mL b) (h:ky a=ky b):a=b:=Subtype.ext (IF (by rw[a.2,b.2]) ha hb h)
theorem NL (F:Nat) {a b:bH} (ha:mL a) (hb:mL b):KB F a b=some (if ky a < ky b then -1 else if ky b < ky a then 1 else 0):=by
 unfold KB GH ky
 rw[cmp_eq,A9,A9,ER (by rw[a.2,b.2]) ha hb]
theorem yQ:∀(n:Nat) {a b:List Int},a.length=n->b.length=n->gL gB a->gL gB b->
    (match (range n).find? λi=>a.getD i 0 !=b.getD i 0 with | none=>false | some i=>decide (a.getD i 0 < b.getD i 0))=decide (key a < key b)
  | 0,[],[],_,_,_,_=>by simp[key]
  | n+1,x::u,y::v,h1,h2,ha,hb=>by
    have hl':u.length=v.length:=by simp at h1 h2; omega
    obtain⟨k1,k2⟩:=qL hl' ha hb
    obtain⟨k3,k4⟩:=qL hl'.symm hb ha
    have ih:=yQ n (a:=u) (b:=v) (by simpa using h1) (by simpa using h2) (λz hz=>ha z (by simp[hz])) (λz hz=>hb z (by simp[hz]))
    rw[find_range_succ]
    simp only[List.getD_cons_zero,List.getD_cons_succ]
    by_cases q:x=y
    . subst q
      simp only[bne_self_eq_false,false_eq_true,if_false,(k2 rfl).1]
      rw[<- ih]
      cases (range n).find? λi=>u.getD i 0 !=v.getD i 0 with
      | none=>rfl
      | some i=>simp only[Option.map_some,List.getD_cons_succ]
    . have hne:(x !=y)=true:=by simpa using q
      simp only[hne,if_true,List.getD_cons_zero]
      rcases Int.lt_trichotomy x y with w | w | w
      . have:=k1 w; simp[w,this]
      . exact absurd w q
      . have:=k3 w
        simp; constructor<;>intro<;>omega
theorem v8 {F:Nat} {a b:bH} (body:Int->Option (Lp Int Bool)) (hF:1000<=F) (ha:mL a) (hb:mL b)
    (h:∀i:Nat,body i=if decide ((i:Int) < 32)then ((ix a.1 i).bind λx48=>(ix b.1 i).bind λx50=>if (x48 !=x50)then ((ix a.1 i).bind λx54=>(ix b.1 i).bind λx56=>some (.ret (decide (x54 < x56)))) else some (.go (wrap .i64 (i+1)))) else some (.brk (i:Int))):
    (after (aR body F 0) λ_=>some false)=some (decide (ky a < ky b)):=by
  rw[eZ (s0:=(0:Int)) (n:=32) (F:=F) (λi:Nat=>(i:Int)) (λi=>a.1.getD i 0 !=b.1.getD i 0) (λi=>decide (a.1.getD i 0 < b.1.getD i 0)) (by omega) rfl]
  . have:=yQ 32 a.2 b.2 ha hb
    unfold ky
    rw[<- this]
    unfold LF
    cases (range 32).find? λi=>a.1.getD i 0 !=b.1.getD i 0<;>rfl
  . intro i hi _
    rw[h,iG (by omega)]
    have h1:a.1[i]? =some a.1[i]:=getElem?_eq_getElem (by rw[a.2]; exact hi)
    have h2:b.1[i]? =some b.1[i]:=getElem?_eq_getElem (by rw[b.2]; exact hi)
    have h3:(i:Int) < 32:=by omega
    simp[aX,h1,h2,h3,List.getD]
    split<;>rfl
  . intro _
    rw[h]; simp
theorem m60 {F:Nat} {a b:bH} (hF:1000<=F) (ha:mL a) (hb:mL b):NG F a b=some (decide (ky a < ky b)):=v8 (wS F a b) hF ha hb λ_=>rfl
theorem aBJ {F:Nat} {a b:bH} (hF:1000<=F) (ha:mL a) (hb:mL b):RL F a b=some (decide (ky a < ky b)):=v8 (wT F a b) hF ha hb λ_=>rfl
structure Sm (c:aA):Prop where
 g:A8 c
 sn:c.Snaps.length<=12
 ch:c.Chunks.length<=400
 ex:c.Exps.length<=300
 vo:c.Vols.length<=20
 sl:∀s∈c.Snaps,s.Locs.length<=300
 cl:∀x∈c.Chunks,x.Locs.length<=300/\x.Data.length<=300
 el:∀x∈c.Exps,x.Locs.length<=300
 man:∀s∈c.Snaps,s.Man.Name.size<=100/\s.Man.Parts.length<=10/\∀p∈s.Man.Parts,p.Path.size<=100/\p.Ids.length<=40
theorem i6 {α:Type} (l:List α) (q:α->Bool):((range l.length).any λi=>(l[i]?).any q)=l.any q:=by
 rw[Bool.eq_iff_iff]
 simp only[any_eq_true,mem_range]
 constructor
 ·rintro⟨i,hi,h⟩
  rw[getElem?_eq_getElem hi] at h
  exact⟨l[i],getElem_mem hi,by simpa using h⟩
 ·rintro⟨x,hx,h⟩
  obtain⟨i,hi,rfl⟩:=List.getElem_of_mem hx
  exact⟨i,hi,by rw[getElem?_eq_getElem hi]; simpa using h⟩
def mE (v:aQ):Bool:=fB v.Pool 0 1 && fB v.Epoch 0 1048576 && ((v.State==2 && fB v.Files 1 65535) || ((v.State==1 || v.State==3) && v.Files==0))
theorem tI {α:Type} (l:List α) (q:α->Bool):(l.any λx=> !q x)= !l.all q:=by simp[List.any_eq_not_all_not]
theorem m69 {F:Nat} {l:List aQ} (hF:1000<=F) (hl:l.length<=20):M78 F l=some (l.all mE && fB l.length 1 8):=by
 unfold M78
 rw[eZ (s0:=(0:Int)) (n:=l.length) (F:=F) (λi:Nat=>(i:Int)) (λi=>(l[i]?).any λv=> !mE v) (λ_=>false) (by omega) rfl,iS,i6,tI]
 ·cases h:l.all mE<;>simp[after,T6]
 ·intro i hi _
  unfold yF mE
  have hx:l[i]? =some l[i]:=getElem?_eq_getElem hi
  generalize l[i]=x at hx
  rw[iG (by omega)]
  simp only[aX,hx,T6,bind_some,cK,aG,cE,cV,ofNat_lt,hi,decide_true,if_true,any_some]
  by_cases h2:x.State=2
  ·simp[h2]; grind
  ·by_cases h1:x.State=1
   ·simp[h1]; grind
   ·by_cases h3:x.State=3
    ·simp[h3]; grind
    ·simp[h1,h2,h3]
 ·intro _
  unfold yF
  simp
theorem m61 {F:Nat} {c:aA} {l:List aS} (hF:1000<=F) (hv:c.Vols.length < 1000):AD F c l=some (iH c l):=by
 unfold AD iH
 by_cases hl:200 < (l.length:Int)
 ·rw[if_pos (by simpa using hl)]; simp; omega
 ·rw[if_neg (by simpa using hl)]
  rw[eZ (s0:=(0:Int)) (n:=l.length) (F:=F) (λi:Nat=>(i:Int)) (λi=> !EQ c l i) (λ_=>false) (by omega) rfl,iS]
  ·have:l.length<=200:=by omega
   simp only[this,decide_true,Bool.true_and]
   split<;>rename_i h<;>simp[after,h]
  ·intro i hi _
   unfold tC EQ
   have hx:l[i]? =some l[i]:=getElem?_eq_getElem hi
   generalize l[i]=x at hx
   rw[iG (by omega)]
   simp only[aX,hx,m59,bind_some,cK,aG,cE,cV,ofNat_lt,hi,decide_true,if_true]
   by_cases h1:x.Vol < 0
   ·simp[h1,fB]
    try omega
   ·by_cases h2:(c.Vols.length:Int)<=x.Vol
    ·simp[h1,h2,fB]; omega
    ·have h2':0<=x.Vol/\x.Vol.toNat < c.Vols.length:=by omega
     have h3:c.Vols[x.Vol.toNat]? =some c.Vols[x.Vol.toNat]:=getElem?_eq_getElem h2'.2
     generalize c.Vols[x.Vol.toNat]=v at h3
     have h4:fB x.Vol 0 ((c.Vols.length:Int) - 1)=true:=by simp[fB]; omega
     simp only[oQ _ h2'.1,h3,bind_some,h1,h2,h4,Bool.true_and,decide_false]
     by_cases h0:i=0
     ·subst h0
      simp[after]
      grind
     ·have h5:l[i - 1]? =some l[i - 1]:=getElem?_eq_getElem (by omega)
      generalize l[i - 1]=y at h5
      rw[yI (by omega) (by omega)]
      simp[after,aX,h5,h0,pos_of_ne_zero h0,jU]
      grind
  ·intro _
   unfold tC
   simp
def IG (c:aA) (i:Nat):Bool:=match c.Chunks[i]? with
 | none=>true
 | some x=>(i==0 || (match c.Chunks[i - 1]? with | none=>true | some y=>decide (ky y.Id < ky x.Id))) && iH c x.Locs && (if x.Staged then fB x.Data.length 1 64 else (!decide (0 < x.Data.length) && !(x.Locs.length==0)))
theorem gch {c:aA} (h:Sm c) {i:Nat} {x:aB} (hx:c.Chunks[i]? =some x):mL x.Id:=by
 have:=h.g.2.2.1 x (mem_of_getElem? hx)
 exact this.1
theorem NM {F:Nat} {c:aA} (hF:1000<=F) (h:Sm c) {i:Nat} (hi:i < c.Chunks.length):vF F c i=some (if !IG c i then .ret false else .go ((i+1:Nat):Int)):=by
 have hc:=h.ch
 have hv:=h.vo
 unfold vF IG
 have hx:c.Chunks[i]? =some c.Chunks[i]:=getElem?_eq_getElem hi
 generalize c.Chunks[i]=x at hx
 have gx:=gch h hx
 rw[iG (by omega)]
 simp only[aX,hx,T6,V3 hF (show c.Vols.length < 1000 by omega),bind_some,cK,aG,cE,cV,ofNat_lt,hi,decide_true,if_true]
 generalize x.Locs.length=nl
 generalize x.Data.length=nd
 by_cases h0:i=0
 ·subst h0
  cases hs:x.Staged<;>simp[cK,aG,cE,cV]<;>grind
 ·have h5:c.Chunks[i - 1]? =some c.Chunks[i - 1]:=getElem?_eq_getElem (by omega)
  generalize c.Chunks[i - 1]=y at h5
  have gy:=gch h h5
  rw[yI (by omega) (by omega)]
  by_cases hk:ky y.Id < ky x.Id
  ·have e:¬(0<=if ky y.Id < ky x.Id then (-1:Int) else if ky x.Id < ky y.Id then 1 else 0):=by rw[if_pos hk]; omega
   cases hs:x.Staged<;>simp[cK,aG,cE,cV,aX,h5,h0,pos_of_ne_zero h0,NL F gy gx,e,hk]<;>grind
  ·have e:(0<=if ky y.Id < ky x.Id then (-1:Int) else if ky x.Id < ky y.Id then 1 else 0):=by rw[if_neg hk]; split<;>omega
   simp[cK,aG,cE,cV,aX,h5,h0,pos_of_ne_zero h0,NL F gy gx,e,hk]
   try (intro hh; exfalso; split at hh<;>omega)
def vM (c:aA):Bool:= !(range c.Chunks.length).any λi=> !IG c i
theorem m70 {F:Nat} {c:aA} (hF:1000<=F) (h:Sm c):M79 F c=some (vM c && decide (c.Chunks.length<=200)):=by
 have hc:=h.ch
 unfold M79 vM
 rw[eZ (s0:=(0:Int)) (n:=c.Chunks.length) (F:=F) (λi:Nat=>(i:Int)) (λi=> !IG c i) (λ_=>false) (by omega) rfl,iS]
 ·cases (range c.Chunks.length).any λi=> !IG c i<;>simp[after]; omega
 ·exact λi hi _=>NM hF h hi
 ·intro _; unfold vF; simp
theorem V4 {F:Nat} {c:aA} (hF:1000<=F) (h:Sm c) {i:Nat} (hi:i < c.Chunks.length):rM F c i=some (if !IG c i then .ret false else .go ((i+1:Nat):Int)):=by
 have hc:=h.ch
 have hv:=h.vo
 unfold rM IG
 have hx:c.Chunks[i]? =some c.Chunks[i]:=getElem?_eq_getElem hi
 generalize c.Chunks[i]=x at hx
 have gx:=gch h hx
 rw[iG (by omega)]
 simp only[aX,hx,m59,m61 hF (show c.Vols.length < 1000 by omega),bind_some,cK,aG,cE,cV,ofNat_lt,hi,decide_true,if_true]
 generalize x.Locs.length=nl
 generalize x.Data.length=nd
 by_cases h0:i=0
 ·subst h0
  cases hs:x.Staged<;>simp[cK,aG,cE,cV]<;>grind
 ·have h5:c.Chunks[i - 1]? =some c.Chunks[i - 1]:=getElem?_eq_getElem (by omega)
  generalize c.Chunks[i - 1]=y at h5
  have gy:=gch h h5
  rw[yI (by omega) (by omega)]
  by_cases hk:ky y.Id < ky x.Id
  ·cases hs:x.Staged<;>simp[cK,aG,cE,cV,aX,h5,h0,pos_of_ne_zero h0,m60 hF gy gx,hk]<;>grind
  ·simp[cK,aG,cE,cV,aX,h5,h0,pos_of_ne_zero h0,m60 hF gy gx,hk]
theorem V5 {F:Nat} {c:aA} (hF:1000<=F) (h:Sm c) {i:Nat} (hi:i < c.Vols.length):rL F c i=some (if (c.Vols[i]?).any λv=> !mE v then .ret false else .go ((i+1:Nat):Int)):=by
 have hv:=h.vo
 unfold rL mE
 have hx:c.Vols[i]? =some c.Vols[i]:=getElem?_eq_getElem hi
 generalize c.Vols[i]=x at hx
 rw[iG (by omega)]
 simp only[aX,hx,m59,bind_some,cK,aG,cE,cV,ofNat_lt,hi,decide_true,if_true,any_some]
 by_cases h2:x.State=2
 ·simp[h2]; grind
 ·by_cases h1:x.State=1
  ·simp[h1]; grind
  ·by_cases h3:x.State=3
   ·simp[h3]; grind
   ·simp[h1,h2,h3]
theorem ES {s:ByteArray} {i:Nat} (h:i < s.size):∃z:Int,QX s (i:Int)=some z:=by
 unfold QX
 rw[if_pos (Int.natCast_nonneg i),Int.toNat_natCast]
 have:s[i]? =some s[i]:=getElem?_pos s i h
 rw[this]
 exact⟨_,rfl⟩
def V6 (s:ByteArray) (i:Nat):Bool:=(QX s (i:Int)).any λz=>decide (z < 33) || decide (126 < z)
def pC (s:ByteArray):Bool:=fB s.size 1 20 && !(range s.size).any (V6 s)
theorem aBK {F:Nat} {s:ByteArray} (hF:1000<=F):J9 F s=some (pC s):=by
 unfold J9 pC fB
 by_cases h1:(s.size:Int) < 1
 ·have h2:¬(1:Int)<=s.size:=by omega
  simp[after,h1,h2]
 ·by_cases h2:20 < (s.size:Int)
  ·have h3:¬(s.size:Int)<=20:=by omega
   simp[after,h1,h2,h3]
  ·rw[eZ (s0:=(0:Int)) (n:=s.size) (F:=F) (λi:Nat=>(i:Int)) (V6 s) (λ_=>false) (by omega) rfl,iS]
   ·have h3:(s.size:Int)<=20:=by omega
    have h4:(1:Int)<=s.size:=by omega
    simp only[h1,h2,h3,h4]
    cases h:(range s.size).any (V6 s)<;>simp[after]
   ·intro i hi _
    unfold sY V6
    obtain⟨z,hz⟩:=ES hi
    rw[iG (by omega)]
    simp only[hz,bind_some,cK,aG,cE,cV,ofNat_lt,hi,decide_true,if_true,any_some]
    grind
   ·intro _
    unfold sY
    simp
theorem aGY {i:Nat} (h:i < 9223372036854775807):wrap .i64 ((i:Int)+1)=((i+1:Nat):Int):=by rw[wr (by omega) (by omega)]; rfl
theorem NN {F:Nat} {s:ByteArray} (hF:1000<=F) (hs:s.size < F/\s.size<=9223372036854775807):CM F s=some (pC s):=by
 obtain⟨hs,hs2⟩:=hs
 unfold CM pC fB
 rw[eZ (s0:=(0:Int)) (n:=s.size) (F:=F) (λi:Nat=>(i:Int)) (V6 s) (λ_=>false) (by omega) rfl,iS]
 ·cases h:(range s.size).any (V6 s)
  ·simp only[cK,aG,cE]
   by_cases h1:(1:Int)<=s.size<;>simp[aG,h1]
  ·simp[after]
 ·intro i hi _
  unfold tD V6
  obtain⟨z,hz⟩:=ES hi
  rw[aGY (by omega)]
  simp only[hz,bind_some,cK,aG,cE,cV,ofNat_lt,hi,decide_true,if_true,any_some]
  grind
 ·intro _
  unfold tD
  simp
def NO (x y:cT):Bool:=Op.bytesLess x.Path.toList y.Path.toList || x.Path.toList==y.Path.toList
def ET (x:cT):Bool:=pC x.Path && decide (0<=x.Size) && decide (x.Size<=200) && decide (x.Ids.length<=25) && ((x.Ids.length==0)==(x.Size==0))
def V7 (m:bE) (i:Nat):Bool:=match m.Parts[i]? with
 | none=>true
 | some x=>ET x && (i==0 || (match m.Parts[i - 1]? with | none=>true | some y=> !NO x y))
def vN (m:bE):Bool:=pC m.Name && decide (m.Parts.length<=6) && !(range m.Parts.length).any λi=> !V7 m i
theorem MA (n:Nat):((n:Int)==0)=(n==0):=by
 rw[Bool.eq_iff_iff]; simp
theorem aGZ {F:Nat} {x:cT} (hF:1000<=F):NB F x=some (ET x):=by
 unfold NB ET
 simp only[aBK hF,bind_some,cK,aG,MA]
 generalize pC x.Path=a
 generalize x.Ids.length=n
 by_cases h1:(n:Int)<=25
 ·have h2:n<=25:=by omega
  simp only[h1,h2]
  grind
 ·have h2:¬n<=25:=by omega
  simp only[h1,h2]
  grind
theorem m73 {F:Nat} {m:bE} (hF:1000<=F):KA F m=some (if vN m then 0 else 1):=by
 unfold KA vN
 simp only[aBK hF,bind_some,cK,aG,cV]
 cases hn:pC m.Name
 ·simp
 ·by_cases hl:6 < (m.Parts.length:Int)
  ·have:¬m.Parts.length<=6:=by omega
   simp[hl,this]
  ·have h6:m.Parts.length<=6:=by omega
   rw[eZ (s0:=(0:Int)) (n:=m.Parts.length) (F:=F) (λi:Nat=>(i:Int)) (λi=> !V7 m i) (λ_=>1) (by omega) rfl,iS]
   ·simp only[hl,h6]
    cases (range m.Parts.length).any λi=> !V7 m i<;>simp[after]
   ·intro i hi _
    unfold s9 V7
    have hx:m.Parts[i]? =some m.Parts[i]:=getElem?_eq_getElem hi
    generalize m.Parts[i]=x at hx
    rw[iG (by omega)]
    simp only[aX,hx,aGZ hF,bind_some,cK,aG,cE,cV,ofNat_lt,hi,decide_true,if_true]
    by_cases h0:i=0
    ·subst h0
     simp
     split<;>rfl
    ·have h5:m.Parts[i - 1]? =some m.Parts[i - 1]:=getElem?_eq_getElem (by omega)
     generalize m.Parts[i - 1]=y at h5
     rw[yI (by omega) (by omega)]
     simp only[aX,h5,bind_some,aG]
     rw[show (Op.bytesLess x.Path.toList y.Path.toList || x.Path.toList==y.Path.toList)=NO x y from rfl]
     have h7:(0:Int) < i:=by omega
     simp only[h7,decide_true,if_true,h0]
     cases ET x<;>cases NO x y<;>simp[h0]
   ·intro _; unfold s9; simp
theorem m62 {F:Nat} {m:bE} (hF:1000<=F) (hm:m.Name.size<=100) (hp:∀p∈m.Parts,p.Path.size<=100):YG F m=some (vN m):=by
 unfold YG vN
 simp only[NN hF ⟨Nat.lt_of_le_of_lt hm (by omega),Nat.le_trans hm (by omega)⟩,bind_some,cK,aG,cV]
 cases hn:pC m.Name
 ·simp
 ·by_cases hl:6 < (m.Parts.length:Int)
  ·have:¬m.Parts.length<=6:=by omega
   simp[hl,this]
  ·have h6:m.Parts.length<=6:=by omega
   rw[eZ (s0:=(0:Int)) (n:=m.Parts.length) (F:=F) (λi:Nat=>(i:Int)) (λi=> !V7 m i) (λ_=>false) (by omega) rfl,iS]
   ·simp only[hl,h6]
    cases (range m.Parts.length).any λi=> !V7 m i<;>simp[after]
   ·intro i hi _
    unfold yJ V7 ET
    have hx:m.Parts[i]? =some m.Parts[i]:=getElem?_eq_getElem hi
    have hpx:=hp _ (mem_of_getElem? hx)
    generalize m.Parts[i]=x at hx hpx
    rw[iG (by omega)]
    simp only[aX,hx,NN hF ⟨Nat.lt_of_le_of_lt hpx (by omega),Nat.le_trans hpx (by omega)⟩,bind_some,cK,aG,cE,cV,ofNat_lt,hi,decide_true,if_true,MA]
    generalize pC x.Path=a
    generalize x.Ids.length=n
    have hn:(25 < (n:Int))=(25 < n):=by simp; omega
    simp only[hn]
    by_cases h0:i=0
    ·subst h0
     simp
     grind
    ·have h5:m.Parts[i - 1]? =some m.Parts[i - 1]:=getElem?_eq_getElem (by omega)
     generalize m.Parts[i - 1]=y at h5
     rw[yI (by omega) (by omega)]
     simp only[aX,h5,bind_some,aG]
     rw[show (Op.bytesLess x.Path.toList y.Path.toList || x.Path.toList==y.Path.toList)=NO x y from rfl]
     have h7:(0:Int) < i:=by omega
     have h8:(i==0)=false:=by simpa using h0
     simp only[h7,decide_true,if_true,h8,Bool.false_or]
     generalize NO x y=o
     generalize ((n==0):Bool)=e0
     generalize (x.Size==0:Bool)=e1
     have e2:decide (x.Size < 0)= !decide (0<=x.Size):=by rw[<- decide_not]; congr 1; simp
     have e3:decide (200 < x.Size)= !decide (x.Size<=200):=by rw[<- decide_not]; congr 1; simp
     have e4:decide (25 < n)= !decide (n<=25):=by rw[<- decide_not]; congr 1; simp
     rw[e2,e3,e4]
     generalize decide (0<=x.Size)=f2
     generalize decide (x.Size<=200)=f3
     generalize decide (n<=25)=f4
     cases a<;>cases o<;>cases f2<;>cases f3<;>cases f4<;>cases e0<;>cases e1<;>rfl
   ·intro _; unfold yJ; simp
theorem pZ {α:Type} {l:List α} (q:α->Bool) {F:Nat} {body:Int->Option (Lp Int Int)} (hF:l.length < F)
    (hb:∀i:Nat,i < l.length->body (i:Int)=some (if (l[i]?).any q then .ret (i:Int) else .go ((i+1:Nat):Int))) (he:body (l.length:Int)=some (.brk (l.length:Int))):
    (after (aR body F 0) λ_=>some (-1)).bind (λy=>some (decide (0<=y)))=some (l.any q):=by
  rw[eZ (s0:=(0:Int)) (n:=l.length) (F:=F) (λi:Nat=>(i:Int)) (λi=>(l[i]?).any q) (λi=>(i:Int)) hF rfl (λi hi _=>hb i hi) (λ_=>he),<- i6]
  unfold LF
  cases h:(range l.length).find? λi=>(l[i]?).any q with
  | none=>
    have:(range l.length).any (λi=>(l[i]?).any q)=false:=by
      rw[any_eq_false]
      exact λx hx=>by simpa using List.find?_eq_none.1 h x hx
    simp[after,this]
  | some i=>
    have:(range l.length).any (λi=>(l[i]?).any q)=true:=any_eq_true.2 ⟨i,List.mem_of_find?_eq_some h,List.find?_some (p:=λi=>(l[i]?).any q) h⟩
    simp[after,this]
theorem m89 {F:Nat} {l:List aH} {f:aH->Option Bool} (q:aH->Bool) (hF:l.length < F) (hl:l.length < 1000) (hf:∀x∈l,f x=some (q x)):VT F l f=some (l.any q):=by
 unfold VT RI
 refine pZ q hF (λi hi=> ?_) (by unfold tB; simp)
 unfold tB
 have hx:l[i]? =some l[i]:=getElem?_eq_getElem hi
 rw[iG (by omega)]
 simp only[aX,hx,hf _ (getElem_mem hi),bind_some,ofNat_lt,hi,decide_true,if_true,any_some]
 split<;>rfl
theorem m91 {F:Nat} {l:List cT} {f:cT->Option Bool} (q:cT->Bool) (hF:l.length < F) (hl:l.length < 1000) (hf:∀x∈l,f x=some (q x)):M60 F l f=some (l.any q):=by
 unfold M60 RN
 refine pZ q hF (λi hi=> ?_) (by unfold tF; simp)
 unfold tF
 have hx:l[i]? =some l[i]:=getElem?_eq_getElem hi
 rw[iG (by omega)]
 simp only[aX,hx,hf _ (getElem_mem hi),bind_some,ofNat_lt,hi,decide_true,if_true,any_some]
 split<;>rfl
theorem m94 {F:Nat} {l:List aS} {f:aS->Option Bool} (q:aS->Bool) (hF:l.length < F) (hl:l.length < 1000) (hf:∀x∈l,f x=some (q x)):YH F l f=some (l.any q):=by
 unfold YH RP
 refine pZ q hF (λi hi=> ?_) (by unfold tH; simp)
 unfold tH
 have hx:l[i]? =some l[i]:=getElem?_eq_getElem hi
 rw[iG (by omega)]
 simp only[aX,hx,hf _ (getElem_mem hi),bind_some,ofNat_lt,hi,decide_true,if_true,any_some]
 split<;>rfl
theorem m93 {F:Nat} {l:List bH} {d:bH} (hF:l.length < F) (hl:l.length < 1000):M62 F l d=some (l.any λx=>decide (d=x)):=by
 unfold M62 RO
 refine pZ (λx=>decide (d=x)) hF (λi hi=> ?_) (by unfold tG; simp)
 unfold tG
 have hx:l[i]? =some l[i]:=getElem?_eq_getElem hi
 rw[iG (by omega)]
 simp only[aX,hx,bind_some,ofNat_lt,hi,decide_true,if_true,any_some]
 split<;>rfl
def iO (c:aA) (d:bH):Bool:=c.Snaps.any λs=>s.Man.Parts.any λp=>p.Ids.any λx=>decide (d=x)
theorem m44 {F:Nat} {c:aA} {d:bH} (hF:1000<=F) (h:Sm c):VX F c d=some (iO c d):=by
 have hs:=h.sn
 unfold VX iO
 rw[m89 (λs=>s.Man.Parts.any λp=>p.Ids.any λx=>decide (d=x)) (by omega) (by omega)]
 ·rfl
 ·intro s hs'
  obtain⟨h1,h2,h3⟩:=h.man s hs'
  unfold M59
  rw[m91 (λp=>p.Ids.any λx=>decide (d=x)) (by omega) (by omega)]
  ·rfl
  ·intro p hp
   unfold M61
   rw[m93 (by have:=(h3 p hp).2; omega) (by have:=(h3 p hp).2; omega)]
   rfl
def zT (c:aA) (i:Nat):Bool:=match c.Exps[i]? with
 | none=>true
 | some x=>fB x.Seq 0 (c.Seq - 1) && (i==0 || (match c.Exps[i - 1]? with | none=>true | some y=>decide (y.Seq < x.Seq))) && fB x.Of 0 (x.Seq - 1) && !(x.Locs.length==0) && iH c x.Locs
def KD (c:aA) (i:Nat):Bool:=match c.Exps[i]? with
 | none=>true
 | some x=> !c.Snaps.any λs=>s.Seq==x.Of
theorem gex {c:aA} (h:Sm c) {i:Nat} {x:aT} (hx:c.Exps[i]? =some x):gI x.Seq/\gI x.Of:=by
 have:=h.g.2.2.2.1 x (mem_of_getElem? hx)
 exact⟨this.1,this.2.1⟩
theorem V8 {F:Nat} {c:aA} (hF:1000<=F) (h:Sm c) (hq:fB c.Seq 0 1073741824=true) {i:Nat} (hi:i < c.Exps.length):
    vD F c i=some (if !(zT c i && KD c i) then .ret false else .go ((i+1:Nat):Int)):=by
  have hc:=h.ex
  have hv:=h.vo
  have hsn:=h.sn
  unfold vD zT KD
  have hx:c.Exps[i]? =some c.Exps[i]:=getElem?_eq_getElem hi
  generalize c.Exps[i]=x at hx
  have gx:=gex h hx
  have hq':0<=c.Seq/\c.Seq<=1073741824:=by simpa [fB] using hq
  rw[iG (by omega),wr (n:=c.Seq - 1) (by omega) (by omega)]
  have hm:VT F c.Snaps (λx0=>RJ F x0 x)=some (c.Snaps.any λs=>s.Seq==x.Of):=m89 (λs=>s.Seq==x.Of) (by omega) (by omega) (λs _=>rfl)
  simp only[aX,hx,hm,T6,V3 hF (show c.Vols.length < 1000 by omega),bind_some,cK,aG,cE,cV,ofNat_lt,hi,decide_true,if_true,MA]
  generalize (x.Locs.length==0)=nl
  generalize iH c x.Locs=lb
  generalize (c.Snaps.any λs=>s.Seq==x.Of)=an
  cases h1:fB x.Seq 0 (c.Seq - 1)
  . simp
  . have h1':0<=x.Seq/\x.Seq<=c.Seq - 1:=by simpa [fB] using h1
    rw[wr (n:=x.Seq - 1) (by omega) (by omega)]
    generalize fB x.Of 0 (x.Seq - 1)=ob
    by_cases h0:i=0
    . subst h0
      cases nl<;>cases lb<;>cases an<;>cases ob<;>simp
    . have h5:c.Exps[i - 1]? =some c.Exps[i - 1]:=getElem?_eq_getElem (by omega)
      generalize c.Exps[i - 1]=y at h5
      rw[yI (by omega) (by omega)]
      have h7:(0:Int) < i:=by omega
      have h8:(i==0)=false:=by simpa using h0
      have e4:decide (x.Seq<=y.Seq)= !decide (y.Seq < x.Seq):=by rw[<- decide_not]; congr 1; simp
      simp only[aX,h5,h7,h8,e4,bind_some,decide_true,if_true,Bool.false_or]
      generalize decide (y.Seq < x.Seq)=od
      cases nl<;>cases lb<;>cases an<;>cases ob<;>cases od<;>simp[cK,aG]
def AE (c:aA):Bool:= !(range c.Exps.length).any λi=> !(zT c i && KD c i)
theorem m72 {F:Nat} {c:aA} (hF:1000<=F) (h:Sm c) (hq:fB c.Seq 0 1073741824=true):M81 F c=some (AE c && decide (c.Exps.length<=200)):=by
 have hc:=h.ex
 unfold M81 AE
 rw[eZ (s0:=(0:Int)) (n:=c.Exps.length) (F:=F) (λi:Nat=>(i:Int)) (λi=> !(zT c i && KD c i)) (λ_=>false) (by omega) rfl,iS]
 ·cases (range c.Exps.length).any λi=> !(zT c i && KD c i)<;>simp[after]; omega
 ·exact λi hi _=>V8 hF h hq hi
 ·intro _; unfold vD; simp
theorem RR {F:Nat} {c:aA} (hF:1000<=F) (h:Sm c) {i:Nat} (hi:i < c.Exps.length):
    oW F c i=some (if !zT c i then .ret false else .go ((i+1:Nat):Int)):=by
  have hc:=h.ex
  have hv:=h.vo
  unfold oW zT fB
  have hx:c.Exps[i]? =some c.Exps[i]:=getElem?_eq_getElem hi
  generalize c.Exps[i]=x at hx
  rw[iG (by omega)]
  simp only[aX,hx,m59,m61 hF (show c.Vols.length < 1000 by omega),bind_some,cK,aG,cE,cV,ofNat_lt,hi,decide_true,if_true,MA]
  generalize (x.Locs.length==0)=nl
  generalize iH c x.Locs=lb
  have e1:decide (x.Seq < 0)= !decide (0<=x.Seq):=by rw[<- decide_not]; congr 1; simp
  have e2:decide (c.Seq<=x.Seq)= !decide (x.Seq<=c.Seq - 1):=by rw[<- decide_not]; congr 1; simp; omega
  have e3:decide (x.Of < 0)= !decide (0<=x.Of):=by rw[<- decide_not]; congr 1; simp
  have e5:decide (x.Seq<=x.Of)= !decide (x.Of<=x.Seq - 1):=by rw[<- decide_not]; congr 1; simp; omega
  rw[e1,e2,e3,e5]
  generalize decide (0<=x.Seq)=d1
  generalize decide (x.Seq<=c.Seq - 1)=d2
  generalize decide (0<=x.Of)=d3
  generalize decide (x.Of<=x.Seq - 1)=d5
  by_cases h0:i=0
  . subst h0
    cases nl<;>cases lb<;>cases d1<;>cases d2<;>cases d3<;>cases d5<;>simp
  . have h5:c.Exps[i - 1]? =some c.Exps[i - 1]:=getElem?_eq_getElem (by omega)
    generalize c.Exps[i - 1]=y at h5
    rw[yI (by omega) (by omega)]
    have h7:(0:Int) < i:=by omega
    have h8:(i==0)=false:=by simpa using h0
    have e4:decide (x.Seq<=y.Seq)= !decide (y.Seq < x.Seq):=by rw[<- decide_not]; congr 1; simp
    simp only[aX,h5,h7,h8,e4,bind_some,decide_true,if_true,Bool.false_or]
    generalize decide (y.Seq < x.Seq)=od
    cases nl<;>cases lb<;>cases d1<;>cases d2<;>cases d3<;>cases d5<;>cases od<;>simp[cK,aG]
theorem aBL {a b:Nat} (h:a+b < 1000000000):wrap .i64 ((wrap .u64 (wrap .i64 ((a:Int)+b))).fdiv (2 ^ (min (1:Int).toNat (IntKind.bits .u64))))=(((a+b) / 2:Nat):Int):=by
 have e1:wrap .i64 ((a:Int)+b)=((a+b:Nat):Int):=by rw[wr (by omega) (by omega)]; omega
 have e2:∀n:Nat,n < 1000000000->wrap .u64 (n:Int)=n:=by
  intro n hn
  have e:wrap .u64 (n:Int)=(n:Int) % 18446744073709551616:=rfl
  rw[e]; omega
 rw[e1,e2 _ h]
 have e3:(2:Int) ^ (min (1:Int).toNat (IntKind.bits .u64))=2:=by decide
 rw[e3,Int.fdiv_eq_ediv_of_nonneg _ (by omega),wr (by omega) (by omega)]
 omega
def uR (l:List aB):Prop:=(∀x∈l,mL x.Id)/\∀(i j:Nat) (x y:aB),l[i]? =some x->l[j]? =some y->i < j->ky x.Id < ky y.Id
theorem V9 {c:aA} (h:Sm c) (hc:vM c=true):uR c.Chunks:=by
 refine⟨λx hx=>(h.g.2.2.1 x hx).1, ?_⟩
 have hs:∀i x y,c.Chunks[i]? =some x->c.Chunks[i+1]? =some y->ky x.Id < ky y.Id:=by
  intro i x y hx hy
  have hi:i+1 < c.Chunks.length:=(List.getElem?_eq_some_iff.1 hy).1
  unfold vM at hc
  simp only[Bool.not_eq_true',any_eq_false,mem_range] at hc
  have:=hc (i+1) hi
  unfold IG at this
  rw[hy,show i+1 - 1=i from rfl,hx] at this
  simp at this
  exact this.1
 intro i j x y hx hy hij
 obtain⟨k,rfl⟩:∃k,j=i+1+k:=⟨j - i - 1,by omega⟩
 clear hij
 induction k generalizing y with
 | zero=>exact hs i x y hx hy
 | succ k ih=>
  have hk:i+1+k < c.Chunks.length:=by have:=(List.getElem?_eq_some_iff.1 hy).1; omega
  exact Int.lt_trans (ih _ (getElem?_eq_getElem hk)) (hs (i+1+k) _ _ (getElem?_eq_getElem hk) hy)
theorem bis {F:Nat} {l:List aB} {d:bH} (hr:uR l) (hd:mL d) (hl:l.length < 1000):∀(G lo hi:Nat),lo<=hi->hi<=l.length->hi - lo < G->
    (∀j x,l[j]? =some x->j < lo->ky x.Id < ky d)->(∀j x,l[j]? =some x->hi<=j->ky d<=ky x.Id)->
    ∃p:Nat,p<=l.length/\aR (λs=>tA F l d (λx0 x1=>AB F x0 x1) s.1 s.2) G ((lo:Int),(hi:Int))=some (.brk ((p:Int),(p:Int)))/\
      (∀j x,l[j]? =some x->j < p->ky x.Id < ky d)/\(∀j x,l[j]? =some x->p<=j->ky d<=ky x.Id)
  | 0,_,_,_,_,h,_,_=>by omega
  | G+1,lo,hi,h1,h2,h3,h4,h5=>by
    unfold aR tA
    by_cases hlt:lo < hi
    . have hm:(lo+hi) / 2 < l.length:=by omega
      have hx:l[(lo+hi) / 2]? =some l[(lo+hi) / 2]:=getElem?_eq_getElem hm
      generalize l[(lo+hi) / 2]=x at hx
      have gx:=hr.1 x (mem_of_getElem? hx)
      have e:AB F x d=some (if ky x.Id < ky d then -1 else if ky d < ky x.Id then 1 else 0):=by unfold AB; rw[NL F gx hd]; rfl
      simp only[ofNat_lt,hlt,decide_true,if_true,aBL (show lo+hi < 1000000000 by omega),aX,hx,bind_some,e]
      by_cases hk:ky x.Id < ky d
      . simp only[hk,if_true,show decide ((-1:Int) < 0)=true from rfl,aG]
        rw[iG (by omega)]
        exact bis hr hd hl G ((lo+hi) / 2+1) hi (by omega) h2 (by omega) (λj y hy hj=>by
          rcases lt_or_ge j ((lo+hi) / 2) with q | q
          . exact Int.lt_trans (hr.2 _ _ _ _ hy hx q) hk
          . obtain rfl:j=(lo+hi) / 2:=by omega
            rw[hx] at hy; cases hy; exact hk) h5
      . have e2:decide ((if ky x.Id < ky d then (-1:Int) else if ky d < ky x.Id then 1 else 0) < 0)=false:=by rw[if_neg hk]; split<;>rfl
        simp only[e2,false_eq_true,if_false,aG]
        exact bis hr hd hl G lo ((lo+hi) / 2) (by omega) (by omega) (by omega) h4 (λj y hy hj=>by
          rcases lt_or_ge ((lo+hi) / 2) j with q | q
          . have:=hr.2 _ _ _ _ hx hy q; omega
          . obtain rfl:j=(lo+hi) / 2:=by omega
            rw[hx] at hy; cases hy; omega)
    . obtain rfl:lo=hi:=by omega
      refine⟨lo,h2, ?_,h4,h5⟩
      simp
def kM (l:List aB) (d:bH):Bool:=l.any λx=>decide (x.Id=d)
theorem aBM {F:Nat} {l:List aB} {d:bH} (hF:1000<=F) (hr:uR l) (hd:mL d) (hl:l.length < 1000):∃p:Int,yG F l d=some (p,kM l d):=by
 unfold yG NC
 obtain⟨p,hp,e,h1,h2⟩:=bis (F:=F) hr hd hl F 0 l.length (by omega) (Nat.le_refl _) (by omega) (λj x _ hj=>by omega) (λj x hx hj=>by have:=(List.getElem?_eq_some_iff.1 hx).1; omega)
 rw[show ((0:Int),(l.length:Int))=(((0:Nat):Int),(l.length:Int)) from rfl,e]
 simp only[aG]
 refine⟨p, ?_⟩
 by_cases hlt:p < l.length
 ·have hx:l[p]? =some l[p]:=getElem?_eq_getElem hlt
  have hmem:=getElem_mem hlt
  generalize l[p]=x at hx hmem
  have gx:=hr.1 x hmem
  have e:AB F x d=some (if ky x.Id < ky d then -1 else if ky d < ky x.Id then 1 else 0):=by unfold AB; rw[NL F gx hd]; rfl
  simp only[ofNat_lt,hlt,decide_true,if_true,aX,hx,bind_some,e,aG]
  have hge:=h2 p x hx (Nat.le_refl _)
  have:kM l d=((if ky x.Id < ky d then (-1:Int) else if ky d < ky x.Id then 1 else 0)==0):=by
   rw[if_neg (by omega)]
   unfold kM
   by_cases hk:ky d < ky x.Id
   ·rw[if_pos hk]
    rw[any_eq_false.2]
    ·rfl
    intro y hy
    obtain⟨j,hj,rfl⟩:=List.getElem_of_mem hy
    have hy':l[j]? =some l[j]:=getElem?_eq_getElem hj
    simp only[decide_eq_true_eq]
    intro he
    rcases lt_or_ge j p with q | q
    ·have:=h1 j _ hy' q
     rw[he] at this; omega
    ·rcases lt_or_ge p j with q2 | q2
     ·have:=hr.2 _ _ _ _ hx hy' q2
      rw[he] at this; omega
     ·obtain rfl:j=p:=by omega
      rw[hy'] at hx; cases hx
      rw[he] at hk; omega
   ·rw[if_neg hk]
    refine any_eq_true.2 ⟨x,hmem, ?_⟩
    simp only[decide_eq_true_eq]
    exact NK gx hd (by omega)
  rw[this]
 ·have hn:¬((p:Int) < (l.length:Int)):=by omega
  simp only[hn,decide_false,false_eq_true,if_false,aG,bind_some]
  have:kM l d=false:=by
   unfold kM
   refine any_eq_false.2 λy hy=> ?_
   obtain⟨j,hj,rfl⟩:=List.getElem_of_mem hy
   have:=h1 j _ (getElem?_eq_getElem hj) (by omega)
   simp only[decide_eq_true_eq]
   intro he
   rw[he] at this; omega
  rw[this]
theorem IH {ρ:Type} {body:Int->Option (Lp Int ρ)} {c:Nat->Bool} {n:Nat} (hb:∀i:Nat,i<=n->body (i:Int)=some (if c i then .go ((i+1:Nat):Int) else .brk (i:Int))) (hn:c n=false):∀(G k:Nat),k<=n->n - k < G->
    ∃p:Nat,p<=n/\c p=false/\aR body G (k:Int)=some (.brk (p:Int))
  | 0,_,_,h=>by omega
  | G+1,k,hk,h=>by
    unfold aR
    rw[hb k hk]
    cases hc:c k
    . exact⟨k,hk,hc,by simp⟩
    . have:k≠n:=by rintro rfl; rw[hn] at hc; cases hc
      obtain⟨p,h1,h2,h3⟩:=IH hb hn G (k+1) (by omega) (by omega)
      exact⟨p,h1,h2,by simpa using h3⟩
theorem n7 {S ρ:Type} {body:S->Option (Lp S ρ)} {I:Nat->S->Prop} {n:Nat} (hb:∀i s,i < n->I i s->∃s',body s=some (.go s')/\I (i+1) s') (he:∀s,I n s->body s=some (.brk s)):∀(G k:Nat) (s:S),k<=n->n - k < G->I k s->
    ∃s',I n s'/\aR body G s=some (.brk s')
  | 0,_,_,_,h,_=>by omega
  | G+1,k,s,hk,h,hi=>by
    unfold aR
    by_cases e:k=n
    . subst e
      rw[he s hi]
      exact⟨s,hi,rfl⟩
    . obtain⟨s',h1,h2⟩:=hb k s (by omega) hi
      rw[h1]
      exact n7 hb he G (k+1) s' (by omega) (by omega) h2
theorem aG0 {F:Nat} {l:List bH} {d:bH} (hF:1000<=F) (hl:l.length < 600) (gl:∀x∈l,mL x) (hd:mL d):
    ∃r,EP F l d=some r/\(∀x,x∈r.1↔x∈l\/x=d)/\r.1.length<=l.length+1:=by
  unfold EP
  obtain⟨p,h1,h2,h3⟩:=IH (body:=tE F l d) (n:=l.length) (c:=λi=>(l[i]?).any λx=>decide (ky x < ky d)) (λi hi=>by
    unfold tE
    rw[iG (by omega)]
    by_cases hlt:i < l.length
    . have hx:l[i]? =some l[i]:=getElem?_eq_getElem hlt
      simp only[ofNat_lt,hlt,decide_true,if_true,aX,hx,bind_some,aBJ hF (gl _ (getElem_mem hlt)) hd,aG,any_some]
      split<;>rfl
    . have hx:l[i]? =none:=List.getElem?_eq_none (by omega)
      simp[ofNat_lt,hlt,hx,aG]) (by simp) F 0 (by omega) (by omega)
  rw[show (0:Int)=((0:Nat):Int) from rfl,h3]
  simp only[aG]
  have hins:(slc l 0 (p:Int)).bind (λx84=>(app ([]:List bH) x84).bind λz86=>(app z86 ([d]:List bH)).bind λz92=>(slc l (p:Int) (l).length).bind λx98=>(app z92 x98).bind λz100=>some (z100,(p:Int),true))
      =some (l.take p++ [d]++l.drop p,(p:Int),true):=by
    unfold slc
    rw[if_pos (by omega),if_pos (by omega)]
    simp only[bind_some,Int.toNat_natCast]
    rw[bN (by simp; omega)]
    simp only[bind_some,List.nil_append]
    rw[bN (by simp; omega)]
    simp only[bind_some]
    rw[bN (by simp; omega)]
    simp
  have hmem:∀x,x∈l.take p++ [d]++l.drop p↔x∈l\/x=d:=by
    intro x
    simp only[mem_append,mem_singleton]
    rw[show (x∈l\/x=d)↔((x∈l.take p\/x∈l.drop p)\/x=d) from by rw[<- mem_append,List.take_append_drop]]
    constructor
    . rintro((h | h) | h)<;>simp[h]
    . rintro((h | h) | h)<;>simp[h]
  by_cases hlt:p < l.length
  . have hx:l[p]? =some l[p]:=getElem?_eq_getElem hlt
    simp only[ofNat_lt,hlt,decide_true,if_true,aX,hx,bind_some,aG]
    by_cases he:l[p]=d
    . refine⟨(l,(p:Int),false),by simp[he],λx=> ?_,by simp⟩
      constructor
      . exact .inl
      . rintro(h | rfl)
        . exact h
        . rw[<- he]; exact getElem_mem hlt
    . rw[if_neg (by simpa using he)]
      exact⟨_,hins,hmem,by simp; omega⟩
  . have hn:¬((p:Int) < (l.length:Int)):=by omega
    simp only[hn,decide_false,false_eq_true,if_false,aG]
    exact⟨_,hins,hmem,by simp; omega⟩
theorem G3 {a b:ByteArray} (h:a.toList=b.toList):a=b:=Go.WideShapes.bytes_inj (by rwa [Go.Lib.toList_data,Go.Lib.toList_data] at h)
theorem gsn {c:aA} (h:Sm c) {s:aH} (hs:s∈c.Snaps):gI s.Seq/\∀p∈s.Man.Parts,∀d∈p.Ids,mL d:=by
 have:=h.g.2.1 s hs
 exact⟨this.1,λp hp d hd=>(this.2.1.2 p hp).2.2 d hd⟩
theorem m63 {F:Nat} {m:bE} (hF:1000<=F) (hp:m.Parts.length<=10) (hi:∀p∈m.Parts,p.Ids.length<=40) (hg:∀p∈m.Parts,∀d∈p.Ids,mL d):
    ∃ids,M49 F m=some ids/\(∀x,x∈ids↔∃p∈m.Parts,x∈p.Ids)/\ids.length<=400:=by
  unfold M49
  let I:Nat->List bH×Int->Prop:=λi s=>s.2=(i:Int)/\s.1.length<=40*i/\∀x,x∈s.1↔∃p∈m.Parts.take i,x∈p.Ids
  obtain⟨s,⟨h1,h2,h3⟩,h4⟩:=n7 (body:=λs:List bH×Int=>vJ F m s.1 s.2) (I:=I) (n:=m.Parts.length) (λi s hi' hI=>by
      obtain⟨l,q⟩:=s
      obtain⟨rfl,hl,hm⟩:=hI
      simp only at hl hm
      have hx:m.Parts[i]? =some m.Parts[i]:=getElem?_eq_getElem hi'
      have hmem:=getElem_mem hi'
      have htk:m.Parts.take (i+1)=m.Parts.take i++ [m.Parts[i]]:=by simp
      generalize m.Parts[i]=p at hx hmem htk
      have hpi:=hi p hmem
      have hgp:=hg p hmem
      have hgl:∀x∈l,mL x:=λx hx=>by
        obtain⟨p',hp',hx'⟩:=(hm x).1 hx
        exact hg p' (List.mem_of_mem_take hp') x hx'
      let J:Nat->List bH×Int->Prop:=λk s=>s.2=(k:Int)/\s.1.length<=40*i+k/\∀x,x∈s.1↔(x∈l\/x∈p.Ids.take k)
      obtain⟨t,⟨j1,j2,j3⟩,j4⟩:=n7 (ρ:=Lp (List bH×Int) (List bH)) (body:=λs:List bH×Int=>vI F m (i:Int) s.1 s.2) (I:=J) (n:=p.Ids.length) (λk s hk hJ=>by
          obtain⟨u,q⟩:=s
          obtain⟨rfl,hu,hv⟩:=hJ
          simp only at hu hv
          have hd:p.Ids[k]? =some p.Ids[k]:=getElem?_eq_getElem hk
          have hdm:=getElem_mem hk
          have hdk:p.Ids.take (k+1)=p.Ids.take k++ [p.Ids[k]]:=by simp
          generalize p.Ids[k]=d at hd hdm hdk
          obtain⟨r,r1,r2,r3⟩:=aG0 (F:=F) (l:=u) (d:=d) hF (by omega) (λx hx=>by
            rcases(hv x).1 hx with q | q
            . exact hgl x q
            . exact hgp x (List.mem_of_mem_take q)) (hgp d hdm)
          refine⟨(r.1,((k+1:Nat):Int)), ?_,rfl,by simp only; omega,λx=> ?_⟩
          . unfold vI
            rw[iG (by omega)]
            simp only[aX,hx,bind_some,ofNat_lt,hk,decide_true,if_true,hd,r1]
          . simp only[r2,hv,hdk,mem_append,mem_singleton,or_assoc]) (λs hs=>by
          obtain⟨u,q⟩:=s
          obtain⟨rfl, -, -⟩:=hs
          unfold vI
          simp[aX,hx]) F 0 (l,0) (by omega) (by omega) ⟨rfl,by simp only; omega,by simp⟩
      refine⟨(t.1,((i+1:Nat):Int)), ?_,rfl,by simp only; omega,λx=> ?_⟩
      . unfold vJ
        rw[iG (by omega)]
        simp only[ofNat_lt,hi',decide_true,if_true,j4,aG]
      . simp only[j3,hm,htk,List.take_length,mem_append,mem_singleton]
        constructor
        . rintro(⟨p',hp',hx'⟩ | hx')
          . exact⟨p',.inl hp',hx'⟩
          . exact⟨p,.inr rfl,hx'⟩
        . rintro⟨p',hp' | rfl,hx'⟩
          . exact .inl ⟨p',hp',hx'⟩
          . exact .inr hx') (λs hs=>by
      obtain⟨u,q⟩:=s
      obtain⟨rfl, -, -⟩:=hs
      unfold vJ
      simp) F 0 ([],0) (by omega) (by omega) ⟨rfl,by simp,by simp⟩
  rw[h4]
  exact⟨s.1,by simp only[aG],by simpa using h3,by omega⟩
theorem m64 {F:Nat} {c:aA} {d:bH} (hF:1000<=F) (hl:c.Chunks.length < 1000):∃n:Int,LI F c d=some n/\(decide (n < 0))= !kM c.Chunks d:=by
 have:=pZ (l:=c.Chunks) (λx=>decide (x.Id=d)) (F:=F) (body:=oR F c d) (by omega) (λi hi=>by
  unfold oR
  have hx:c.Chunks[i]? =some c.Chunks[i]:=getElem?_eq_getElem hi
  rw[iG (by omega)]
  simp only[aX,hx,bind_some,ofNat_lt,hi,decide_true,if_true,any_some]
  split<;>rfl) (by unfold oR; simp)
 rw[show (after (aR (oR F c d) F 0) λ_=>some (-1))=LI F c d from rfl] at this
 obtain⟨n,h1,h2⟩:=Option.bind_eq_some_iff.1 this
 refine⟨n,h1, ?_⟩
 have h3:=Option.some.inj h2
 unfold kM
 rw[<- h3,<- decide_not]
 congr 1
 simp
theorem m50 {F:Nat} {c:aA} {i:Nat} {s:aH} (hF:1000<=F) (hl:c.Snaps.length < 1000) (hs:c.Snaps[i]? =some s):
    ∃n:Int,yK F c s.Man.Name=some n/\(n !=(i:Int))=(c.Snaps.take i).any λy=>s.Man.Name==y.Man.Name:=by
  have hi:i < c.Snaps.length:=(List.getElem?_eq_some_iff.1 hs).1
  have hsi:c.Snaps[i]=s:=by have:=getElem?_eq_getElem hi; rw[hs] at this; exact(Option.some.inj this).symm
  unfold yK
  rw[eZ (s0:=(0:Int)) (n:=c.Snaps.length) (F:=F) (λi:Nat=>(i:Int)) (λi=>(c.Snaps[i]?).any λy=>y.Man.Name.toList==s.Man.Name.toList) (λi=>(i:Int)) (by omega) rfl]
  . unfold LF
    have hp:((c.Snaps[i]?).any λy=>y.Man.Name.toList==s.Man.Name.toList)=true:=by rw[hs]; simp
    cases h:(range c.Snaps.length).find? λi=>(c.Snaps[i]?).any λy=>y.Man.Name.toList==s.Man.Name.toList with
    | none=>
      have:=List.find?_eq_none.1 h i (mem_range.2 hi)
      exact absurd hp this
    | some k=>
      refine⟨(k:Int),rfl, ?_⟩
      obtain⟨hk1,hk2,hk3⟩:=List.find?_range_eq_some.1 h
      rw[Bool.eq_iff_iff]
      simp only[bne_iff_ne,ne_eq,any_eq_true]
      have hkl:k < c.Snaps.length:=mem_range.1 hk2
      rw[getElem?_eq_getElem hkl] at hk1
      simp only[any_some,beq_iff_eq] at hk1
      constructor
      . intro hne
        have hki:k < i:=by
          rcases lt_or_ge k i with q | q
          . exact q
          . have:=hk3 i (by omega)
            rw[hp] at this; cases this
        refine⟨c.Snaps[k], ?_, ?_⟩
        . rw[List.mem_take_iff_getElem]
          exact⟨k,by omega,rfl⟩
        . exact(lG _ _).2 (G3 hk1.symm)
      . rintro⟨y,hy,he⟩ hc
        rw[List.mem_take_iff_getElem] at hy
        obtain⟨j,hj,rfl⟩:=hy
        have:=hk3 j (by omega)
        rw[getElem?_eq_getElem (by omega)] at this
        rw[(lG _ _).1 he] at this
        simp at this
  . intro j hj _
    unfold oU
    have hx:c.Snaps[j]? =some c.Snaps[j]:=getElem?_eq_getElem hj
    rw[iG (by omega)]
    simp only[aX,hx,bind_some,ofNat_lt,hj,decide_true,if_true,any_some]
    split<;>rfl
  . intro _; unfold oU; simp
def LJ (c:aA) (m:bE):Bool:=m.Parts.all λp=>p.Ids.all λd=>kM c.Chunks d
def DQ (c:aA) (i:Nat):Bool:=match c.Snaps[i]? with
 | none=>true
 | some s=>fB s.Seq 0 (c.Seq - 1) && (i==0 || (match c.Snaps[i - 1]? with | none=>true | some y=>decide (y.Seq < s.Seq))) && !((c.Snaps.take i).any λy=>s.Man.Name==y.Man.Name) && vN s.Man && iH c s.Locs
def F2 (c:aA) (i:Nat):Bool:=match c.Snaps[i]? with
 | none=>true
 | some s=>LJ c s.Man
def T8 (c:aA) (i:Nat):Bool:=match c.Snaps[i]? with
 | none=>true
 | some s=> !c.Exps.any λx=>x.Of==s.Seq
def T9 (c:aA) (i:Nat):List ByteArray:=(c.Snaps.take i).foldl (λl s=>mB l s.Man.Name) []
theorem RS (c:aA) (x:ByteArray):∀i,((T9 c i).any λz=>x==z)=(c.Snaps.take i).any λy=>x==y.Man.Name:=by
 have:∀(l:List aH) (acc:List ByteArray),((l.foldl (λl s=>mB l s.Man.Name) acc).any λz=>x==z)=((acc.any λz=>x==z) || l.any λy=>x==y.Man.Name):=by
  intro l
  induction l with
  | nil=>simp
  | cons s l ih=>
   intro acc
   rw[List.foldl_cons,ih,List.any_cons,<- Bool.or_assoc]
   congr 1
   unfold mB
   split
   ·rename_i h
    rw[Bool.eq_iff_iff]
    simp only[Bool.or_eq_true,any_eq_true] at h ⊢
    constructor
    ·exact .inl
    ·rintro(q | q)
     ·exact q
     ·obtain⟨y,hy,he⟩:=h
      rw[(lG _ _).1 q,(lG _ _).1 he]
      exact⟨y,hy,(lG _ _).2 rfl⟩
   ·simp
 intro i
 rw[T9,this]
 simp
theorem WA {F:Nat} {c:aA} {s:aH} (hF:1000<=F) (h:Sm c) (hr:uR c.Chunks) (hs:s∈c.Snaps):
    aR (λq=>vG F c s q) F 0=some (if !LJ c s.Man then .ret (.ret false) else .brk (s.Man.Parts.length:Int)):=by
  obtain⟨-,h2,h3⟩:=h.man s hs
  have hg:=(gsn h hs).2
  have hc:=h.ch
  rw[eZ (s0:=(0:Int)) (n:=s.Man.Parts.length) (F:=F) (λi:Nat=>(i:Int)) (λi=>(s.Man.Parts[i]?).any λp=> !p.Ids.all λd=>kM c.Chunks d) (λ_=>.ret false) (by omega) rfl,iS,i6,tI]
  . rfl
  . intro i hi _
    unfold vG
    have hx:s.Man.Parts[i]? =some s.Man.Parts[i]:=getElem?_eq_getElem hi
    have hm:=getElem_mem hi
    generalize s.Man.Parts[i]=p at hx hm
    have h4:=(h3 p hm).2
    rw[iG (by omega)]
    simp only[aX,hx,bind_some,ofNat_lt,hi,decide_true,if_true,any_some]
    rw[eZ (s0:=(0:Int)) (n:=p.Ids.length) (F:=F) (λi:Nat=>(i:Int)) (λi=>(p.Ids[i]?).any λd=> !kM c.Chunks d) (λ_=>.ret (.ret false)) (by omega) rfl,iS,i6,tI]
    . cases p.Ids.all λd=>kM c.Chunks d<;>simp[after]
    . intro k hk _
      unfold yH
      have hd:p.Ids[k]? =some p.Ids[k]:=getElem?_eq_getElem hk
      have hdm:=getElem_mem hk
      generalize p.Ids[k]=d at hd hdm
      obtain⟨z,hz⟩:=aBM (F:=F) (l:=c.Chunks) (d:=d) hF hr (hg p hm d hdm) (by omega)
      rw[iG (by omega)]
      simp only[aX,hd,bind_some,ofNat_lt,hk,decide_true,if_true,any_some,hz]
      split<;>rfl
    . intro _; unfold yH; simp
  . intro _; unfold vG; simp
theorem NP {c:aA} {i:Nat} {s:aH} (hx:c.Snaps[i]? =some s):T9 c (i+1)=mB (T9 c i) s.Man.Name:=by
 unfold T9
 have hi:=(List.getElem?_eq_some_iff.1 hx)
 obtain⟨hi,rfl⟩:=hi
 rw[List.take_succ_eq_append_getElem hi,List.foldl_append]
 rfl
theorem WB {F:Nat} {c:aA} (hF:1000<=F) (h:Sm c) (hr:uR c.Chunks) (hq:fB c.Seq 0 1073741824=true) {i:Nat} (hi:i < c.Snaps.length):
    vH F c (T9 c i) i=some (if !(DQ c i && F2 c i) then .ret false else .go (T9 c (i+1),((i+1:Nat):Int))):=by
  have hv:=h.vo
  have hsn:=h.sn
  have hq':0<=c.Seq/\c.Seq<=1073741824:=by simpa [fB] using hq
  unfold vH DQ F2
  have hx:c.Snaps[i]? =some c.Snaps[i]:=getElem?_eq_getElem hi
  have hm:=getElem_mem hi
  generalize c.Snaps[i]=x at hx hm
  rw[iG (by omega),wr (n:=c.Seq - 1) (by omega) (by omega),NP hx]
  simp only[aX,hx,T6,m73 hF,V3 hF (show c.Vols.length < 1000 by omega),bind_some,cK,aG,cE,cV,ofNat_lt,hi,decide_true,if_true,RS,WA hF h hr hm]
  generalize ((c.Snaps.take i).any λy=>x.Man.Name==y.Man.Name)=nb
  generalize iH c x.Locs=lb
  generalize LJ c x.Man=pb
  have e1:((if vN x.Man=true then (0:Int) else 1) !=0)= !vN x.Man:=by cases vN x.Man<;>rfl
  rw[e1]
  generalize vN x.Man=mb
  generalize fB x.Seq 0 (c.Seq - 1)=ib
  by_cases h0:i=0
  . subst h0
    cases nb<;>cases lb<;>cases pb<;>cases mb<;>cases ib<;>simp[aG,cE]
  . have h5:c.Snaps[i - 1]? =some c.Snaps[i - 1]:=getElem?_eq_getElem (by omega)
    generalize c.Snaps[i - 1]=y at h5
    rw[yI (by omega) (by omega)]
    have h7:(0:Int) < i:=by omega
    have h8:(i==0)=false:=by simpa using h0
    have e4:decide (x.Seq<=y.Seq)= !decide (y.Seq < x.Seq):=by rw[<- decide_not]; congr 1; simp
    simp only[aX,h5,h7,h8,e4,bind_some,decide_true,if_true,Bool.false_or]
    generalize decide (y.Seq < x.Seq)=od
    cases nb<;>cases lb<;>cases pb<;>cases mb<;>cases ib<;>cases od<;>simp[aG,cE]
def CN (c:aA):Bool:= !(range c.Snaps.length).any λi=> !(DQ c i && F2 c i)
theorem m71 {F:Nat} {c:aA} (hF:1000<=F) (h:Sm c) (hr:uR c.Chunks) (hq:fB c.Seq 0 1073741824=true):M80 F c=some (CN c && decide (c.Snaps.length<=8)):=by
 have hc:=h.sn
 unfold M80 CN
 rw[eZ (s0:=(([]:List ByteArray),(0:Int))) (n:=c.Snaps.length) (F:=F) (λi:Nat=>(T9 c i,(i:Int))) (λi=> !(DQ c i && F2 c i)) (λ_=>false) (by omega) rfl,iS]
 ·cases (range c.Snaps.length).any λi=> !(DQ c i && F2 c i)<;>simp[after]; omega
 ·exact λi hi _=>WB hF h hr hq hi
 ·intro _; unfold vH; simp
theorem WC {F:Nat} {c:aA} (hF:1000<=F) (h:Sm c) {i:Nat} (hi:i < c.Snaps.length):
    rN F c i=some (if !(DQ c i && F2 c i && T8 c i) then .ret false else .go ((i+1:Nat):Int)):=by
  have hv:=h.vo
  have hsn:=h.sn
  have hch:=h.ch
  have hex:=h.ex
  unfold rN DQ F2 T8 fB
  have hx:c.Snaps[i]? =some c.Snaps[i]:=getElem?_eq_getElem hi
  have hm:=getElem_mem hi
  generalize c.Snaps[i]=x at hx hm
  obtain⟨k1,k2,k3⟩:=h.man x hm
  obtain⟨ids,i1,i2,i3⟩:=m63 (F:=F) (m:=x.Man) hF k2 (λp hp=>(k3 p hp).2) (gsn h hm).2
  obtain⟨n,n1,n2⟩:=m50 (F:=F) hF (by omega) hx
  rw[iG (by omega)]
  have l7:aR (λs=>vK F c ids s) F 0=some (if !LJ c x.Man then .ret (.ret false) else .brk (ids.length:Int)):=by
    rw[eZ (s0:=(0:Int)) (n:=ids.length) (F:=F) (λi:Nat=>(i:Int)) (λi=>(ids[i]?).any λd=> !kM c.Chunks d) (λ_=>.ret false) (by omega) rfl,iS,i6,tI]
    . have:LJ c x.Man=ids.all λd=>kM c.Chunks d:=by
        rw[Bool.eq_iff_iff]
        simp only[LJ,List.all_eq_true]
        constructor
        . intro q d hd
          obtain⟨p,hp,hd'⟩:=(i2 d).1 hd
          exact q p hp d hd'
        . intro q p hp d hd
          exact q d ((i2 d).2 ⟨p,hp,hd⟩)
      rw[this]
    . intro k hk _
      unfold vK
      have hd:ids[k]? =some ids[k]:=getElem?_eq_getElem hk
      generalize ids[k]=d at hd
      obtain⟨z,hz,hz2⟩:=m64 (F:=F) (c:=c) (d:=d) hF (by omega)
      rw[iG (by omega)]
      simp only[aX,hd,bind_some,ofNat_lt,hk,decide_true,if_true,any_some,hz,hz2]
      split<;>rfl
    . intro _; unfold vK; simp
  have l9:aR (λs=>vL F c x s) F 0=some (if c.Exps.any λy=>y.Of==x.Seq then .ret (.ret false) else .brk (c.Exps.length:Int)):=by
    rw[eZ (s0:=(0:Int)) (n:=c.Exps.length) (F:=F) (λi:Nat=>(i:Int)) (λi=>(c.Exps[i]?).any λy=>y.Of==x.Seq) (λ_=>.ret false) (by omega) rfl,iS,i6]
    . intro k hk _
      unfold vL
      have hd:c.Exps[k]? =some c.Exps[k]:=getElem?_eq_getElem hk
      rw[iG (by omega)]
      simp only[aX,hd,bind_some,ofNat_lt,hk,decide_true,if_true,any_some]
      split<;>rfl
    . intro _; unfold vL; simp
  simp only[aX,hx,m62 hF k1 (λp hp=>(k3 p hp).1),m61 hF (show c.Vols.length < 1000 by omega),n1,n2,i1,l7,l9,bind_some,cK,aG,cE,cV,ofNat_lt,hi,decide_true,if_true]
  generalize ((c.Snaps.take i).any λy=>x.Man.Name==y.Man.Name)=nb
  generalize iH c x.Locs=lb
  generalize LJ c x.Man=pb
  generalize (c.Exps.any λy=>y.Of==x.Seq)=xb
  generalize vN x.Man=mb
  have e1:decide (x.Seq < 0)= !decide (0<=x.Seq):=by rw[<- decide_not]; congr 1; simp
  have e2:decide (c.Seq<=x.Seq)= !decide (x.Seq<=c.Seq - 1):=by rw[<- decide_not]; congr 1; simp; omega
  rw[e1,e2]
  generalize decide (0<=x.Seq)=d1
  generalize decide (x.Seq<=c.Seq - 1)=d2
  by_cases h0:i=0
  . subst h0
    cases nb<;>cases lb<;>cases pb<;>cases mb<;>cases d1<;>cases d2<;>cases xb<;>simp[aG,cE]
  . have h5:c.Snaps[i - 1]? =some c.Snaps[i - 1]:=getElem?_eq_getElem (by omega)
    generalize c.Snaps[i - 1]=y at h5
    rw[yI (by omega) (by omega)]
    have h7:(0:Int) < i:=by omega
    have h8:(i==0)=false:=by simpa using h0
    have e4:decide (x.Seq<=y.Seq)= !decide (y.Seq < x.Seq):=by rw[<- decide_not]; congr 1; simp
    simp only[aX,h5,h7,h8,e4,bind_some,decide_true,if_true,Bool.false_or]
    generalize decide (y.Seq < x.Seq)=od
    cases nb<;>cases lb<;>cases pb<;>cases mb<;>cases d1<;>cases d2<;>cases xb<;>cases od<;>simp[aG,cE]
def gJ (c:aA):Bool:=fB c.Seq 0 1073741824 && (c.Vols.all mE && fB c.Vols.length 1 8) && (vM c && decide (c.Chunks.length<=200)) && (CN c && decide (c.Snaps.length<=8)) && (AE c && decide (c.Exps.length<=200))
theorem m33 {F:Nat} {c:aA} (hF:1000<=F) (h:Sm c):RK F c=some (if gJ c then 0 else 1):=by
 have hv:=h.vo
 unfold RK gJ
 simp only[T6,m69 hF hv,m70 hF h,bind_some,cK,aG,cV]
 cases hq:fB c.Seq 0 1073741824
 ·simp
 ·cases hv':(c.Vols.all mE && fB c.Vols.length 1 8)
  ·simp
  ·cases hc:vM c
   ·simp
   ·have hr:=V9 h hc
    simp only[m71 hF h hr hq,m72 hF h hq,bind_some,cV,cK,aG]
    generalize decide (c.Chunks.length<=200)=a
    generalize (CN c && decide (c.Snaps.length<=8))=b
    generalize (AE c && decide (c.Exps.length<=200))=d
    cases a<;>cases b<;>cases d<;>simp
theorem tJ {n:Nat} (p q:Nat->Bool):((range n).any λi=> !(p i && q i))=(((range n).any λi=> !p i) || (range n).any λi=> !q i):=by
 rw[Bool.eq_iff_iff]
 simp only[Bool.or_eq_true,any_eq_true,Bool.not_eq_true',Bool.and_eq_false_iff]
 constructor
 ·rintro⟨i,hi,q | q⟩
  ·exact .inl ⟨i,hi,q⟩
  ·exact .inr ⟨i,hi,q⟩
 ·rintro(⟨i,hi,q⟩ | ⟨i,hi,q⟩)
  ·exact⟨i,hi,.inl q⟩
  ·exact⟨i,hi,.inr q⟩
theorem aBN (c:aA):((range c.Snaps.length).any λi=> !T8 c i)=(range c.Exps.length).any λi=> !KD c i:=by
 have h1:((range c.Snaps.length).any λi=> !T8 c i)=c.Snaps.any λs=>c.Exps.any λx=>x.Of==s.Seq:=by
  refine Eq.trans ?_ (i6 c.Snaps _)
  congr 1
  funext i
  unfold T8
  cases c.Snaps[i]?<;>simp
 have h2:((range c.Exps.length).any λi=> !KD c i)=c.Exps.any λx=>c.Snaps.any λs=>s.Seq==x.Of:=by
  refine Eq.trans ?_ (i6 c.Exps _)
  congr 1
  funext i
  unfold KD
  cases c.Exps[i]?<;>simp
 rw[h1,h2,Bool.eq_iff_iff]
 simp only[any_eq_true,beq_iff_eq]
 constructor
 ·rintro⟨s,hs,x,hx,e⟩; exact⟨x,hx,s,hs,e.symm⟩
 ·rintro⟨x,hx,s,hs,e⟩; exact⟨s,hs,x,hx,e.symm⟩
theorem m19 {F:Nat} {c:aA} (hF:1000<=F) (h:Sm c):VW F c=some (gJ c):=by
 have hv:=h.vo
 have hsn:=h.sn
 have hch:=h.ch
 have hex:=h.ex
 have l0:aR (λs=>rL F c s) F 0=some (if !c.Vols.all mE then .ret false else .brk (c.Vols.length:Int)):=by
  rw[eZ (s0:=(0:Int)) (n:=c.Vols.length) (F:=F) (λi:Nat=>(i:Int)) (λi=>(c.Vols[i]?).any λv=> !mE v) (λ_=>false) (by omega) rfl,iS,i6,tI]
  ·exact λi hi _=>V5 hF h hi
  ·intro _; unfold rL; simp
 have l3:aR (λs=>rM F c s) F 0=some (if !vM c then .ret false else .brk (c.Chunks.length:Int)):=by
  rw[eZ (s0:=(0:Int)) (n:=c.Chunks.length) (F:=F) (λi:Nat=>(i:Int)) (λi=> !IG c i) (λ_=>false) (by omega) rfl,iS]
  ·unfold vM; rw[Bool.not_not]
  ·exact λi hi _=>V4 hF h hi
  ·intro _; unfold rM; simp
 have l5:aR (λs=>rN F c s) F 0=some (if (range c.Snaps.length).any λi=> !(DQ c i && F2 c i && T8 c i) then .ret false else .brk (c.Snaps.length:Int)):=by
  rw[eZ (s0:=(0:Int)) (n:=c.Snaps.length) (F:=F) (λi:Nat=>(i:Int)) (λi=> !(DQ c i && F2 c i && T8 c i)) (λ_=>false) (by omega) rfl,iS]
  ·exact λi hi _=>WC hF h hi
  ·intro _; unfold rN; simp
 have l11:aR (λs=>oW F c s) F 0=some (if (range c.Exps.length).any λi=> !zT c i then .ret false else .brk (c.Exps.length:Int)):=by
  rw[eZ (s0:=(0:Int)) (n:=c.Exps.length) (F:=F) (λi:Nat=>(i:Int)) (λi=> !zT c i) (λ_=>false) (by omega) rfl,iS]
  ·exact λi hi _=>RR hF h hi
  ·intro _; unfold oW; simp
 have hs:CN c= !(range c.Snaps.length).any λi=> !(DQ c i && F2 c i):=rfl
 have he:AE c= !(((range c.Exps.length).any λi=> !zT c i) || (range c.Exps.length).any λi=> !KD c i):=by unfold AE; rw[tJ]
 unfold VW gJ
 rw[tJ (λi=>DQ c i && F2 c i) (T8 c),aBN] at l5
 simp only[m59,l0,l3,l5,l11,hs,he,bind_some,cK,aG,cV]
 generalize ((range c.Snaps.length).any λi=> !(DQ c i && F2 c i))=a1
 generalize ((range c.Exps.length).any λi=> !zT c i)=a2
 generalize ((range c.Exps.length).any λi=> !KD c i)=a3
 generalize c.Vols.all mE=a4
 generalize vM c=a5
 generalize fB c.Seq 0 1073741824=a6
 generalize fB c.Vols.length 1 8=a7
 have f1:decide (8 < (c.Snaps.length:Int))= !decide (c.Snaps.length<=8):=by rw[<- decide_not]; congr 1; simp; omega
 have f2:decide (200 < (c.Chunks.length:Int))= !decide (c.Chunks.length<=200):=by rw[<- decide_not]; congr 1; simp; omega
 have f3:decide (200 < (c.Exps.length:Int))= !decide (c.Exps.length<=200):=by rw[<- decide_not]; congr 1; simp; omega
 rw[f1,f2,f3]
 generalize decide (c.Snaps.length<=8)=b1
 generalize decide (c.Chunks.length<=200)=b2
 generalize decide (c.Exps.length<=200)=b3
 cases a6<;>cases b1<;>cases b2<;>cases b3<;>cases a7<;>cases a4<;>cases a5<;>cases a1<;>cases a2<;>cases a3<;>rfl
def wM (m:Nat) (p0:List aS):Option ((List aS)):=
 (app ([]:List aS) p0).bind λz4=>some z4
theorem NQ {w:Nat} {p0:List aS} {o:(List aS)} (h:aF) (m:wM w p0=some o):
 aM prog 151 [.sl none 4 (map aN p0)] h (λr h'=>r= .sl none 4 (map aN o)/\h'=h):=by
 refine fQ 7 [.tmp 2] Tryz.func151 rfl rfl rfl rfl ?_
 unfold wM at m
 refine v (v (v ?_))
 obtain⟨z4,Z5,m⟩:=aD m
 refine ve λu=>oM (c:=aN) Z5 pG rfl rfl u nofun rfl λtg6 t7 K8=>qk K8 rfl (v ?_)
 obtain rfl:=eR m
 exact vr λu=>dW.of1 (.inl rfl) (gQ _ _ (ow _ _ _) rfl) (aU (nil_sublist _) u).1 ((dU _ 0 t7 u rfl)) ⟨rfl,rfl⟩
theorem EU:aP prog 151=true:=by kernel_rfl
def vO (m:Nat) (p0:List Int):Option ((List Int)):=
 (app ([]:List Int) p0).bind λz4=>some z4
theorem NR {w:Nat} {p0:List Int} {o:(List Int)} (h:aF) (m:vO w p0=some o):
 aM prog 141 [.sl none 1 (map f9 p0)] h (λr h'=>r= .sl none 1 (map f9 o)/\h'=h):=by
 refine fQ 7 [.tmp 2] Tryz.func141 rfl rfl rfl rfl ?_
 unfold vO at m
 refine v (v (v ?_))
 obtain⟨z4,Z5,m⟩:=aD m
 refine ve λu=>oM (c:=f9) Z5 xW rfl rfl u nofun rfl λtg6 t7 K8=>qk K8 rfl (v ?_)
 obtain rfl:=eR m
 exact vr λu=>dW.of1 (.inl rfl) (gQ _ _ (ow _ _ _) rfl) (aU (nil_sublist _) u).1 ((dU _ 0 t7 u rfl)) ⟨rfl,rfl⟩
theorem EV:aP prog 141=true:=by kernel_rfl
def tK (m:Nat) (p0:bE) (q0:List cT) (q1:Int):Option (Lp ((List cT)×Int) (bE)):=
 if decide (q1 < (p0.Parts.length:Int)) then ((ix p0.Parts q1).bind λx0=>(app ([]:List bH) x0.Ids).bind λz0=>(app q0 ([({ Path:=x0.Path,Size:=x0.Size,Ids:=z0}:cT)]:List cT)).bind λz1=>Gk (z1,wrap .i64 (q1+1))) else Bk (q0,q1)
def G4 (m:Nat) (p0:bE):Option (bE):=
 after (aR (λs=>tK m p0 s.1 s.2) m ([],0)) λ⟨r0,r1⟩=>some ({ Name:=p0.Name,Parts:=r0}:bE)
theorem aBO {w:Nat} {p0:bE} {o:bE} (h:aF) (m:G4 w p0=some o):
 aM prog 150 [.agg (bI p0)] h (λr h'=>r= .agg (bI o)/\h'=h):=by
 refine fQ 31 [.cell 2 58] Tryz.func150 rfl rfl rfl rfl ?_
 unfold G4 at m
 refine v (gZ rfl rfl λk2 K3=>ve λu=>bG ([.sc (.string empty),sZ]) u MW rfl rfl λk5 K6=>qk K6 rfl (v (v (pM (z6 (.tok 70 3 (([]:List cT).length*3)) 3 (ow none 3 (map bX [])) (gD _ _)) (nU m (σ:=(List cT)×Int) (τ:=Option bT) (λg s=>[(g,.tok 70 3 ((s.1:List cT).length*3)),(some k5,.obj 58 ([.sc (.string empty),sZ])),(some k2,.obj 58 (bI p0))]) (λg s=>(g=none->s.1= [])) (λg s=>.c 1 (.ptr k2 0) (.c 2 (.ptr k5 0) (.c 3 (ow g 3 (map bX s.1)) (.c 4 (nZ s.2) .nil)))) none (λ_=>rfl) (lx (.k4 .nil)) ?_ ?_)))))
 rintro tg0 ⟨q0,q1⟩ x t0 m
 replace m:tK w p0 q0 q1=some x:=m
 unfold tK at m
 refine v (vl 2 _ oO rfl rfl rfl (cU xX rfl (v ?_)))
 apply vi m<;>intro c0 m
 refine v (v (v (vl 2 _ oO rfl rfl rfl (vx m qQ rfl rfl λx0 _ m=>va (.agg (bX x0)) EL rfl rfl (ve λu=>bG (YU) u J6 rfl rfl λk103 K0=>qk K0 rfl (ve λu=>aL 0 (bX x0) u rfl rfl rfl rfl MX rfl rfl λK1=>qk K1 rfl (v (v (vl 0 _ yC rfl rfl rfl ?_)))))))))
 obtain⟨z0,Z0,m⟩:=aD m
 refine ve λu=>oM (c:=bC) Z0 CI rfl rfl u nofun rfl λtg1 t1 K2=>qk K2 rfl (ve λu=>aL 1 ([.sc (.string x0.Path),nZ x0.Size,ow tg1 32 (map bC z0)]) u rfl rfl (jN rfl) (pQ _ _ _) VO rfl rfl λK4=>qk K4 rfl (v (vl 1 (.agg ([.sc (.string x0.Path),nZ x0.Size,ow tg1 32 (map bC z0)])) EL rfl rfl rfl (ve λu=>CD (t:=25) (.agg (bX ({ Path:=x0.Path,Size:=x0.Size,Ids:=z0}:cT))) (aU (.cons _ (.refl _)) u).1 (bD.agg (.k2 (.cons (nY _ 0 t1 u rfl (.refl _)) .nil))) (ZW (dX (map bX ([({ Path:=x0.Path,Size:=x0.Size,Ids:=z0}:cT)]:List cT)) J5 rfl rfl rfl rfl) (qk ((aU (.cons _ (.refl _)) u).2) rfl ?_))))))
 obtain⟨z1,Z1,m⟩:=aD m
 exact ve λu=>fC (c:=bX) 1 Z1 J5 rfl rfl rfl t0 u rfl λtg2 t2 K5=>qk K5 rfl (v (eG m tg2 t2 (mK [1,2,3] rfl rfl (.k4 .nil))))
 exact v (lR m tg0 t0 (lx (.k4 .nil)))
 rintro tg3 ⟨r0,r1⟩ t3 m
 refine v (ve λu=>aL 2 ([.sc (.string p0.Name),ow tg3 3 (map bX r0)]) u rfl rfl (jN rfl) (pQ _ _ _) VA rfl rfl λK7=>qk K7 rfl (v (vl 2 (.agg ([.sc (.string p0.Name),ow tg3 3 (map bX r0)])) pW rfl rfl rfl (ve λu=>aL 1 ([.sc (.string p0.Name),ow tg3 3 (map bX r0)]) u rfl rfl rfl (by repeat (first | exact rfl | refine cG (jO _ _ _) ?_ | refine cG (cC _ _ _) ?_ | refine cG (gK _ _ _ _) ?_ | refine cG rfl ?_)) z7 rfl rfl λK8=>qk K8 rfl ?_))))
 refine v ?_
 cases m
 exact vr λu=>dW.of1 (.inl rfl) (sJ (.agg ([.sc (.string p0.Name),ow tg3 3 (map bX r0)])) pW rfl (aW 1 u rfl) rfl) (aU (nil_sublist _) u).1 (bD.agg (.cons (bD.refl _ _) (.cons ((dU _ 0 t3 u rfl)) .nil))) ⟨rfl,rfl⟩
theorem UA:aP prog 150=true:=by kernel_rfl
def tL (m:Nat) (p0:List aB) (q0:List aB) (q1:Int):Option (Lp ((List aB)×Int) ((List aB))):=
 if decide (q1 < (p0.length:Int)) then ((ix p0 q1).bind λx0=>(vO m x0.Data).bind λy0=>(wM m x0.Locs).bind λy1=>(app q0 ([{ { x0 with Data:=y0} with Locs:=y1}]:List aB)).bind λz0=>Gk (z0,wrap .i64 (q1+1))) else Bk (q0,q1)
def KE (m:Nat) (p0:List aB):Option ((List aB)):=
 after (aR (λs=>tL m p0 s.1 s.2) m ([],0)) λ⟨r0,r1⟩=>some r0
theorem aG4 {w:Nat} {p0:List aB} {o:(List aB)} (h:aF) (m:KE w p0=some o):
 aM prog 152 [.sl none 35 (map aK p0)] h (λr h'=>r= .sl none 35 (map aK o)/\h'=h):=by
 refine fQ 29 [.tmp 2] Tryz.func152 rfl rfl rfl rfl ?_
 unfold KE at m
 refine v (v (v (pM (z6 (.tok 44 35 (([]:List aB).length*35)) 3 (ow none 35 (map aK [])) (gD _ _)) (nU m (σ:=(List aB)×Int) (τ:=Option bT) (λg s=>[(g,.tok 44 35 ((s.1:List aB).length*35))]) (λg s=>(g=none->s.1= [])) (λg s=>.c 0 (.sl none 35 (map aK p0)) (.c 3 (ow g 35 (map aK s.1)) (.c 4 (nZ s.2) .nil))) none (λ_=>rfl) (lx (.k3 .nil)) ?_ ?_))))
 rintro tg0 ⟨q0,q1⟩ x t0 m
 replace m:tL w p0 q0 q1=some x:=m
 unfold tL at m
 refine v (cU lH rfl (v ?_))
 apply vi m<;>intro c0 m
 refine v (v (v (vx m hX rfl rfl λx0 _ m=>va (.agg (aK x0)) pH rfl rfl (ve λu=>bG (bC gY++(TE:List AV)) u qP rfl rfl λk109 K0=>qk K0 rfl (ve λu=>aL 0 (aK x0) u rfl rfl rfl rfl EK rfl rfl λK1=>qk K1 rfl (v (vz [(7,some k109,.obj 44 (aK x0))] mixed (λu=>⟨λ_=>aO 0 u rfl,trivial⟩) λu=>zF 0 rfl lY rfl (zL 1 0 (.sl none 1 (map f9 x0.Data)) rfl n6 rfl rfl rfl ?_))))))))
 obtain⟨y0,Y0,m⟩:=aD m
 refine zC 2 rfl (bV (NR _ Y0) rfl EV rfl) (zF 3 rfl jW rfl (zL 4 0 (.sl none 4 (map aN x0.Locs)) rfl fW rfl rfl rfl ?_))
 obtain⟨y1,Y1,m⟩:=aD m
 refine zC 5 rfl (bV (NQ _ Y1) rfl EU rfl) (zF 6 rfl lY rfl (zE 7 rfl (aL 0 (aK { x0 with Data:=y0}) u rfl rfl rfl rfl EJ rfl rfl λK2=>⟨⟨λe=>absurd e (by decide),trivial⟩, ?_⟩)))
 refine zF 8 rfl jW rfl (zE 9 rfl (aL 0 (aK { { x0 with Data:=y0} with Locs:=y1}) K2 rfl rfl rfl rfl pU rfl rfl λK3=>⟨⟨λe=>absurd e (by decide),trivial⟩, ?_⟩))
 refine zX (qk (f:=Q8 23 _ _ _ _ _ _ _ _ _) K3 rfl (v (vl 0 (.agg (aK { { x0 with Data:=y0} with Locs:=y1})) pH rfl rfl rfl (bU (dX (map aK ([{ { x0 with Data:=y0} with Locs:=y1}]:List aB)) pE rfl rfl rfl rfl) ?_))))
 obtain⟨z0,Z0,m⟩:=aD m
 exact ve λu=>fC (c:=aK) 1 Z0 pE rfl rfl rfl t0 u rfl λtg1 t1 K4=>qk K4 rfl (v (eG m tg1 t1 (mK [1] rfl rfl (.k3 .nil))))
 exact v (lR m tg0 t0 (lx (.k3 .nil)))
 rintro tg2 ⟨r0,r1⟩ t2 m
 refine v (v ?_)
 obtain rfl:=eR m
 exact vr λu=>dW.of1 (.inl rfl) (gQ _ _ (ow _ _ _) rfl) (aU (nil_sublist _) u).1 ((dU _ 0 t2 u rfl)) ⟨rfl,rfl⟩
theorem NS:aP prog 152=true:=by kernel_rfl
def G5 (m:Nat) (p0:aA) (q0:List aH) (q1:Int):Option (Lp ((List aH)×Int) (aA)):=
 if decide (q1 < (p0.Snaps.length:Int)) then ((ix p0.Snaps q1).bind λx0=>(G4 m x0.Man).bind λy0=>(wM m x0.Locs).bind λy1=>(app q0 ([{ { x0 with Man:=y0} with Locs:=y1}]:List aH)).bind λz0=>Gk (z0,wrap .i64 (q1+1))) else Bk (q0,q1)
def G6 (m:Nat) (p0:aA) (q0:List aT) (q1:Int):Option (Lp ((List aT)×Int) (aA)):=
 if decide (q1 < (p0.Exps.length:Int)) then ((ix p0.Exps q1).bind λx0=>(wM m x0.Locs).bind λy0=>(app q0 ([{ x0 with Locs:=y0}]:List aT)).bind λz0=>Gk (z0,wrap .i64 (q1+1))) else Bk (q0,q1)
def M90 (m:Nat) (p0:aA):Option (aA):=
 after (aR (λs=>G5 m p0 s.1 s.2) m ([],0)) λ⟨r0,r1⟩=>after (aR (λs=>G6 m p0 s.1 s.2) m ([],0)) λ⟨r2,r3⟩=>(KE m p0.Chunks).bind λy0=>(app ([]:List aQ) p0.Vols).bind λz0=>some ({ Seq:=p0.Seq,Snaps:=r0,Chunks:=y0,Exps:=r2,Vols:=z0}:aA)
theorem aG5:aP prog 90=true:=by kernel_rfl
end Go.Proofs.YtbbifdfldpfphaaGreat
