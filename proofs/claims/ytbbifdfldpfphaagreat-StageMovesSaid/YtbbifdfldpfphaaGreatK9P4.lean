import Derived.Test.YtbbifdfldpfphaaGreatK9P3
import Derived.Test.YtbbifdfldpfphaaGreatK9P1
import Derived.Lib.Bytealg
set_option linter.unusedSimpArgs false
set_option linter.unusedVariables false
set_option maxHeartbeats 4000000
set_option maxRecDepth 100000
open Bool(false_eq_true)
open Int(ofNat_lt)
open Go.IntKind(wrap)
open List(any_eq_false any_eq_true getElem?_eq_getElem getElem_mem map mem_append mem_of_getElem? mem_range mem_singleton nil_sublist range)
open Nat(lt_or_ge pos_of_ne_zero)
open Option(any_some bind_some)
open Go.Proofs.Tryz(prog)
namespace Go.Proofs.YtbbifdfldpfphaaGreat
open Go.Vm
def IU (m:Nat) (p0:Int) (p1:Int) (p2:Int):Option (Bool):=
 after (if decide (p1<=p0) then (Bk (decide (p0<=p2))) else Bk false:Option (Lp (Bool) (Bool))) λj4=>some j4
theorem QZ {u:Nat} {p0:Int} {p1:Int} {p2:Int} {o:Bool} (h:aF) (m:IU u p0 p1 p2=some o):
 aM prog 97 [nZ p0,nZ p1,nZ p2] h (λr h'=>r= .sc (.bool o)/\h'=h):=by
 refine fM 15 [.tmp 6] Tryz.func97 rfl rfl rfl rfl ?_
 unfold IU at m
 refine v (vs (fP m (σ:=Bool) (λs=>[]) (λs=>.c 6 (.sc (.bool s)) .nil) (λx m=> ?_) ?_))
 refine v ?_
 apply vi m<;>intro b5 m
 rw[b5]
 exact nI m
 rw[b5]
 exact nI m
 rintro _ j4 m
 refine v ?_
 obtain rfl:=eT m
 exact eI rfl
theorem AO:aP prog 97=true:=by kernel_rfl
def w9 (m:Nat) (p0:bK) (p1:bK) (q0:Int):Option (Lp (Int) (Bool)):=
 if decide (q0 < 32) then ((ix p0.1 q0).bind λx0=>(ix p1.1 q0).bind λx1=>if (x0 !=x1)then ((ix p0.1 q0).bind λx2=>(ix p1.1 q0).bind λx3=>Rk (decide (x2 < x3))) else Gk (wrap .i64 (q0+1))) else Bk q0
def NS (m:Nat) (p0:bK) (p1:bK):Option (Bool):=
 after (aT (λs=>w9 m p0 p1 s) m 0) λr0=>some false
theorem aBF {w:Nat} {p0:bK} {p1:bK} {o:Bool} (h:aF) (m:NS w p0 p1=some o):
 aM prog 147 [.agg (bF p0),.agg (bF p1)] h (λr h'=>r= .sc (.bool o)/\h'=h):=by
 refine fM 24 [.tmp 4] Tryz.func147 rfl rfl rfl rfl ?_
 unfold NS at m
 refine v (gX rfl rfl λk2 K3=>gX rfl rfl λk5 K6=>v (jT m (σ:=Int) (λs=>[(some k5,.obj 36 (bF p1)),(some k2,.obj 36 (bF p0))]) (λs=>.c 2 (.ptr k2 0) (.c 3 (.ptr k5 0) (.c 5 (nZ s) .nil))) (lx (.k3 .nil)) ?_ ?_))
 rintro _ q0 x m
 replace m:w9 w p0 p1 q0=some x:=m
 unfold w9 at m
 refine v (v ?_)
 apply vi m<;>intro c0 m
 refine v (v (v (vq (by kernel_rfl) ?_)))
 obtain⟨_,X0,m⟩:=aC m
 refine bV (mK X0 yE rfl rfl) (vn (λu=>nR 0 X0 ES rfl (a9 1 u rfl) rfl) ?_)
 obtain⟨_,X1,m⟩:=aC m
 refine bV (mK X1 yE rfl rfl) (vn (λu=>nR 0 X1 ES rfl (a9 0 u rfl) rfl) (v ?_))
 apply vi m<;>intro c1 m
 refine v (vq (by kernel_rfl) ?_)
 obtain⟨_,X2,m⟩:=aC m
 refine bV (mK X2 yE rfl rfl) (vn (λu=>nR 0 X2 ES rfl (a9 1 u rfl) rfl) ?_)
 obtain⟨_,X3,m⟩:=aC m
 refine bV (mK X3 yE rfl rfl) (vn (λu=>nR 0 X3 ES rfl (a9 0 u rfl) rfl) (v (gM m λm=> ?_)))
 cases m
 exact eI rfl
 exact v (v (hX m))
 exact v (G7 m)
 rintro _ r0 m
 refine v (v ?_)
 obtain rfl:=eT m
 exact eI rfl
theorem UH:aP prog 147=true:=by kernel_rfl
def tK (m:Nat) (p0:aA) (p1:List aS) (q0:Int):Option (Lp (Int) (Bool)):=
 if decide (q0 < (p1.length:Int)) then ((ix p1 q0).bind λx0=>after (if decide (x0.Vol < 0) then Bk true else if decide ((p0.Vols.length:Int)<=x0.Vol) then Bk true else (ix p0.Vols x0.Vol).bind λx1=>if (x1.State !=2)then Bk true else (ix p0.Vols x0.Vol).bind λx2=>(IU m x0.File 1 x2.Files).bind λy0=>if (!y0)then Bk true else (IU m x0.Off 0 16777215).bind λy1=>if (!y1)then Bk true else (IU m x0.Len 13 8013).bind λy2=>Bk (!y2):Option (Lp (Bool) (Lp (Int) (Bool)))) λj0=>if j0 then Rk false else after (if decide (0 < q0) then ((ix p1 (wrap .i64 (q0 - 1))).bind λx3=>after (if decide (x3.Vol < x0.Vol) then (Bk (!true)) else if (x3.Vol==x0.Vol)then (if decide (x3.File < x0.File) then (Bk (!true)) else if (x3.File==x0.File)then (Bk (!(decide (x3.Off < x0.Off)))) else Bk (!false)) else Bk (!false):Option (Lp (Bool) (Lp (Unit) (Lp (Int) (Bool))))) λj1=>if j1 then (Rk (.ret false)) else Bk ()) else Bk ():Option (Lp (Unit) (Lp (Int) (Bool)))) λ_=>Gk (wrap .i64 (q0+1))) else Bk q0
def AP (m:Nat) (p0:aA) (p1:List aS):Option (Bool):=
 if decide (200 < (p1.length:Int)) then (some false) else after (aT (λs=>tK m p0 p1 s) m 0) λr0=>some true
theorem KP {w:Nat} {p0:aA} {p1:List aS} {o:Bool} (h:aF) (m:AP w p0 p1=some o):
 aM prog 148 [.agg (aD p0),.sl none 4 (map aO p1)] h (λr h'=>r= .sc (.bool o)/\h'=h):=by
 refine fM 108 [.tmp 4] Tryz.func148 rfl rfl rfl rfl ?_
 unfold AP at m
 refine v (gX rfl rfl λk2 K3=>v (dI kC rfl (v ?_)))
 apply vi m<;>intro c7 m
 refine v (v ?_)
 obtain rfl:=eT m
 exact eI rfl
 refine v (v (jT m (σ:=Int) (λs=>[(some k2,.obj 30 (aD p0))]) (λs=>.c 1 (.sl none 4 (map aO p1)) (.c 2 (.ptr k2 0) (.c 5 (nZ s) .nil))) (lx (.k3 .nil)) ?_ ?_))
 rintro _ q0 x m
 replace m:tK w p0 p1 q0=some x:=m
 unfold tK at m
 refine v (dI kC rfl (v ?_))
 apply vi m<;>intro c0 m
 refine v (v (v (vx m jH rfl rfl λx0 _ m=>va (.agg (aO x0)) nM rfl rfl (ve λu=>bE (J1) u EX rfl rfl λk202 K0=>qk K0 rfl (ve λu=>aL 0 (aO x0) u rfl rfl rfl rfl NE rfl rfl λK1=>qk K1 rfl (vs (vs (fP m (σ:=Bool) (λs=>[(some k202,.obj 81 (aO x0)),(some k2,.obj 30 (aD p0))]) (λs=>.c 1 (.sl none 4 (map aO p1)) (.c 2 (.ptr k2 0) (.c 5 (nZ q0) (.c 6 (.ptr k202 0) (.c 66 (.sc (.bool s)) .nil))))) (λx m=> ?_) ?_))))))))
 refine v (vq (by kernel_rfl) (vl 0 _ cG rfl rfl rfl ?_))
 apply vi m<;>intro b0 m
 rw[b0]
 exact lE m
 rw[b0]
 refine vl 0 _ cG rfl rfl rfl (vl 1 _ gH rfl rfl rfl (dI pM rfl ?_))
 apply vi m<;>intro b1 m
 rw[b1]
 exact lE m
 rw[b1]
 refine vl 1 _ gH rfl rfl rfl (vl 0 _ cG rfl rfl rfl (vx m kZ rfl rfl λ_ _ m=> ?_))
 apply vi m<;>intro b2 m
 rw[b2]
 exact lE m
 rw[b2]
 refine vl 0 _ cG rfl rfl rfl (vl 1 _ gH rfl rfl rfl (vl 0 _ cG rfl rfl rfl (vx m kZ rfl rfl λ_ _ m=>vk QZ AO m rfl rfl λ_ m=> ?_)))
 apply vi m<;>intro b3 m
 rw[b3]
 exact lE m
 rw[b3]
 refine vl 0 _ cG rfl rfl rfl (vk QZ AO m rfl rfl λ_ m=> ?_)
 apply vi m<;>intro b4 m
 rw[b4]
 exact lE m
 rw[b4]
 exact vl 0 _ cG rfl rfl rfl (vk QZ AO m rfl rfl λ_ m=>lE m)
 rintro _ j0 m
 refine v ?_
 apply vi m<;>intro c1 m
 refine v (v (gM m λm=> ?_))
 obtain rfl:=eT m
 exact eI rfl
 refine v (v (fP m (σ:=Unit) (λs=>[(some k202,.obj 81 (aO x0)),(some k2,.obj 30 (aD p0))]) (λs=>.c 1 (.sl none 4 (map aO p1)) (.c 2 (.ptr k2 0) (.c 5 (nZ q0) .nil))) (λx m=> ?_) ?_))
 refine v ?_
 apply vi m<;>intro c2 m
 refine v (vx m jH rfl rfl λx1 _ m=>va (.agg (aO x1)) nM rfl rfl (ve λu=>bE (J1) u EX rfl rfl λk268 K2=>qk K2 rfl (ve λu=>aL 0 (aO x1) u rfl rfl rfl rfl NE rfl rfl λK4=>qk K4 rfl (vs (fP m (σ:=Bool) (λs=>[(some k268,.obj 81 (aO x1)),(some k202,.obj 81 (aO x0)),(some k2,.obj 30 (aD p0))]) (λs=>.c 1 (.sl none 4 (map aO p1)) (.c 2 (.ptr k2 0) (.c 5 (nZ q0) (.c 107 (.sc (.bool s)) .nil)))) (λx m=> ?_) ?_)))))
 refine v (vl 0 _ cG rfl rfl rfl (vl 1 _ cG rfl rfl rfl ?_))
 apply vi m<;>intro b5 m
 rw[b5]
 exact fV m
 rw[b5]
 refine vl 0 _ cG rfl rfl rfl (vl 1 _ cG rfl rfl rfl ?_)
 apply vi m<;>intro b6 m
 rw[b6]
 refine vl 0 _ cG rfl rfl rfl (vl 1 _ cG rfl rfl rfl ?_)
 apply vi m<;>intro b7 m
 rw[b7]
 exact fV m
 rw[b7]
 refine vl 0 _ cG rfl rfl rfl (vl 1 _ cG rfl rfl rfl ?_)
 apply vi m<;>intro b8 m
 rw[b8]
 exact vl 0 _ cG rfl rfl rfl (vl 1 _ cG rfl rfl rfl (fV m))
 rw[b8]
 exact fV m
 rw[b6]
 exact fV m
 rintro _ j1 m
 refine v ?_
 apply vi m<;>intro c3 m
 refine v (v (gM m λm=>gM m λm=> ?_))
 obtain rfl:=eT m
 exact eI rfl
 exact v (z8 m (mG [1,2] rfl rfl (.k3 .nil)))
 exact v (hX m)
 rintro _ _ m
 exact v (z8 m (mG [1] rfl rfl (.k3 .nil)))
 exact v (G7 m)
 rintro _ r0 m
 refine v (v ?_)
 obtain rfl:=eT m
 exact eI rfl
theorem BO:aP prog 148=true:=by kernel_rfl
def tL (m:Nat) (p0:ByteArray) (q0:Int):Option (Lp (Int) (Bool)):=
 if decide (q0 < (p0.size:Int)) then (after ((RG p0 q0).bind λx0=>if decide (x0 < 33) then Bk true else (RG p0 q0).bind λx1=>Bk (decide (126 < x1)):Option (Lp (Bool) (Lp (Int) (Bool)))) λj0=>if j0 then Rk false else Gk (wrap .i64 (q0+1))) else Bk q0
def C1 (m:Nat) (p0:ByteArray):Option (Bool):=
 after (aT (λs=>tL m p0 s) m 0) λr0=>after (if decide (1<=(p0.size:Int)) then (Bk (decide ((p0.size:Int)<=20))) else Bk false:Option (Lp (Bool) (Bool))) λj0=>some j0
theorem NT {u:Nat} {p0:ByteArray} {o:Bool} (h:aF) (m:C1 u p0=some o):
 aM prog 140 [.sc (.string p0)] h (λr h'=>r= .sc (.bool o)/\h'=h):=by
 refine fM 28 [.tmp 2] Tryz.func140 rfl rfl rfl rfl ?_
 unfold C1 at m
 refine v (v (jT m (σ:=Int) (λs=>[]) (λs=>.c 0 (.sc (.string p0)) (.c 3 (nZ s) .nil)) (lx (.k2 .nil)) ?_ ?_))
 rintro _ q0 x m
 replace m:tL u p0 q0=some x:=m
 unfold tL at m
 refine v (bV (rL VS rfl) (v ?_))
 apply vi m<;>intro c0 m
 refine v (v (vs (fP m (σ:=Bool) (λs=>[]) (λs=>.c 0 (.sc (.string p0)) (.c 3 (nZ q0) (.c 19 (.sc (.bool s)) .nil))) (λx m=> ?_) ?_)))
 refine v ?_
 obtain⟨_,X0,m⟩:=aC m
 refine bV (IM X0 u9 rfl rfl) ?_
 apply vi m<;>intro b0 m
 rw[b0]
 exact hX m
 rw[b0]
 obtain⟨_,X1,m⟩:=aC m
 exact bV (IM X1 u9 rfl rfl) (hX m)
 rintro _ j0 m
 refine v ?_
 apply vi m<;>intro c1 m
 refine v (v (gM m λm=> ?_))
 obtain rfl:=eT m
 exact eI rfl
 exact v (v (w7 m))
 exact v (LY m)
 rintro _ r0 m
 refine vs (fP m (σ:=Bool) (λs=>[]) (λs=>.c 2 (.sc (.bool s)) .nil) (λx m=> ?_) ?_)
 refine v (bV (rL VS rfl) ?_)
 apply vi m<;>intro b1 m
 rw[b1]
 exact bV (rL VS rfl) (nI m)
 rw[b1]
 exact nI m
 rintro _ j1 m
 refine v ?_
 obtain rfl:=eT m
 exact eI rfl
theorem E6:aP prog 140=true:=by kernel_rfl
def yS (m:Nat) (p0:bG) (q0:Int):Option (Lp (Int) (Bool)):=
 if decide (q0 < (p0.Parts.length:Int)) then ((ix p0.Parts q0).bind λx0=>after ((C1 m x0.Path).bind λy0=>if (!y0)then Bk true else if decide (0 < q0) then ((ix p0.Parts (wrap .i64 (q0 - 1))).bind λx1=>if (Op.bytesLess x0.Path.toList x1.Path.toList || x0.Path.toList==x1.Path.toList)then Bk true else if decide (x0.Size < 0) then Bk true else if decide (200 < x0.Size) then Bk true else if decide (25 < (x0.Ids.length:Int)) then Bk true else Bk (((x0.Ids.length:Int)==0) !=(x0.Size==0))) else if decide (x0.Size < 0) then Bk true else if decide (200 < x0.Size) then Bk true else if decide (25 < (x0.Ids.length:Int)) then Bk true else Bk (((x0.Ids.length:Int)==0) !=(x0.Size==0)):Option (Lp (Bool) (Lp (Int) (Bool)))) λj0=>if j0 then Rk false else Gk (wrap .i64 (q0+1))) else Bk q0
def YU (m:Nat) (p0:bG):Option (Bool):=
 after ((C1 m p0.Name).bind λy0=>if (!y0)then Bk true else Bk (decide (6 < (p0.Parts.length:Int))):Option (Lp (Bool) (Bool))) λj0=>if j0 then (some false) else after (aT (λs=>yS m p0 s) m 0) λr0=>some true
theorem W98 {w:Nat} {p0:bG} {o:Bool} (h:aF) (m:YU w p0=some o):
 aM prog 98 [.agg (bP p0)] h (λr h'=>r= .sc (.bool o)/\h'=h):=by
 refine fM 73 [.tmp 2] Tryz.func98 rfl rfl rfl rfl ?_
 unfold YU at m
 refine v (gX rfl rfl λk2 K3=>vs (vs (fP m (σ:=Bool) (λs=>[(some k2,.obj 58 (bP p0))]) (λs=>.c 1 (.ptr k2 0) (.c 14 (.sc (.bool s)) .nil)) (λx m=> ?_) ?_)))
 refine v (vl 0 _ IT rfl rfl rfl (vk NT E6 m rfl rfl λ_ m=> ?_))
 apply vi m<;>intro b0 m
 rw[b0]
 exact w7 m
 rw[b0]
 exact vl 0 _ oW rfl rfl rfl (dI AH rfl (w7 m))
 rintro _ j0 m
 refine v ?_
 apply vi m<;>intro c0 m
 refine v (v ?_)
 obtain rfl:=eT m
 exact eI rfl
 refine v (v (jT m (σ:=Int) (λs=>[(some k2,.obj 58 (bP p0))]) (λs=>.c 1 (.ptr k2 0) (.c 3 (nZ s) .nil)) (lx (.k2 .nil)) ?_ ?_))
 rintro _ q0 x m
 replace m:yS w p0 q0=some x:=m
 unfold yS at m
 refine v (vl 0 _ oW rfl rfl rfl (dI AH rfl (v ?_)))
 apply vi m<;>intro c1 m
 refine v (v (v (vl 0 _ oW rfl rfl rfl (vx m tA rfl rfl λx0 _ m=>va (.agg (cC x0)) EW rfl rfl (ve λu=>bE (ZL) u KJ rfl rfl λk112 K0=>qk K0 rfl (ve λu=>aL 0 (cC x0) u rfl rfl rfl rfl NC rfl rfl λK1=>qk K1 rfl (vs (fP m (σ:=Bool) (λs=>[(some k112,.obj 70 (cC x0)),(some k2,.obj 58 (bP p0))]) (λs=>.c 1 (.ptr k2 0) (.c 3 (nZ q0) (.c 72 (.sc (.bool s)) .nil))) (λx m=> ?_) ?_))))))))
 refine v (vq (by kernel_rfl) (vl 0 _ IT rfl rfl rfl (vk NT E6 m rfl rfl λ_ m=> ?_)))
 apply vi m<;>intro b1 m
 rw[b1]
 exact hX m
 rw[b1]
 apply vi m<;>intro b2 m
 rw[b2]
 refine vl 0 _ IT rfl rfl rfl (vl 1 _ oW rfl rfl rfl (vx m tA rfl rfl λ_ _ m=>bV (GT rfl rfl rfl trivial) ?_))
 apply vi m<;>intro b3 m
 rw[b3]
 exact hX m
 rw[b3]
 refine vl 0 _ cG rfl rfl rfl ?_
 apply vi m<;>intro b4 m
 rw[b4]
 exact hX m
 rw[b4]
 refine vl 0 _ cG rfl rfl rfl ?_
 apply vi m<;>intro b5 m
 rw[b5]
 exact hX m
 rw[b5]
 refine vl 0 _ yL rfl rfl rfl (dI vO rfl ?_)
 apply vi m<;>intro b6 m
 rw[b6]
 exact hX m
 rw[b6]
 exact vl 0 _ yL rfl rfl rfl (dI vO rfl (vl 0 _ cG rfl rfl rfl (bV (U9 u4 rfl rfl rfl) (hX m))))
 rw[b2]
 refine vl 0 _ cG rfl rfl rfl ?_
 apply vi m<;>intro b7 m
 rw[b7]
 exact hX m
 rw[b7]
 refine vl 0 _ cG rfl rfl rfl ?_
 apply vi m<;>intro b8 m
 rw[b8]
 exact hX m
 rw[b8]
 refine vl 0 _ yL rfl rfl rfl (dI vO rfl ?_)
 apply vi m<;>intro b9 m
 rw[b9]
 exact hX m
 rw[b9]
 exact vl 0 _ yL rfl rfl rfl (dI vO rfl (vl 0 _ cG rfl rfl rfl (bV (U9 u4 rfl rfl rfl) (hX m))))
 rintro _ j1 m
 refine v ?_
 apply vi m<;>intro c2 m
 refine v (v (gM m λm=> ?_))
 obtain rfl:=eT m
 exact eI rfl
 exact v (v (z8 m (mG [1] rfl rfl (.k2 .nil))))
 exact v (LY m)
 rintro _ r0 m
 refine v (v ?_)
 obtain rfl:=eT m
 exact eI rfl
theorem aBG:aP prog 98=true:=by kernel_rfl
def xA (m:Nat) (p0:bK) (p1:bK) (q0:Int):Option (Lp (Int) (Bool)):=
 if decide (q0 < 32) then ((ix p0.1 q0).bind λx0=>(ix p1.1 q0).bind λx1=>if (x0 !=x1)then ((ix p0.1 q0).bind λx2=>(ix p1.1 q0).bind λx3=>Rk (decide (x2 < x3))) else Gk (wrap .i64 (q0+1))) else Bk q0
def RZ (m:Nat) (p0:bK) (p1:bK):Option (Bool):=
 after (aT (λs=>xA m p0 p1 s) m 0) λr0=>some false
theorem aGQ {w:Nat} {p0:bK} {p1:bK} {o:Bool} (h:aF) (m:RZ w p0 p1=some o):
 aM prog 167 [.agg (bF p0),.agg (bF p1)] h (λr h'=>r= .sc (.bool o)/\h'=h):=by
 refine fM 24 [.tmp 4] Tryz.func167 rfl rfl rfl rfl ?_
 unfold RZ at m
 refine v (gX rfl rfl λk2 K3=>gX rfl rfl λk5 K6=>v (jT m (σ:=Int) (λs=>[(some k5,.obj 36 (bF p1)),(some k2,.obj 36 (bF p0))]) (λs=>.c 2 (.ptr k2 0) (.c 3 (.ptr k5 0) (.c 5 (nZ s) .nil))) (lx (.k3 .nil)) ?_ ?_))
 rintro _ q0 x m
 replace m:xA w p0 p1 q0=some x:=m
 unfold xA at m
 refine v (v ?_)
 apply vi m<;>intro c0 m
 refine v (v (v (vq (by kernel_rfl) ?_)))
 obtain⟨_,X0,m⟩:=aC m
 refine bV (mK X0 yE rfl rfl) (vn (λu=>nR 0 X0 ES rfl (a9 1 u rfl) rfl) ?_)
 obtain⟨_,X1,m⟩:=aC m
 refine bV (mK X1 yE rfl rfl) (vn (λu=>nR 0 X1 ES rfl (a9 0 u rfl) rfl) (v ?_))
 apply vi m<;>intro c1 m
 refine v (vq (by kernel_rfl) ?_)
 obtain⟨_,X2,m⟩:=aC m
 refine bV (mK X2 yE rfl rfl) (vn (λu=>nR 0 X2 ES rfl (a9 1 u rfl) rfl) ?_)
 obtain⟨_,X3,m⟩:=aC m
 refine bV (mK X3 yE rfl rfl) (vn (λu=>nR 0 X3 ES rfl (a9 0 u rfl) rfl) (v (gM m λm=> ?_)))
 cases m
 exact eI rfl
 exact v (v (hX m))
 exact v (G7 m)
 rintro _ r0 m
 refine v (v ?_)
 obtain rfl:=eT m
 exact eI rfl
theorem aBH:aP prog 167=true:=by kernel_rfl
def tM (m:Nat) (p0:List bK) (p1:bK) (q0:Int):Option (Lp (Int) ((List bK)×Int×Bool)):=
 after (if decide (q0 < (p0.length:Int)) then ((ix p0 q0).bind λx0=>(RZ m x0 p1).bind λy0=>Bk y0) else Bk false:Option (Lp (Bool) (Lp (Int) ((List bK)×Int×Bool)))) λj0=>if j0 then (Gk (wrap .i64 (q0+1))) else Bk q0
def E7 (m:Nat) (p0:List bK) (p1:bK):Option ((List bK)×Int×Bool):=
 after (aT (λs=>tM m p0 p1 s) m 0) λr0=>after (if decide (r0 < (p0.length:Int)) then ((ix p0 r0).bind λx0=>Bk (decide (x0=p1))) else Bk false:Option (Lp (Bool) ((List bK)×Int×Bool))) λj0=>if j0 then (some (p0,r0,false)) else (slc p0 0 r0).bind λx1=>(app ([]:List bK) x1).bind λz0=>(app z0 ([p1]:List bK)).bind λz1=>(slc p0 r0 (p0).length).bind λx2=>(app z1 x2).bind λz2=>some (z2,r0,true)
theorem aBI {w:Nat} {p0:List bK} {p1:bK} {o:(List bK)×Int×Bool} (h:aF) (m:E7 w p0 p1=some o):
 aM prog 106 [.sl none 32 (map bF p0),.agg (bF p1)] h (λr h'=>r= .tup [.sl none 32 (map bF o.1),nZ o.2.1,.sc (.bool o.2.2)]/\h'=h):=by
 refine fM 51 [.tmp 4,.tmp 5,.tmp 6] Tryz.func106 rfl rfl rfl rfl ?_
 unfold E7 at m
 refine v (gX rfl rfl λk2 K3=>v (vs (jT m (σ:=Int) (λs=>[(some k2,.obj 36 (bF p1))]) (λs=>.c 0 (.sl none 32 (map bF p0)) (.c 3 (.ptr k2 0) (.c 7 (nZ s) .nil))) (lx (.k3 .nil)) ?_ ?_)))
 rintro _ q0 x m
 replace m:tM w p0 p1 q0=some x:=m
 unfold tM at m
 refine vs (vs (fP m (σ:=Bool) (λs=>[(some k2,.obj 36 (bF p1))]) (λs=>.c 0 (.sl none 32 (map bF p0)) (.c 3 (.ptr k2 0) (.c 7 (nZ q0) (.c 20 (.sc (.bool s)) .nil)))) (λx m=> ?_) ?_))
 refine v (vq (by kernel_rfl) (dI vO rfl ?_))
 apply vi m<;>intro b0 m
 rw[b0]
 exact vx m AL rfl rfl λx0 _ m=>va (.agg (bF x0)) fF rfl rfl (vl 0 (.agg (bF p1)) fF rfl rfl rfl (vk aGQ aBH m rfl rfl λ_ m=>fV m))
 rw[b0]
 exact fV m
 rintro _ j0 m
 refine v ?_
 apply vi m<;>intro c0 m
 exact v (v (v (hX m)))
 exact v (G7 m)
 rintro _ r0 m
 refine vs (vs (fP m (σ:=Bool) (λs=>[(some k2,.obj 36 (bF p1))]) (λs=>.c 0 (.sl none 32 (map bF p0)) (.c 3 (.ptr k2 0) (.c 7 (nZ r0) (.c 34 (.sc (.bool s)) .nil)))) (λx m=> ?_) ?_))
 refine v (vq (by kernel_rfl) (dI vO rfl ?_))
 apply vi m<;>intro b1 m
 rw[b1]
 exact vx m AL rfl rfl λx1 _ m=>va (.agg (bF x1)) fF rfl rfl (vl 0 (.agg (bF p1)) fF rfl rfl rfl (bV (BD EU T8 u5 ES rfl rfl) (fV m)))
 rw[b1]
 exact fV m
 rintro _ j1 m
 refine v ?_
 apply vi m<;>intro c1 m
 refine v (v ?_)
 cases m
 exact vr λu=>dW.of3 (.inl rfl) (gK _ _ (.sl _ _ _) rfl) (gK _ _ (.sc (.int _ _)) rfl) (gK _ _ (.sc (.bool _)) rfl) (aU (nil_sublist _) u).1 (bD.refl _ _) (bD.refl _ _) (bD.refl _ _) ⟨rfl,rfl⟩
 refine v (v (v (vz [(1000000,some k2,.obj 36 (bF p1))] mixed (λu=>⟨λ_=>aN 0 u rfl,trivial⟩) λu=>zC 0 rfl (fC (.sc (.slice _ _ _)) rfl) (zC 1 rfl (fC (.sl _ _ _) rfl) (zI 2 rfl rfl ?_)))))
 obtain⟨_,X0,m⟩:=aC m
 refine zC 3 rfl (pG X0 AL rfl rfl rfl rfl) (zL 5 0 (.agg (bF p1)) rfl fF rfl rfl rfl (zC 6 rfl (eJ (map bF ([p1]:List bK)) CY rfl rfl rfl rfl) ?_))
 obtain⟨z0,Z0,m⟩:=aC m
 refine zE 4 rfl (oQ (c:=bF) Z0 CY rfl rfl u nofun rfl λtg0 t0 K0=>⟨⟨λ_=>aN 1 K0 rfl,trivial⟩, ?_⟩)
 obtain⟨z1,Z1,m⟩:=aC m
 refine zE 7 rfl (fK (c:=bF) 0 Z1 CY rfl rfl rfl t0 K0 rfl λtg1 t1 K1=>⟨⟨λ_=>aN 1 K1 rfl,trivial⟩, ?_⟩)
 refine zC 8 rfl (iJ (ow _ _ _) rfl) (zX (qk (f:=.c 8 _ (.c 44 _ (.c 41 _ (.c 43 _ (.c 42 _ (T5 40 _ _ _ _ _)))))) K1 rfl (v ?_)))
 obtain⟨_,X1,m⟩:=aC m
 refine bV (pG X1 AL rfl rfl rfl rfl) ?_
 obtain⟨z2,Z2,m⟩:=aC m
 refine ve λu=>fK (c:=bF) 0 Z2 CY rfl rfl rfl t1 u rfl λtg2 t2 K2=>qk K2 rfl (v ?_)
 cases m
 exact vr λu=>dW.of3 (.inl rfl) (gK _ _ (ow _ _ _) rfl) (gK _ _ (.sc (.int _ _)) rfl) (gK _ _ (.sc (.bool _)) rfl) (aU (nil_sublist _) u).1 ((eB _ 0 t2 u rfl)) (bD.refl _ _) (bD.refl _ _) ⟨rfl,rfl⟩
theorem UI:aP prog 106=true:=by kernel_rfl
def vT (m:Nat) (p0:bG) (q0:Int) (q1:List bK) (q2:Int):Option (Lp ((List bK)×Int) (Lp ((List bK)×Int) ((List bK)))):=
 (ix p0.Parts q0).bind λx0=>if decide (q2 < (x0.Ids.length:Int)) then ((ix p0.Parts q0).bind λx1=>(ix x1.Ids q2).bind λx2=>(E7 m q1 x2).bind λy0=>Gk (y0.1,wrap .i64 (q2+1))) else Bk (q1,q2)
def vU (m:Nat) (p0:bG) (q0:List bK) (q1:Int):Option (Lp ((List bK)×Int) ((List bK))):=
 if decide (q1 < (p0.Parts.length:Int)) then (after (aT (λs=>vT m p0 q1 s.1 s.2) m (q0,0)) λ⟨r0,r1⟩=>Gk (r0,wrap .i64 (q1+1))) else Bk (q0,q1)
def M49 (m:Nat) (p0:bG):Option ((List bK)):=
 after (aT (λs=>vU m p0 s.1 s.2) m ([],0)) λ⟨r0,r1⟩=>some r0
theorem W49 {u:Nat} {p0:bG} {o:(List bK)} (h:aF) (m:M49 u p0=some o):
 aM prog 49 [.agg (bP p0)] h (λr h'=>r= .sl none 32 (map bF o)/\h'=h):=by
 refine fM 40 [.tmp 2] Tryz.func49 rfl rfl rfl rfl ?_
 unfold M49 at m
 refine v (gX rfl rfl λk2 K3=>v (v (jT m (σ:=(List bK)×Int) (λs=>[(some k2,.obj 58 (bP p0))]) (λs=>.c 1 (.ptr k2 0) (.c 3 (.sl none 32 (map bF s.1)) (.c 4 (nZ s.2) .nil))) (lx (.cons (bD.refl _ _) (.cons (bC _) (.cons (bD.refl _ _) .nil)))) ?_ ?_)))
 rintro _ ⟨q0,q1⟩ x m
 replace m:vU u p0 q0 q1=some x:=m
 unfold vU at m
 refine v (vl 0 _ oW rfl rfl rfl (dI AH rfl (v ?_)))
 apply vi m<;>intro c0 m
 refine v (v (v (jT m (σ:=(List bK)×Int) (λs=>[(some k2,.obj 58 (bP p0))]) (λs=>.c 1 (.ptr k2 0) (.c 3 (.sl none 32 (map bF s.1)) (.c 4 (nZ q1) (.c 5 (nZ s.2) .nil)))) (lx (.k4 .nil)) ?_ ?_)))
 rintro _ ⟨q2,q3⟩ x m
 replace m:vT u p0 q1 q2 q3=some x:=m
 unfold vT at m
 refine v (vl 0 _ oW rfl rfl rfl (vx m tA rfl rfl λ_ _ m=>dI vO rfl (v ?_)))
 apply vi m<;>intro c1 m
 exact v (v (v (vl 0 _ oW rfl rfl rfl (vx m tA rfl rfl λ_ _ m=>vx m AL rfl rfl λx0 _ m=>va (.agg (bF x0)) fF rfl rfl (vk aBI UI m rfl rfl λ_ m=>v (fV m))))))
 exact v (u0 m)
 rintro _ ⟨r0,r1⟩ m
 exact v (hX m)
 exact v (G7 m)
 rintro _ ⟨r2,r3⟩ m
 refine v (v ?_)
 obtain rfl:=eT m
 exact eI rfl
theorem aGR:aP prog 49=true:=by kernel_rfl
def oY (m:Nat) (p0:aA) (p1:bK) (q0:Int):Option (Lp (Int) (Int)):=
 if decide (q0 < (p0.Chunks.length:Int)) then ((ix p0.Chunks q0).bind λx0=>if decide (x0.Id=p1) then Rk q0 else Gk (wrap .i64 (q0+1))) else Bk q0
def LZ (m:Nat) (p0:aA) (p1:bK):Option (Int):=
 after (aT (λs=>oY m p0 p1 s) m 0) λr0=>some (-1)
theorem W88 {u:Nat} {p0:aA} {p1:bK} {o:Int} (h:aF) (m:LZ u p0 p1=some o):
 aM prog 88 [.agg (aD p0),.agg (bF p1)] h (λr h'=>r=nZ o/\h'=h):=by
 refine fM 22 [.tmp 4] Tryz.func88 rfl rfl rfl rfl ?_
 unfold LZ at m
 refine v (gX rfl rfl λk2 K3=>gX rfl rfl λk5 K6=>v (jT m (σ:=Int) (λs=>[(some k5,.obj 36 (bF p1)),(some k2,.obj 30 (aD p0))]) (λs=>.c 2 (.ptr k2 0) (.c 3 (.ptr k5 0) (.c 5 (nZ s) .nil))) (lx (.k3 .nil)) ?_ ?_))
 rintro _ q0 x m
 replace m:oY u p0 p1 q0=some x:=m
 unfold oY at m
 refine v (vl 1 _ fA rfl rfl rfl (dI kY rfl (v ?_)))
 apply vi m<;>intro c0 m
 refine v (v (v (vq (by kernel_rfl) (vl 1 _ fA rfl rfl rfl (vx m fZ rfl rfl λx0 _ m=>va (.agg (bF x0.Id)) fF rfl rfl (vl 0 (.agg (bF p1)) fF rfl rfl rfl (bV (BD EU T8 u5 ES rfl rfl) (v ?_))))))))
 apply vi m<;>intro c1 m
 refine v (v (gM m λm=> ?_))
 obtain rfl:=eT m
 exact eI rfl
 exact v (v (hX m))
 exact v (G7 m)
 rintro _ r0 m
 refine v (v ?_)
 cases m
 exact eI rfl
theorem R0:aP prog 88=true:=by kernel_rfl
def oZ (m:Nat) (p0:aA) (p1:ByteArray) (q0:Int):Option (Lp (Int) (Int)):=
 if decide (q0 < (p0.Snaps.length:Int)) then ((ix p0.Snaps q0).bind λx0=>if (x0.Man.Name.toList==p1.toList)then Rk q0 else Gk (wrap .i64 (q0+1))) else Bk q0
def yT (m:Nat) (p0:aA) (p1:ByteArray):Option (Int):=
 after (aT (λs=>oZ m p0 p1 s) m 0) λr0=>some (-1)
theorem WD {u:Nat} {p0:aA} {p1:ByteArray} {o:Int} (h:aF) (m:yT u p0 p1=some o):
 aM prog 149 [.agg (aD p0),.sc (.string p1)] h (λr h'=>r=nZ o/\h'=h):=by
 refine fM 23 [.tmp 4] Tryz.func149 rfl rfl rfl rfl ?_
 unfold yT at m
 refine v (gX rfl rfl λk2 K3=>v (jT m (σ:=Int) (λs=>[(some k2,.obj 30 (aD p0))]) (λs=>.c 1 (.sc (.string p1)) (.c 2 (.ptr k2 0) (.c 5 (nZ s) .nil))) (lx (.k3 .nil)) ?_ ?_))
 rintro _ q0 x m
 replace m:oZ u p0 p1 q0=some x:=m
 unfold oZ at m
 refine v (vl 0 _ fE rfl rfl rfl (dI kN rfl (v ?_)))
 apply vi m<;>intro c0 m
 refine v (v (v (vl 0 _ fE rfl rfl rfl (vx m jG rfl rfl λ_ _ m=>bV (GT rfl rfl rfl trivial) (v ?_)))))
 apply vi m<;>intro c1 m
 refine v (v (gM m λm=> ?_))
 obtain rfl:=eT m
 exact eI rfl
 exact v (v (hX m))
 exact v (G7 m)
 rintro _ r0 m
 refine v (v ?_)
 cases m
 exact eI rfl
theorem NU:aP prog 149=true:=by kernel_rfl
def rR (m:Nat) (p0:aA) (q0:Int):Option (Lp (Int) (Bool)):=
 if decide (q0 < (p0.Vols.length:Int)) then ((ix p0.Vols q0).bind λx0=>after ((IU m x0.Pool 0 1).bind λy0=>if (!y0)then Bk true else (IU m x0.Epoch 0 1048576).bind λy1=>Bk (!y1):Option (Lp (Bool) (Lp (Int) (Bool)))) λj0=>if j0 then Rk false else after (if (x0.State==1)then (Bk (x0.State==1)) else Bk (x0.State==3):Option (Lp (Bool) (Lp (Int) (Bool)))) λj1=>after (if j1 then (if (x0.Files !=0)then (Rk (.ret false)) else Bk ()) else if (x0.State==2)then ((IU m x0.Files 1 65535).bind λy2=>if (!y2)then (Rk (.ret false)) else Bk ()) else Rk (.ret false):Option (Lp (Unit) (Lp (Int) (Bool)))) λ_=>Gk (wrap .i64 (q0+1))) else Bk q0
def rS (m:Nat) (p0:aA) (q0:Int):Option (Lp (Int) (Bool)):=
 if decide (q0 < (p0.Chunks.length:Int)) then ((ix p0.Chunks q0).bind λx0=>after (if decide (0 < q0) then ((ix p0.Chunks (wrap .i64 (q0 - 1))).bind λx1=>(NS m x1.Id x0.Id).bind λy0=>if (!y0)then Bk true else (AP m p0 x0.Locs).bind λy1=>if (!y1)then Bk true else if x0.Staged then ((IU m (x0.Data.length:Int) 1 64).bind λy2=>if (!y2)then Bk true else if (!x0.Staged)then (if decide (0 < (x0.Data.length:Int)) then Bk true else Bk ((x0.Locs.length:Int)==0)) else Bk false) else if (!x0.Staged)then (if decide (0 < (x0.Data.length:Int)) then Bk true else Bk ((x0.Locs.length:Int)==0)) else Bk false) else (AP m p0 x0.Locs).bind λy3=>if (!y3)then Bk true else if x0.Staged then ((IU m (x0.Data.length:Int) 1 64).bind λy4=>if (!y4)then Bk true else if (!x0.Staged)then (if decide (0 < (x0.Data.length:Int)) then Bk true else Bk ((x0.Locs.length:Int)==0)) else Bk false) else if (!x0.Staged)then (if decide (0 < (x0.Data.length:Int)) then Bk true else Bk ((x0.Locs.length:Int)==0)) else Bk false:Option (Lp (Bool) (Lp (Int) (Bool)))) λj0=>if j0 then Rk false else Gk (wrap .i64 (q0+1))) else Bk q0
def vV (m:Nat) (p0:aA) (y0:(List bK)) (q0:Int):Option (Lp (Int) (Lp (Int) (Bool))):=
 if decide (q0 < (y0.length:Int)) then ((ix y0 q0).bind λx0=>(LZ m p0 x0).bind λy1=>if decide (y1 < 0) then (Rk (.ret false)) else Gk (wrap .i64 (q0+1))) else Bk q0
def vW (m:Nat) (p0:aA) (x0:aI) (q0:Int):Option (Lp (Int) (Lp (Int) (Bool))):=
 if decide (q0 < (p0.Exps.length:Int)) then ((ix p0.Exps q0).bind λx1=>if (x1.Of==x0.Seq)then (Rk (.ret false)) else Gk (wrap .i64 (q0+1))) else Bk q0
def rT (m:Nat) (p0:aA) (q0:Int):Option (Lp (Int) (Bool)):=
 if decide (q0 < (p0.Snaps.length:Int)) then ((ix p0.Snaps q0).bind λx0=>after (if decide (x0.Seq < 0) then Bk true else if decide (p0.Seq<=x0.Seq) then Bk true else if decide (0 < q0) then ((ix p0.Snaps (wrap .i64 (q0 - 1))).bind λx1=>if decide (x0.Seq<=x1.Seq) then Bk true else (YU m x0.Man).bind λy0=>if (!y0)then Bk true else (AP m p0 x0.Locs).bind λy1=>if (!y1)then Bk true else (yT m p0 x0.Man.Name).bind λy2=>Bk (y2 !=q0)) else (YU m x0.Man).bind λy3=>if (!y3)then Bk true else (AP m p0 x0.Locs).bind λy4=>if (!y4)then Bk true else (yT m p0 x0.Man.Name).bind λy5=>Bk (y5 !=q0):Option (Lp (Bool) (Lp (Int) (Bool)))) λj0=>if j0 then Rk false else (M49 m x0.Man).bind λy6=>after (aT (λs=>vV m p0 y6 s) m 0) λr0=>after (aT (λs=>vW m p0 x0 s) m 0) λr1=>Gk (wrap .i64 (q0+1))) else Bk q0
def o0 (m:Nat) (p0:aA) (q0:Int):Option (Lp (Int) (Bool)):=
 if decide (q0 < (p0.Exps.length:Int)) then ((ix p0.Exps q0).bind λx0=>after (if decide (x0.Seq < 0) then Bk true else if decide (p0.Seq<=x0.Seq) then Bk true else if decide (0 < q0) then ((ix p0.Exps (wrap .i64 (q0 - 1))).bind λx1=>if decide (x0.Seq<=x1.Seq) then Bk true else if decide (x0.Of < 0) then Bk true else if decide (x0.Seq<=x0.Of) then Bk true else (AP m p0 x0.Locs).bind λy0=>if (!y0)then Bk true else Bk ((x0.Locs.length:Int)==0)) else if decide (x0.Of < 0) then Bk true else if decide (x0.Seq<=x0.Of) then Bk true else (AP m p0 x0.Locs).bind λy1=>if (!y1)then Bk true else Bk ((x0.Locs.length:Int)==0):Option (Lp (Bool) (Lp (Int) (Bool)))) λj0=>if j0 then Rk false else Gk (wrap .i64 (q0+1))) else Bk q0
def WE (m:Nat) (p0:aA):Option (Bool):=
 after ((IU m p0.Seq 0 1073741824).bind λy0=>if (!y0)then Bk true else if decide (8 < (p0.Snaps.length:Int)) then Bk true else if decide (200 < (p0.Chunks.length:Int)) then Bk true else if decide (200 < (p0.Exps.length:Int)) then Bk true else (IU m (p0.Vols.length:Int) 1 8).bind λy1=>Bk (!y1):Option (Lp (Bool) (Bool))) λj0=>if j0 then (some false) else after (aT (λs=>rR m p0 s) m 0) λr0=>after (aT (λs=>rS m p0 s) m 0) λr1=>after (aT (λs=>rT m p0 s) m 0) λr2=>after (aT (λs=>o0 m p0 s) m 0) λr3=>some true
theorem W89 {w:Nat} {p0:aA} {o:Bool} (h:aF) (m:WE w p0=some o):
 aM prog 89 [.agg (aD p0)] h (λr h'=>r= .sc (.bool o)/\h'=h):=by
 refine fM 296 [.tmp 2] Tryz.func89 rfl rfl rfl rfl ?_
 unfold WE at m
 refine v (gX rfl rfl λk2 K3=>vs (vs (fP m (σ:=Bool) (λs=>[(some k2,.obj 30 (aD p0))]) (λs=>.c 1 (.ptr k2 0) (.c 42 (.sc (.bool s)) .nil)) (λx m=> ?_) ?_)))
 refine v (vl 0 _ cG rfl rfl rfl (vk QZ AO m rfl rfl λ_ m=> ?_))
 apply vi m<;>intro b0 m
 rw[b0]
 exact w7 m
 rw[b0]
 refine vl 0 _ fE rfl rfl rfl (dI kN rfl ?_)
 apply vi m<;>intro b1 m
 rw[b1]
 exact w7 m
 rw[b1]
 refine vl 0 _ fA rfl rfl rfl (dI kY rfl ?_)
 apply vi m<;>intro b2 m
 rw[b2]
 exact w7 m
 rw[b2]
 refine vl 0 _ gN rfl rfl rfl (dI nK rfl ?_)
 apply vi m<;>intro b3 m
 rw[b3]
 exact w7 m
 rw[b3]
 exact vl 0 _ gH rfl rfl rfl (dI pM rfl (vk QZ AO m rfl rfl λ_ m=>w7 m))
 rintro _ j0 m
 refine v ?_
 apply vi m<;>intro c0 m
 refine v (v ?_)
 obtain rfl:=eT m
 exact eI rfl
 refine v (v (jT m (σ:=Int) (λs=>[(some k2,.obj 30 (aD p0))]) (λs=>.c 1 (.ptr k2 0) (.c 3 (nZ s) .nil)) (lx (.k2 .nil)) ?_ ?_))
 rintro _ q0 x m
 replace m:rR w p0 q0=some x:=m
 unfold rR at m
 refine v (vl 0 _ gH rfl rfl rfl (dI pM rfl (v ?_)))
 apply vi m<;>intro c1 m
 refine v (v (v (vl 0 _ gH rfl rfl rfl (vx m kZ rfl rfl λx0 _ m=>va (.agg (dN x0)) aAN rfl rfl (ve λu=>bE (J1) u RS rfl rfl λk156 K0=>qk K0 rfl (ve λu=>aL 0 (dN x0) u rfl rfl rfl rfl aAO rfl rfl λK1=>qk K1 rfl (vs (vs (fP m (σ:=Bool) (λs=>[(some k156,.obj 49 (dN x0)),(some k2,.obj 30 (aD p0))]) (λs=>.c 1 (.ptr k2 0) (.c 3 (nZ q0) (.c 4 (.ptr k156 0) (.c 64 (.sc (.bool s)) .nil)))) (λx m=> ?_) ?_)))))))))
 refine v (vl 0 _ cG rfl rfl rfl (vk QZ AO m rfl rfl λ_ m=> ?_))
 apply vi m<;>intro b4 m
 rw[b4]
 exact fV m
 rw[b4]
 exact vl 0 _ cG rfl rfl rfl (vk QZ AO m rfl rfl λ_ m=>fV m)
 rintro _ j1 m
 refine v ?_
 apply vi m<;>intro c2 m
 refine v (v (gM m λm=> ?_))
 obtain rfl:=eT m
 exact eI rfl
 refine v (v (vl 0 _ cG rfl rfl rfl (v (v (fP m (σ:=Bool) (λs=>[(some k156,.obj 49 (dN x0)),(some k2,.obj 30 (aD p0))]) (λs=>.c 1 (.ptr k2 0) (.c 3 (nZ q0) (.c 4 (.ptr k156 0) (.c 66 (nZ x0.State) (.c 67 (.sc (.bool s)) .nil))))) (λx m=> ?_) ?_)))))
 refine v ?_
 apply vi m<;>intro c3 m
 exact v (lE m)
 exact v (lE m)
 rintro _ j2 m
 refine fP m (σ:=Unit) (λs=>[(some k156,.obj 49 (dN x0)),(some k2,.obj 30 (aD p0))]) (λs=>.c 1 (.ptr k2 0) (.c 3 (nZ q0) .nil)) (λx m=> ?_) ?_
 refine v ?_
 apply vi m<;>intro c4 m
 refine v (vl 0 _ cG rfl rfl rfl (v ?_))
 apply vi m<;>intro c5 m
 refine v (v (gM m λm=>gM m λm=> ?_))
 obtain rfl:=eT m
 exact eI rfl
 exact v (w7 m)
 refine v (v ?_)
 apply vi m<;>intro c6 m
 refine v (vl 0 _ cG rfl rfl rfl (vk QZ AO m rfl rfl λ_ m=>v ?_))
 apply vi m<;>intro c7 m
 refine v (v (gM m λm=>gM m λm=> ?_))
 obtain rfl:=eT m
 exact eI rfl
 exact v (w7 m)
 refine v (v (gM m λm=>gM m λm=> ?_))
 obtain rfl:=eT m
 exact eI rfl
 rintro _ _ m
 exact v (z8 m (mG [1] rfl rfl (.k2 .nil)))
 exact v (LY m)
 rintro _ r0 m
 refine v (jT m (σ:=Int) (λs=>[(some k2,.obj 30 (aD p0))]) (λs=>.c 1 (.ptr k2 0) (.c 5 (nZ s) .nil)) (lx (.k2 .nil)) ?_ ?_)
 rintro _ q1 x m
 replace m:rS w p0 q1=some x:=m
 unfold rS at m
 refine v (vl 0 _ fA rfl rfl rfl (dI kY rfl (v ?_)))
 apply vi m<;>intro c8 m
 refine v (v (v (vl 0 _ fA rfl rfl rfl (vx m fZ rfl rfl λx1 _ m=>va (.agg (aK x1)) nL rfl rfl (ve λu=>bE (bF iC++(Q4:List AV)) u pO rfl rfl λk364 K2=>qk K2 rfl (ve λu=>aL 0 (aK x1) u rfl rfl rfl rfl AF rfl rfl λK4=>qk K4 rfl (vs (fP m (σ:=Bool) (λs=>[(some k364,.obj 44 (aK x1)),(some k2,.obj 30 (aD p0))]) (λs=>.c 1 (.ptr k2 0) (.c 5 (nZ q1) (.c 140 (.sc (.bool s)) .nil))) (λx m=> ?_) ?_))))))))
 refine v (vq (by kernel_rfl) ?_)
 apply vi m<;>intro b5 m
 rw[b5]
 refine vl 1 _ fA rfl rfl rfl (vx m fZ rfl rfl λx2 _ m=>va (.agg (bF x2.Id)) fF rfl rfl (vl 0 (.agg (bF x1.Id)) fF rfl rfl rfl (vk aBF UH m rfl rfl λ_ m=> ?_)))
 apply vi m<;>intro b6 m
 rw[b6]
 exact hX m
 rw[b6]
 refine vl 1 (.agg (aD p0)) dG rfl rfl rfl (vl 0 _ fO rfl rfl rfl (vk KP BO m rfl rfl λ_ m=> ?_))
 apply vi m<;>intro b7 m
 rw[b7]
 exact hX m
 rw[b7]
 refine vl 0 _ GH rfl rfl rfl ?_
 apply vi m<;>intro b8 m
 rw[b8]
 refine vl 0 _ oB rfl rfl rfl (dI n4 rfl (vk QZ AO m rfl rfl λ_ m=> ?_))
 apply vi m<;>intro b9 m
 rw[b9]
 exact hX m
 rw[b9]
 refine vl 0 _ GH rfl rfl rfl ?_
 apply vi m<;>intro b10 m
 rw[b10]
 refine vl 0 _ oB rfl rfl rfl (dI n4 rfl ?_)
 apply vi m<;>intro b11 m
 rw[b11]
 exact hX m
 rw[b11]
 exact vl 0 _ fO rfl rfl rfl (dI kC rfl (hX m))
 rw[b10]
 exact hX m
 rw[b8]
 refine vl 0 _ GH rfl rfl rfl ?_
 apply vi m<;>intro b12 m
 rw[b12]
 refine vl 0 _ oB rfl rfl rfl (dI n4 rfl ?_)
 apply vi m<;>intro b13 m
 rw[b13]
 exact hX m
 rw[b13]
 exact vl 0 _ fO rfl rfl rfl (dI kC rfl (hX m))
 rw[b12]
 exact hX m
 rw[b5]
 refine vl 1 (.agg (aD p0)) dG rfl rfl rfl (vl 0 _ fO rfl rfl rfl (vk KP BO m rfl rfl λ_ m=> ?_))
 apply vi m<;>intro b14 m
 rw[b14]
 exact hX m
 rw[b14]
 refine vl 0 _ GH rfl rfl rfl ?_
 apply vi m<;>intro b15 m
 rw[b15]
 refine vl 0 _ oB rfl rfl rfl (dI n4 rfl (vk QZ AO m rfl rfl λ_ m=> ?_))
 apply vi m<;>intro b16 m
 rw[b16]
 exact hX m
 rw[b16]
 refine vl 0 _ GH rfl rfl rfl ?_
 apply vi m<;>intro b17 m
 rw[b17]
 refine vl 0 _ oB rfl rfl rfl (dI n4 rfl ?_)
 apply vi m<;>intro b22 m
 rw[b22]
 exact hX m
 rw[b22]
 exact vl 0 _ fO rfl rfl rfl (dI kC rfl (hX m))
 rw[b17]
 exact hX m
 rw[b15]
 refine vl 0 _ GH rfl rfl rfl ?_
 apply vi m<;>intro b23 m
 rw[b23]
 refine vl 0 _ oB rfl rfl rfl (dI n4 rfl ?_)
 apply vi m<;>intro b24 m
 rw[b24]
 exact hX m
 rw[b24]
 exact vl 0 _ fO rfl rfl rfl (dI kC rfl (hX m))
 rw[b23]
 exact hX m
 rintro _ j3 m
 refine v ?_
 apply vi m<;>intro c9 m
 refine v (v (gM m λm=> ?_))
 obtain rfl:=eT m
 exact eI rfl
 exact v (v (z8 m (mG [1] rfl rfl (.k2 .nil))))
 exact v (LY m)
 rintro _ r1 m
 refine v (jT m (σ:=Int) (λs=>[(some k2,.obj 30 (aD p0))]) (λs=>.c 1 (.ptr k2 0) (.c 7 (nZ s) .nil)) (lx (.k2 .nil)) ?_ ?_)
 rintro _ q2 x m
 replace m:rT w p0 q2=some x:=m
 unfold rT at m
 refine v (vl 0 _ fE rfl rfl rfl (dI kN rfl (v ?_)))
 apply vi m<;>intro c10 m
 refine v (v (v (vl 0 _ fE rfl rfl rfl (vx m jG rfl rfl λx3 _ m=>va (.agg (bQ x3)) tB rfl rfl (ve λu=>bE (YM) u yJ rfl rfl λk707 K5=>qk K5 rfl (ve λu=>aL 0 (bQ x3) u rfl rfl rfl rfl HC rfl rfl λK6=>qk K6 rfl (vs (vs (fP m (σ:=Bool) (λs=>[(some k707,.obj 60 (bQ x3)),(some k2,.obj 30 (aD p0))]) (λs=>.c 1 (.ptr k2 0) (.c 7 (nZ q2) (.c 8 (.ptr k707 0) (.c 200 (.sc (.bool s)) .nil)))) (λx m=> ?_) ?_)))))))))
 refine v (vq (by kernel_rfl) (vl 0 _ cG rfl rfl rfl ?_))
 apply vi m<;>intro b25 m
 rw[b25]
 exact fV m
 rw[b25]
 refine vl 0 _ cG rfl rfl rfl (vl 1 _ cG rfl rfl rfl ?_)
 apply vi m<;>intro b26 m
 rw[b26]
 exact fV m
 rw[b26]
 apply vi m<;>intro b27 m
 rw[b27]
 refine vl 0 _ cG rfl rfl rfl (vl 1 _ fE rfl rfl rfl (vx m jG rfl rfl λ_ _ m=> ?_))
 apply vi m<;>intro b28 m
 rw[b28]
 exact fV m
 rw[b28]
 refine vl 0 (.agg (bP x3.Man)) p5 rfl rfl rfl (vk W98 aBG m rfl rfl λ_ m=> ?_)
 apply vi m<;>intro b29 m
 rw[b29]
 exact fV m
 rw[b29]
 refine vl 1 (.agg (aD p0)) dG rfl rfl rfl (vl 0 _ fO rfl rfl rfl (vk KP BO m rfl rfl λ_ m=> ?_))
 apply vi m<;>intro b30 m
 rw[b30]
 exact fV m
 rw[b30]
 exact vl 1 (.agg (aD p0)) dG rfl rfl rfl (vl 0 _ IT rfl rfl rfl (vk WD NU m rfl rfl λ_ m=>fV m))
 rw[b27]
 refine vl 0 (.agg (bP x3.Man)) p5 rfl rfl rfl (vk W98 aBG m rfl rfl λ_ m=> ?_)
 apply vi m<;>intro b31 m
 rw[b31]
 exact fV m
 rw[b31]
 refine vl 1 (.agg (aD p0)) dG rfl rfl rfl (vl 0 _ fO rfl rfl rfl (vk KP BO m rfl rfl λ_ m=> ?_))
 apply vi m<;>intro b32 m
 rw[b32]
 exact fV m
 rw[b32]
 exact vl 1 (.agg (aD p0)) dG rfl rfl rfl (vl 0 _ IT rfl rfl rfl (vk WD NU m rfl rfl λ_ m=>fV m))
 rintro _ j4 m
 refine v ?_
 apply vi m<;>intro c11 m
 refine v (v (gM m λm=> ?_))
 obtain rfl:=eT m
 exact eI rfl
 refine v (v (vl 0 (.agg (bP x3.Man)) p5 rfl rfl rfl (vk W49 aGR m rfl rfl λy0 m=>v (jT m (σ:=Int) (λs=>[(some k707,.obj 60 (bQ x3)),(some k2,.obj 30 (aD p0))]) (λs=>.c 1 (.ptr k2 0) (.c 7 (nZ q2) (.c 8 (.ptr k707 0) (.c 9 (.sl none 32 (map bF y0)) (.c 10 (nZ s) .nil))))) (lx (.k5 .nil)) ?_ ?_))))
 rintro _ q3 x m
 replace m:vV w p0 y0 q3=some x:=m
 unfold vV at m
 refine v (dI vO rfl (v ?_))
 apply vi m<;>intro c12 m
 refine v (v (v (vq (by kernel_rfl) (vl 1 (.agg (aD p0)) dG rfl rfl rfl (vx m AL rfl rfl λx4 _ m=>va (.agg (bF x4)) fF rfl rfl (vk W88 R0 m rfl rfl λ_ m=>v ?_))))))
 apply vi m<;>intro c13 m
 refine v (v (gM m λm=>gM m λm=> ?_))
 obtain rfl:=eT m
 exact eI rfl
 exact v (v (lE m))
 exact v (YR m)
 rintro _ r2 m
 refine v (jT m (σ:=Int) (λs=>[(some k707,.obj 60 (bQ x3)),(some k2,.obj 30 (aD p0))]) (λs=>.c 1 (.ptr k2 0) (.c 7 (nZ q2) (.c 8 (.ptr k707 0) (.c 11 (nZ s) .nil)))) (lx (.k4 .nil)) ?_ ?_)
 rintro _ q4 x m
 replace m:vW w p0 x3 q4=some x:=m
 unfold vW at m
 refine v (vl 1 _ gN rfl rfl rfl (dI nK rfl (v ?_)))
 apply vi m<;>intro c14 m
 refine v (v (v (vq (by kernel_rfl) (vl 1 _ gN rfl rfl rfl (vx m gU rfl rfl λ_ _ m=>vl 0 _ cG rfl rfl rfl (v ?_))))))
 apply vi m<;>intro c15 m
 refine v (v (gM m λm=>gM m λm=> ?_))
 obtain rfl:=eT m
 exact eI rfl
 exact v (v (fV m))
 exact v (u0 m)
 rintro _ r3 m
 exact v (z8 m (mG [1] rfl rfl (.k2 .nil)))
 exact v (LY m)
 rintro _ r4 m
 refine v (jT m (σ:=Int) (λs=>[(some k2,.obj 30 (aD p0))]) (λs=>.c 1 (.ptr k2 0) (.c 12 (nZ s) .nil)) (lx (.k2 .nil)) ?_ ?_)
 rintro _ q5 x m
 replace m:o0 w p0 q5=some x:=m
 unfold o0 at m
 refine v (vl 0 _ gN rfl rfl rfl (dI nK rfl (v ?_)))
 apply vi m<;>intro c16 m
 refine v (v (v (vl 0 _ gN rfl rfl rfl (vx m gU rfl rfl λx5 _ m=>va (.agg (cE x5)) tD rfl rfl (ve λu=>bE ([nZ 0,nZ 0,sZ]) u qW rfl rfl λk941 K7=>qk K7 rfl (ve λu=>aL 0 (cE x5) u rfl rfl rfl rfl EY rfl rfl λK8=>qk K8 rfl (vs (fP m (σ:=Bool) (λs=>[(some k941,.obj 99 (cE x5)),(some k2,.obj 30 (aD p0))]) (λs=>.c 1 (.ptr k2 0) (.c 12 (nZ q5) (.c 295 (.sc (.bool s)) .nil))) (λx m=> ?_) ?_))))))))
 refine v (vq (by kernel_rfl) (vl 0 _ cG rfl rfl rfl ?_))
 apply vi m<;>intro b33 m
 rw[b33]
 exact hX m
 rw[b33]
 refine vl 0 _ cG rfl rfl rfl (vl 1 _ cG rfl rfl rfl ?_)
 apply vi m<;>intro b34 m
 rw[b34]
 exact hX m
 rw[b34]
 apply vi m<;>intro b35 m
 rw[b35]
 refine vl 0 _ cG rfl rfl rfl (vl 1 _ gN rfl rfl rfl (vx m gU rfl rfl λ_ _ m=> ?_))
 apply vi m<;>intro b36 m
 rw[b36]
 exact hX m
 rw[b36]
 refine vl 0 _ cG rfl rfl rfl ?_
 apply vi m<;>intro b37 m
 rw[b37]
 exact hX m
 rw[b37]
 refine vl 0 _ cG rfl rfl rfl (vl 0 _ cG rfl rfl rfl ?_)
 apply vi m<;>intro b38 m
 rw[b38]
 exact hX m
 rw[b38]
 refine vl 1 (.agg (aD p0)) dG rfl rfl rfl (vl 0 _ fO rfl rfl rfl (vk KP BO m rfl rfl λ_ m=> ?_))
 apply vi m<;>intro b39 m
 rw[b39]
 exact hX m
 rw[b39]
 exact vl 0 _ fO rfl rfl rfl (dI kC rfl (hX m))
 rw[b35]
 refine vl 0 _ cG rfl rfl rfl ?_
 apply vi m<;>intro b40 m
 rw[b40]
 exact hX m
 rw[b40]
 refine vl 0 _ cG rfl rfl rfl (vl 0 _ cG rfl rfl rfl ?_)
 apply vi m<;>intro b41 m
 rw[b41]
 exact hX m
 rw[b41]
 refine vl 1 (.agg (aD p0)) dG rfl rfl rfl (vl 0 _ fO rfl rfl rfl (vk KP BO m rfl rfl λ_ m=> ?_))
 apply vi m<;>intro b42 m
 rw[b42]
 exact hX m
 rw[b42]
 exact vl 0 _ fO rfl rfl rfl (dI kC rfl (hX m))
 rintro _ j5 m
 refine v ?_
 apply vi m<;>intro c17 m
 refine v (v (gM m λm=> ?_))
 obtain rfl:=eT m
 exact eI rfl
 exact v (v (z8 m (mG [1] rfl rfl (.k2 .nil))))
 exact v (LY m)
 rintro _ r5 m
 refine v (v ?_)
 obtain rfl:=eT m
 exact eI rfl
theorem aBK:aP prog 89=true:=by kernel_rfl
def tN (m:Nat) (p0:List dF) (p1:dF->Option Bool) (q0:Int):Option (Lp (Int) (Int)):=
 if decide (q0 < (p0.length:Int)) then ((ix p0 q0).bind λx0=>(p1 x0).bind λy0=>if y0 then Rk q0 else Gk (wrap .i64 (q0+1))) else Bk q0
def R4 (m:Nat) (p0:List dF) (p1:dF->Option Bool):Option (Int):=
 after (aT (λs=>tN m p0 p1 s) m 0) λr0=>some (-1)
theorem aGS {w:Nat} {p0:List dF} {p1:dF->Option Bool} {o:Int} (h:aF) {p1F:Nat} {p1C:List AV} (p1B:aP prog p1F=true) (p1H:∀x0 o h0,iG h h0->p1 x0=some o->aM prog p1F ([.agg (cC x0)]++p1C) h0 (λr h'=>r= .sc (.bool o)/\h'=h0)) (m:R4 w p0 p1=some o):
 aM prog 109 [.sl none 3 (map cC p0),.fn (.func p1F) p1C] h (λr h'=>r=nZ o/\h'=h):=by
 refine fM 19 [.tmp 4] Tryz.func109 rfl rfl rfl rfl ?_
 unfold R4 at m
 refine v (v (dI AH rfl (jT m (σ:=Int) (λs=>[]) (λs=>.c 0 (.sl none 3 (map cC p0)) (.c 1 (.fn (.func p1F) p1C) (.c 7 (nZ (p0.length:Int)) (.c 8 (nZ s) .nil)))) (lx (.k4 .nil)) ?_ ?_)))
 rintro _ q0 x m
 replace m:tN w p0 p1 q0=some x:=m
 unfold tN at m
 refine v (v ?_)
 apply vi m<;>intro c0 m
 refine v (v (v (v (vx m tA rfl rfl λx1 _ m=>va (.agg (cC x1)) EW rfl rfl ?_))))
 obtain⟨_,Y0,m⟩:=aC m
 refine vn (λu=>bW (p1H _ _ _ (aU (nil_sublist _) u).1 Y0) rfl p1B rfl) (v ?_)
 apply vi m<;>intro c1 m
 refine v (v (gM m λm=> ?_))
 obtain rfl:=eT m
 exact eI rfl
 exact v (v (fV m))
 exact v (u0 m)
 rintro _ r0 m
 refine v (v ?_)
 cases m
 exact eI rfl
theorem aBL:aP prog 109=true:=by kernel_rfl
def M60 (m:Nat) (p0:List dF) (p1:dF->Option Bool):Option (Bool):=
 (R4 m p0 p1).bind λy3=>some (decide (0<=y3))
theorem W60 {w:Nat} {p0:List dF} {p1:dF->Option Bool} {o:Bool} (h:aF) {p1F:Nat} {p1C:List AV} (p1B:aP prog p1F=true) (p1H:∀x0 o h0,iG h h0->p1 x0=some o->aM prog p1F ([.agg (cC x0)]++p1C) h0 (λr h'=>r= .sc (.bool o)/\h'=h0)) (m:M60 w p0 p1=some o):
 aM prog 60 [.sl none 3 (map cC p0),.fn (.func p1F) p1C] h (λr h'=>r= .sc (.bool o)/\h'=h):=by
 refine fM 9 [.tmp 4] Tryz.func60 rfl rfl rfl rfl ?_
 unfold M60 at m
 refine v (v ?_)
 obtain⟨_,Y4,m⟩:=aC m
 refine vn (λu=>bW (aGS _ p1B (λx0 o h0 hs ho=>p1H x0 o h0 ((aU (nil_sublist _) u).1.trans hs) ho) Y4) rfl aBL rfl) (v ?_)
 cases m
 exact eI rfl
theorem aGT:aP prog 60=true:=by kernel_rfl
def tO (m:Nat) (p0:List bK) (p1:bK) (q0:Int):Option (Lp (Int) (Int)):=
 if decide (q0 < (p0.length:Int)) then ((ix p0 q0).bind λx0=>if decide (p1=x0) then Rk q0 else Gk (wrap .i64 (q0+1))) else Bk q0
def R5 (m:Nat) (p0:List bK) (p1:bK):Option (Int):=
 after (aT (λs=>tO m p0 p1 s) m 0) λr0=>some (-1)
theorem aGU {u:Nat} {p0:List bK} {p1:bK} {o:Int} (h:aF) (m:R5 u p0 p1=some o):
 aM prog 110 [.sl none 32 (map bF p0),.agg (bF p1)] h (λr h'=>r=nZ o/\h'=h):=by
 refine fM 19 [.tmp 4] Tryz.func110 rfl rfl rfl rfl ?_
 unfold R5 at m
 refine v (gX rfl rfl λk2 K3=>v (dI vO rfl (jT m (σ:=Int) (λs=>[(some k2,.obj 36 (bF p1))]) (λs=>.c 0 (.sl none 32 (map bF p0)) (.c 3 (.ptr k2 0) (.c 7 (nZ (p0.length:Int)) (.c 8 (nZ s) .nil)))) (lx (.k4 .nil)) ?_ ?_)))
 rintro _ q0 x m
 replace m:tO u p0 p1 q0=some x:=m
 unfold tO at m
 refine v (v ?_)
 apply vi m<;>intro c0 m
 refine v (v (v (v (vq (by kernel_rfl) (vl 0 (.agg (bF p1)) fF rfl rfl rfl (vx m AL rfl rfl λx0 _ m=>va (.agg (bF x0)) fF rfl rfl (bV (BD EU T8 u5 ES rfl rfl) (v ?_))))))))
 apply vi m<;>intro c1 m
 refine v (v (gM m λm=> ?_))
 obtain rfl:=eT m
 exact eI rfl
 exact v (v (fV m))
 exact v (u0 m)
 rintro _ r0 m
 refine v (v ?_)
 cases m
 exact eI rfl
theorem aBN:aP prog 110=true:=by kernel_rfl
def M62 (m:Nat) (p0:List bK) (p1:bK):Option (Bool):=
 (R5 m p0 p1).bind λy6=>some (decide (0<=y6))
theorem W62 {u:Nat} {p0:List bK} {p1:bK} {o:Bool} (h:aF) (m:M62 u p0 p1=some o):
 aM prog 62 [.sl none 32 (map bF p0),.agg (bF p1)] h (λr h'=>r= .sc (.bool o)/\h'=h):=by
 refine fM 9 [.tmp 4] Tryz.func62 rfl rfl rfl rfl ?_
 unfold M62 at m
 refine v (gX rfl rfl λk2 K3=>v (vl 0 (.agg (bF p1)) fF rfl rfl rfl (vk aGU aBN m rfl rfl λ_ m=>v ?_)))
 cases m
 exact eI rfl
theorem aGV:aP prog 62=true:=by kernel_rfl
def M61 (m:Nat) (p0:dF) (c0:bK):Option (Bool):=
 (M62 m p0.Ids c0).bind λy6=>some y6
theorem W61 {w:Nat} {p0:dF} {c0:bK} {o:Bool} (h:aF) {c0K:bX} (c0H:h c0K=some (.obj 36 (bF c0))) (m:M61 w p0 c0=some o):
 aM prog 61 [.agg (cC p0),.ptr c0K 0] h (λr h'=>r= .sc (.bool o)/\h'=h):=by
 refine fM 8 [.tmp 3] Tryz.func61 rfl rfl rfl rfl ?_
 unfold M61 at m
 refine v (gX rfl rfl λk2 K3=>v (vl 0 _ yL rfl rfl rfl (vn (λu=>gO (.agg (bF c0)) fF rfl (fX u c0H) rfl) (vk W62 aGV m rfl rfl λ_ m=>v ?_))))
 obtain rfl:=eT m
 exact eI rfl
theorem aGW:aP prog 61=true:=by kernel_rfl
def M59 (m:Nat) (p0:aI) (c0:bK):Option (Bool):=
 (M60 m p0.Man.Parts (λx0=>M61 m x0 c0)).bind λy6=>some y6
theorem W59 {w:Nat} {p0:aI} {c0:bK} {o:Bool} (h:aF) {c0K:bX} (c0H:h c0K=some (.obj 36 (bF c0))) (m:M59 w p0 c0=some o):
 aM prog 59 [.agg (bQ p0),.ptr c0K 0] h (λr h'=>r= .sc (.bool o)/\h'=h):=by
 refine fM 9 [.tmp 3] Tryz.func59 rfl rfl rfl rfl ?_
 unfold M59 at m
 refine v (gX rfl rfl λk2 K3=>v (vl 0 _ oW rfl rfl rfl ?_))
 obtain⟨_,Y7,m⟩:=aC m
 refine vn (λu=>bW (W60 _ aGW (λ_ o h0 hs ho=>W61 _ (hs _ _ (fX u c0H)) ho) Y7) rfl aGT rfl) (v ?_)
 obtain rfl:=eT m
 exact eI rfl
theorem aGX:aP prog 59=true:=by kernel_rfl
def WF (m:Nat) (p0:aA) (p1:bK):Option (Bool):=
 (WB m p0.Snaps (λx0=>M59 m x0 p1)).bind λy9=>some y9
theorem W22 {w:Nat} {p0:aA} {p1:bK} {o:Bool} (h:aF) (m:WF w p0 p1=some o):
 aM prog 22 [.agg (aD p0),.agg (bF p1)] h (λr h'=>r= .sc (.bool o)/\h'=h):=by
 refine fM 9 [.tmp 4] Tryz.func22 rfl rfl rfl rfl ?_
 unfold WF at m
 refine v (gX rfl rfl λk2 K3=>gX rfl rfl λk5 K6=>v (vl 1 _ fE rfl rfl rfl ?_))
 obtain⟨_,Y0,m⟩:=aC m
 refine vn (λu=>bW (W58 _ aGX (λ_ o h0 hs ho=>W59 _ (hs _ _ (a9 0 u rfl)) ho) Y0) rfl aA6 rfl) (v ?_)
 obtain rfl:=eT m
 exact eI rfl
theorem WG:aP prog 22=true:=by kernel_rfl
def rU (m:Nat) (p0:aA) (p1:(List aS)->Bool->Option Bool) (q0:List aE) (q1:Int):Option (Lp ((List aE)×Int) ((List aE))):=
 if decide (q1 < (p0.Chunks.length:Int)) then ((ix p0.Chunks q1).bind λx0=>(WF m p0 x0.Id).bind λy0=>(p1 x0.Locs y0).bind λy1=>after (if y1 then ((app q0 ([({ Kind:=1,Id:=x0.Id,Seq:=0,Of:=0,Off:=0,Len:=0}:aE)]:List aE)).bind λz0=>Bk z0) else Bk q0:Option (Lp ((List aE)) (Lp ((List aE)×Int) ((List aE))))) λj0=>Gk (j0,wrap .i64 (q1+1))) else Bk (q0,q1)
def rV (m:Nat) (p0:aA) (p1:(List aS)->Bool->Option Bool) (q0:List aE) (q1:Int):Option (Lp ((List aE)×Int) ((List aE))):=
 if decide (q1 < (p0.Snaps.length:Int)) then ((ix p0.Snaps q1).bind λx0=>(p1 x0.Locs true).bind λy0=>after (if y0 then ((app q0 ([({ Kind:=2,Id:=iC,Seq:=x0.Seq,Of:=0,Off:=0,Len:=0}:aE)]:List aE)).bind λz0=>Bk z0) else Bk q0:Option (Lp ((List aE)) (Lp ((List aE)×Int) ((List aE))))) λj0=>Gk (j0,wrap .i64 (q1+1))) else Bk (q0,q1)
def rW (m:Nat) (p0:aA) (p1:(List aS)->Bool->Option Bool) (q0:List aE) (q1:Int):Option (Lp ((List aE)×Int) ((List aE))):=
 if decide (q1 < (p0.Exps.length:Int)) then ((ix p0.Exps q1).bind λx0=>(p1 x0.Locs true).bind λy0=>after (if y0 then ((app q0 ([({ Kind:=3,Id:=iC,Seq:=x0.Seq,Of:=x0.Of,Off:=0,Len:=0}:aE)]:List aE)).bind λz0=>Bk z0) else Bk q0:Option (Lp ((List aE)) (Lp ((List aE)×Int) ((List aE))))) λj0=>Gk (j0,wrap .i64 (q1+1))) else Bk (q0,q1)
def R6 (m:Nat) (p0:aA) (p1:(List aS)->Bool->Option Bool):Option ((List aE)):=
 after (aT (λs=>rU m p0 p1 s.1 s.2) m ([],0)) λ⟨r0,r1⟩=>after (aT (λs=>rV m p0 p1 s.1 s.2) m (r0,0)) λ⟨r2,r3⟩=>after (aT (λs=>rW m p0 p1 s.1 s.2) m (r2,0)) λ⟨r4,r5⟩=>some r4
theorem W50 {w:Nat} {p0:aA} {p1:(List aS)->Bool->Option Bool} {o:(List aE)} (h:aF) {p1F:Nat} {p1C:List AV} (p1B:aP prog p1F=true) (p1H:∀x0 x1 o h0,iG h h0->p1 x0 x1=some o->aM prog p1F ([.sl none 4 (map aO x0),.sc (.bool x1)]++p1C) h0 (λr h'=>r= .sc (.bool o)/\h'=h0)) (m:R6 w p0 p1=some o):
 aM prog 50 [.agg (aD p0),.fn (.func p1F) p1C] h (λr h'=>r= .sl none 37 (map aJ o)/\h'=h):=by
 refine fM 73 [.tmp 4] Tryz.func50 rfl rfl rfl rfl ?_
 unfold R6 at m
 refine v (gX rfl rfl λk2 K3=>v (v (vl 0 _ fA rfl rfl rfl (dI kY rfl (pJ (BI (.tok 38 37 (([]:List aE).length*37)) 5 (ow none 37 (map aJ [])) (iB _ _)) (nE m (σ:=(List aE)×Int) (τ:=Option bX) (λg s=>[(g,.tok 38 37 ((s.1:List aE).length*37)),(some k2,.obj 30 (aD p0))]) (λg s=>(g=none->s.1= [])) (λg s=>.c 1 (.fn (.func p1F) p1C) (.c 2 (.ptr k2 0) (.c 5 (ow g 37 (map aJ s.1)) (.c 13 (.sl none 35 (map aK p0.Chunks)) (.c 14 (nZ (p0.Chunks.length:Int)) (.c 15 (nZ s.2) .nil)))))) none (λ_=>rfl) (lx (.k6 .nil)) ?_ ?_))))))
 rintro tg0 ⟨q0,q1⟩ x t0 m
 replace m:rU w p0 p1 q0 q1=some x:=m
 unfold rU at m
 refine v (v ?_)
 apply vi m<;>intro c0 m
 refine v (v (v (vx m fZ rfl rfl λx2 _ m=>va (.agg (aK x2)) nL rfl rfl (ve λu=>bE (bF iC++(Q4:List AV)) u pO rfl rfl λk128 K0=>qk K0 rfl (ve λu=>aL 0 (aK x2) u rfl rfl rfl rfl AF rfl rfl λK1=>qk K1 rfl (v (vq (by kernel_rfl) (vl 0 _ fO rfl rfl rfl (vl 2 (.agg (aD p0)) dG rfl rfl rfl (vl 0 (.agg (bF x2.Id)) fF rfl rfl rfl (vk W22 WG m rfl rfl λ_ m=> ?_)))))))))))
 obtain⟨_,Y0,m⟩:=aC m
 refine vn (λu=>bW (p1H _ _ _ _ (aU (nil_sublist _) u).1 Y0) rfl p1B rfl) (oA m (σ:=(List aE)) (τ:=Option bX) (λg s=>[(some k128,.obj 44 (aK x2)),(g,.tok 38 37 ((s:List aE).length*37)),(some k2,.obj 30 (aD p0))]) (λg s=>(g=none->s= [])) (λg s=>.c 1 (.fn (.func p1F) p1C) (.c 2 (.ptr k2 0) (.c 5 (ow g 37 (map aJ s)) (.c 13 (.sl none 35 (map aK p0.Chunks)) (.c 14 (nZ (p0.Chunks.length:Int)) (.c 15 (nZ q1) .nil)))))) (λx m=> ?_) ?_)
 refine v ?_
 apply vi m<;>intro c1 m
 refine v (vl 0 (.agg (bF x2.Id)) fF rfl rfl rfl (bV (eQ (aJ ({ Kind:=1,Id:=x2.Id,Seq:=0,Of:=0,Off:=0,Len:=0}:aE)) s9 rfl) (bV (eJ (map aJ ([({ Kind:=1,Id:=x2.Id,Seq:=0,Of:=0,Off:=0,Len:=0}:aE)]:List aE)) lM rfl rfl rfl rfl) ?_)))
 obtain⟨z0,Z0,m⟩:=aC m
 exact ve λu=>fK (c:=aJ) 1 Z0 lM rfl rfl rfl t0 u rfl λtg1 t1 K2=>qk K2 rfl (eF m tg1 t1 (lx (.k6 .nil)))
 exact v (eF m tg0 t0 (lx (.k6 .nil)))
 rintro tg2 j0 t2 m
 exact v (eF m tg2 t2 (mG [1,2] rfl rfl (.k6 .nil)))
 exact v (lF m tg0 t0 (lx (.k6 .nil)))
 rintro tg3 ⟨r0,r1⟩ t3 m
 refine v (vl 1 _ fE rfl rfl rfl (dI kN rfl (nE m (σ:=(List aE)×Int) (τ:=Option bX) (λg s=>[(g,.tok 38 37 ((s.1:List aE).length*37)),(some k2,.obj 30 (aD p0))]) (λg s=>(g=none->s.1= [])) (λg s=>.c 1 (.fn (.func p1F) p1C) (.c 2 (.ptr k2 0) (.c 5 (ow g 37 (map aJ s.1)) (.c 35 (.sl none 4 (map bQ p0.Snaps)) (.c 36 (nZ (p0.Snaps.length:Int)) (.c 37 (nZ s.2) .nil)))))) tg3 t3 (lx (.k6 .nil)) ?_ ?_)))
 rintro tg4 ⟨q2,q3⟩ x t4 m
 replace m:rV w p0 p1 q2 q3=some x:=m
 unfold rV at m
 refine v (v ?_)
 apply vi m<;>intro c2 m
 refine v (v (v (vx m jG rfl rfl λx3 _ m=>va (.agg (bQ x3)) tB rfl rfl (ve λu=>bE (YM) u yJ rfl rfl λk234 K4=>qk K4 rfl (ve λu=>aL 0 (bQ x3) u rfl rfl rfl rfl HC rfl rfl λK5=>qk K5 rfl (v (vl 0 _ fO rfl rfl rfl ?_)))))))
 obtain⟨_,Y1,m⟩:=aC m
 refine vn (λu=>bW (p1H _ _ _ _ (aU (nil_sublist _) u).1 Y1) rfl p1B rfl) (oA m (σ:=(List aE)) (τ:=Option bX) (λg s=>[(some k234,.obj 60 (bQ x3)),(g,.tok 38 37 ((s:List aE).length*37)),(some k2,.obj 30 (aD p0))]) (λg s=>(g=none->s= [])) (λg s=>.c 1 (.fn (.func p1F) p1C) (.c 2 (.ptr k2 0) (.c 5 (ow g 37 (map aJ s)) (.c 35 (.sl none 4 (map bQ p0.Snaps)) (.c 36 (nZ (p0.Snaps.length:Int)) (.c 37 (nZ q3) .nil)))))) (λx m=> ?_) ?_)
 refine v ?_
 apply vi m<;>intro c3 m
 refine v (vl 0 _ cG rfl rfl rfl (bV (eQ (aJ ({ Kind:=2,Id:=iC,Seq:=x3.Seq,Of:=0,Off:=0,Len:=0}:aE)) s9 rfl) (bV (eJ (map aJ ([({ Kind:=2,Id:=iC,Seq:=x3.Seq,Of:=0,Off:=0,Len:=0}:aE)]:List aE)) lM rfl rfl rfl rfl) ?_)))
 obtain⟨z1,Z1,m⟩:=aC m
 exact ve λu=>fK (c:=aJ) 1 Z1 lM rfl rfl rfl t4 u rfl λtg5 t5 K6=>qk K6 rfl (eF m tg5 t5 (lx (.k6 .nil)))
 exact v (eF m tg4 t4 (lx (.k6 .nil)))
 rintro tg6 j1 t6 m
 exact v (eF m tg6 t6 (mG [1,2] rfl rfl (.k6 .nil)))
 exact v (lF m tg4 t4 (lx (.k6 .nil)))
 rintro tg7 ⟨r2,r3⟩ t7 m
 refine v (vl 1 _ gN rfl rfl rfl (dI nK rfl (nE m (σ:=(List aE)×Int) (τ:=Option bX) (λg s=>[(g,.tok 38 37 ((s.1:List aE).length*37)),(some k2,.obj 30 (aD p0))]) (λg s=>(g=none->s.1= [])) (λg s=>.c 1 (.fn (.func p1F) p1C) (.c 5 (ow g 37 (map aJ s.1)) (.c 53 (.sl none 3 (map cE p0.Exps)) (.c 54 (nZ (p0.Exps.length:Int)) (.c 55 (nZ s.2) .nil))))) tg7 t7 (lx (.k5 .nil)) ?_ ?_)))
 rintro tg8 ⟨q4,q5⟩ x t8 m
 replace m:rW w p0 p1 q4 q5=some x:=m
 unfold rW at m
 refine v (v ?_)
 apply vi m<;>intro c4 m
 refine v (v (v (vx m gU rfl rfl λx4 _ m=>va (.agg (cE x4)) tD rfl rfl (ve λu=>bE ([nZ 0,nZ 0,sZ]) u qW rfl rfl λk338 K7=>qk K7 rfl (ve λu=>aL 0 (cE x4) u rfl rfl rfl rfl EY rfl rfl λK8=>qk K8 rfl (v (vl 0 _ fO rfl rfl rfl ?_)))))))
 obtain⟨_,Y2,m⟩:=aC m
 refine vn (λu=>bW (p1H _ _ _ _ (aU (nil_sublist _) u).1 Y2) rfl p1B rfl) (oA m (σ:=(List aE)) (τ:=Option bX) (λg s=>[(some k338,.obj 99 (cE x4)),(g,.tok 38 37 ((s:List aE).length*37)),(some k2,.obj 30 (aD p0))]) (λg s=>(g=none->s= [])) (λg s=>.c 1 (.fn (.func p1F) p1C) (.c 5 (ow g 37 (map aJ s)) (.c 53 (.sl none 3 (map cE p0.Exps)) (.c 54 (nZ (p0.Exps.length:Int)) (.c 55 (nZ q5) .nil))))) (λx m=> ?_) ?_)
 refine v ?_
 apply vi m<;>intro c5 m
 refine v (vl 0 _ cG rfl rfl rfl (vl 0 _ cG rfl rfl rfl (bV (eQ (aJ ({ Kind:=3,Id:=iC,Seq:=x4.Seq,Of:=x4.Of,Off:=0,Len:=0}:aE)) s9 rfl) (bV (eJ (map aJ ([({ Kind:=3,Id:=iC,Seq:=x4.Seq,Of:=x4.Of,Off:=0,Len:=0}:aE)]:List aE)) lM rfl rfl rfl rfl) ?_))))
 obtain⟨z2,Z2,m⟩:=aC m
 exact ve λu=>fK (c:=aJ) 1 Z2 lM rfl rfl rfl t8 u rfl λtg9 t9 K9=>qk K9 rfl (eF m tg9 t9 (lx (.k5 .nil)))
 exact v (eF m tg8 t8 (lx (.k5 .nil)))
 rintro tg10 j2 t10 m
 exact v (eF m tg10 t10 (mG [1,2] rfl rfl (.k5 .nil)))
 exact v (lF m tg8 t8 (lx (.k5 .nil)))
 rintro tg11 ⟨r4,r5⟩ t11 m
 refine v (v ?_)
 obtain rfl:=eT m
 exact vr λu=>dW.of1 (.inl rfl) (gK _ _ (ow _ _ _) rfl) (aU (nil_sublist _) u).1 ((eB _ 0 t11 u rfl)) ⟨rfl,rfl⟩
theorem WH:aP prog 50=true:=by kernel_rfl
def tP (m:Nat) (p0:List aS) (p1:aS->Option Bool) (q0:Int):Option (Lp (Int) (Int)):=
 if decide (q0 < (p0.length:Int)) then ((ix p0 q0).bind λx0=>(p1 x0).bind λy0=>if y0 then Rk q0 else Gk (wrap .i64 (q0+1))) else Bk q0
def R7 (m:Nat) (p0:List aS) (p1:aS->Option Bool):Option (Int):=
 after (aT (λs=>tP m p0 p1 s) m 0) λr0=>some (-1)
theorem aG0 {w:Nat} {p0:List aS} {p1:aS->Option Bool} {o:Int} (h:aF) {p1F:Nat} {p1C:List AV} (p1B:aP prog p1F=true) (p1H:∀x0 o h0,iG h h0->p1 x0=some o->aM prog p1F ([.agg (aO x0)]++p1C) h0 (λr h'=>r= .sc (.bool o)/\h'=h0)) (m:R7 w p0 p1=some o):
 aM prog 108 [.sl none 4 (map aO p0),.fn (.func p1F) p1C] h (λr h'=>r=nZ o/\h'=h):=by
 refine fM 19 [.tmp 4] Tryz.func108 rfl rfl rfl rfl ?_
 unfold R7 at m
 refine v (v (dI kC rfl (jT m (σ:=Int) (λs=>[]) (λs=>.c 0 (.sl none 4 (map aO p0)) (.c 1 (.fn (.func p1F) p1C) (.c 7 (nZ (p0.length:Int)) (.c 8 (nZ s) .nil)))) (lx (.k4 .nil)) ?_ ?_)))
 rintro _ q0 x m
 replace m:tP w p0 p1 q0=some x:=m
 unfold tP at m
 refine v (v ?_)
 apply vi m<;>intro c0 m
 refine v (v (v (v (vx m jH rfl rfl λx1 _ m=>va (.agg (aO x1)) nM rfl rfl ?_))))
 obtain⟨_,Y0,m⟩:=aC m
 refine vn (λu=>bW (p1H _ _ _ (aU (nil_sublist _) u).1 Y0) rfl p1B rfl) (v ?_)
 apply vi m<;>intro c1 m
 refine v (v (gM m λm=> ?_))
 obtain rfl:=eT m
 exact eI rfl
 exact v (v (fV m))
 exact v (u0 m)
 rintro _ r0 m
 refine v (v ?_)
 cases m
 exact eI rfl
theorem UJ:aP prog 108=true:=by kernel_rfl
def YV (m:Nat) (p0:List aS) (p1:aS->Option Bool):Option (Bool):=
 (R7 m p0 p1).bind λy3=>some (decide (0<=y3))
theorem W55 {w:Nat} {p0:List aS} {p1:aS->Option Bool} {o:Bool} (h:aF) {p1F:Nat} {p1C:List AV} (p1B:aP prog p1F=true) (p1H:∀x0 o h0,iG h h0->p1 x0=some o->aM prog p1F ([.agg (aO x0)]++p1C) h0 (λr h'=>r= .sc (.bool o)/\h'=h0)) (m:YV w p0 p1=some o):
 aM prog 55 [.sl none 4 (map aO p0),.fn (.func p1F) p1C] h (λr h'=>r= .sc (.bool o)/\h'=h):=by
 refine fM 9 [.tmp 4] Tryz.func55 rfl rfl rfl rfl ?_
 unfold YV at m
 refine v (v ?_)
 obtain⟨_,Y4,m⟩:=aC m
 refine vn (λu=>bW (aG0 _ p1B (λx0 o h0 hs ho=>p1H x0 o h0 ((aU (nil_sublist _) u).1.trans hs) ho) Y4) rfl UJ rfl) (v ?_)
 cases m
 exact eI rfl
theorem aBP:aP prog 55=true:=by kernel_rfl
def NV (m:Nat) (p0:aS) (c0:Int):Option (Bool):=
 some (p0.Vol==c0)
theorem aG1 {w:Nat} {p0:aS} {c0:Int} {o:Bool} (h:aF) {c0K:bX} (c0H:h c0K=some (.obj 3 (fQ c0))) (m:NV w p0 c0=some o):
 aM prog 111 [.agg (aO p0),.ptr c0K 0] h (λr h'=>r= .sc (.bool o)/\h'=h):=by
 refine fM 8 [.tmp 3] Tryz.func111 rfl rfl rfl rfl ?_
 unfold NV at m
 refine v (gX rfl rfl λk2 K3=>v (vl 0 _ cG rfl rfl rfl (vn (λu=>gO (nZ c0) cG rfl (fX u c0H) rfl) (v ?_))))
 cases m
 exact eI rfl
theorem aBQ:aP prog 111=true:=by kernel_rfl
def WI (m:Nat) (p0:List aS) (p1:Int):Option (Bool):=
 (YV m p0 (λx0=>NV m x0 p1)).bind λy6=>some y6
theorem W64 {w:Nat} {p0:List aS} {p1:Int} {o:Bool} (h:aF) (m:WI w p0 p1=some o):
 aM prog 64 [.sl none 4 (map aO p0),nZ p1] h (λr h'=>r= .sc (.bool o)/\h'=h):=by
 refine fM 8 [.tmp 4] Tryz.func64 rfl rfl rfl rfl ?_
 unfold WI at m
 refine v (gX rfl rfl λk2 K3=>v ?_)
 obtain⟨_,Y7,m⟩:=aC m
 refine vn (λu=>bW (W55 _ aBQ (λ_ o h0 hs ho=>aG1 _ (hs _ _ (a9 0 u rfl)) ho) Y7) rfl aBP rfl) (v ?_)
 obtain rfl:=eT m
 exact eI rfl
theorem aBR:aP prog 64=true:=by kernel_rfl
def YW (m:Nat) (p0:List aS) (p1:Bool) (c0:Int):Option (Bool):=
 (WI m p0 c0).bind λy3=>some y3
theorem W63 {u:Nat} {p0:List aS} {p1:Bool} {c0:Int} {o:Bool} (h:aF) {c0K:bX} (c0H:h c0K=some (.obj 3 (fQ c0))) (m:YW u p0 p1 c0=some o):
 aM prog 63 [.sl none 4 (map aO p0),.sc (.bool p1),.ptr c0K 0] h (λr h'=>r= .sc (.bool o)/\h'=h):=by
 refine fM 9 [.tmp 5] Tryz.func63 rfl rfl rfl rfl ?_
 unfold YW at m
 refine v (v (bV (gO (nZ c0) cG rfl c0H rfl) (vk W64 aBR m rfl rfl λ_ m=>v ?_)))
 obtain rfl:=eT m
 exact eI rfl
theorem aG2:aP prog 63=true:=by kernel_rfl
def YX (m:Nat) (p0:aS) (c0:aA) (c1:Int):Option (Bool):=
 after ((AB m p0.Vol 0 (wrap .i64 ((c0.Vols.length:Int) - 1))).bind λy0=>if y0 then ((ix c0.Vols p0.Vol).bind λx0=>Bk (x0.Pool==c1)) else Bk false:Option (Lp (Bool) (Bool))) λj0=>some j0
theorem W56 {w:Nat} {p0:aS} {c0:aA} {c1:Int} {o:Bool} (h:aF) {c0K:bX} (c0H:h c0K=some (.obj 30 (aD c0))) {c1K:bX} (c1H:h c1K=some (.obj 3 (fQ c1))) (m:YX w p0 c0 c1=some o):
 aM prog 56 [.agg (aO p0),.ptr c0K 0,.ptr c1K 0] h (λr h'=>r= .sc (.bool o)/\h'=h):=by
 refine fM 23 [.tmp 4] Tryz.func56 rfl rfl rfl rfl ?_
 unfold YX at m
 refine v (gX rfl rfl λk2 K3=>vs (fP m (σ:=Bool) (λs=>[(some k2,.obj 81 (aO p0))]) (λs=>.c 4 (.sc (.bool s)) .nil) (λx m=> ?_) ?_))
 refine v (vq (by kernel_rfl) (vl 0 _ cG rfl rfl rfl (vn (λu=>gO (.sl none 4 (map dN c0.Vols)) gH rfl (fX u c0H) rfl) (dI pM rfl (vk D2 pQ m rfl rfl λ_ m=> ?_)))))
 apply vi m<;>intro b0 m
 rw[b0]
 exact vn (λu=>gO (.sl none 4 (map dN c0.Vols)) gH rfl (fX u c0H) rfl) (vl 0 _ cG rfl rfl rfl (vx m kZ rfl rfl λ_ _ m=>vn (λu=>gO (nZ c1) cG rfl (fX u c1H) rfl) (nI m)))
 rw[b0]
 exact nI m
 rintro _ j0 m
 refine v ?_
 obtain rfl:=eT m
 exact eI rfl
theorem aG3:aP prog 56=true:=by kernel_rfl
def UK (m:Nat) (p0:aA) (p1:List aS) (p2:Int):Option (Bool):=
 (YV m p1 (λx0=>YX m x0 p0 p2)).bind λy9=>some y9
theorem W21 {w:Nat} {p0:aA} {p1:List aS} {p2:Int} {o:Bool} (h:aF) (m:UK w p0 p1 p2=some o):
 aM prog 21 [.agg (aD p0),.sl none 4 (map aO p1),nZ p2] h (λr h'=>r= .sc (.bool o)/\h'=h):=by
 refine fM 10 [.tmp 6] Tryz.func21 rfl rfl rfl rfl ?_
 unfold UK at m
 refine v (gX rfl rfl λk2 K3=>gX rfl rfl λk5 K6=>v ?_)
 obtain⟨_,Y0,m⟩:=aC m
 refine vn (λu=>bW (W55 _ aG3 (λ_ o h0 hs ho=>W56 _ (hs _ _ (a9 1 u rfl)) (hs _ _ (a9 0 u rfl)) ho) Y0) rfl aBP rfl) (v ?_)
 obtain rfl:=eT m
 exact eI rfl
theorem R8:aP prog 21=true:=by kernel_rfl
def HE (m:Nat) (p0:List aB) (p1:aB->Option Bool) (q0:Int):Option (Lp (Int) (Int)):=
 if decide (q0 < (p0.length:Int)) then ((ix p0 q0).bind λx0=>(p1 x0).bind λy0=>if y0 then Rk q0 else Gk (wrap .i64 (q0+1))) else Bk q0
def M53 (m:Nat) (p0:List aB) (p1:aB->Option Bool):Option (Int):=
 after (aT (λs=>HE m p0 p1 s) m 0) λr0=>some (-1)
theorem W53 {w:Nat} {p0:List aB} {p1:aB->Option Bool} {o:Int} (h:aF) {p1F:Nat} {p1C:List AV} (p1B:aP prog p1F=true) (p1H:∀x0 o h0,iG h h0->p1 x0=some o->aM prog p1F ([.agg (aK x0)]++p1C) h0 (λr h'=>r= .sc (.bool o)/\h'=h0)) (m:M53 w p0 p1=some o):
 aM prog 53 [.sl none 35 (map aK p0),.fn (.func p1F) p1C] h (λr h'=>r=nZ o/\h'=h):=by
 refine fM 19 [.tmp 4] Tryz.func53 rfl rfl rfl rfl ?_
 unfold M53 at m
 refine v (v (dI kY rfl (jT m (σ:=Int) (λs=>[]) (λs=>.c 0 (.sl none 35 (map aK p0)) (.c 1 (.fn (.func p1F) p1C) (.c 7 (nZ (p0.length:Int)) (.c 8 (nZ s) .nil)))) (lx (.k4 .nil)) ?_ ?_)))
 rintro _ q0 x m
 replace m:HE w p0 p1 q0=some x:=m
 unfold HE at m
 refine v (v ?_)
 apply vi m<;>intro c0 m
 refine v (v (v (v (vx m fZ rfl rfl λx1 _ m=>va (.agg (aK x1)) nL rfl rfl ?_))))
 obtain⟨_,Y0,m⟩:=aC m
 refine vn (λu=>bW (p1H _ _ _ (aU (nil_sublist _) u).1 Y0) rfl p1B rfl) (v ?_)
 apply vi m<;>intro c1 m
 refine v (v (gM m λm=> ?_))
 obtain rfl:=eT m
 exact eI rfl
 exact v (v (fV m))
 exact v (u0 m)
 rintro _ r0 m
 refine v (v ?_)
 cases m
 exact eI rfl
theorem aBS:aP prog 53=true:=by kernel_rfl
def M54 (m:Nat) (p0:aB) (c0:bK):Option (Bool):=
 some (decide (p0.Id=c0))
theorem W54 {w:Nat} {p0:aB} {c0:bK} {o:Bool} (h:aF) {c0K:bX} (c0H:h c0K=some (.obj 36 (bF c0))) (m:M54 w p0 c0=some o):
 aM prog 54 [.agg (aK p0),.ptr c0K 0] h (λr h'=>r= .sc (.bool o)/\h'=h):=by
 refine fM 8 [.tmp 3] Tryz.func54 rfl rfl rfl rfl ?_
 unfold M54 at m
 refine v (gX rfl rfl λk2 K3=>v (vl 0 (.agg (bF p0.Id)) fF rfl rfl rfl (vn (λu=>gO (.agg (bF c0)) fF rfl (fX u c0H) rfl) (bV (BD EU T8 u5 ES rfl rfl) (v ?_)))))
 cases m
 exact eI rfl
theorem aG6:aP prog 54=true:=by kernel_rfl
def M20 (m:Nat) (p0:aA) (p1:bK):Option (Int):=
 (M53 m p0.Chunks (λx0=>M54 m x0 p1)).bind λy9=>some y9
theorem W20 {w:Nat} {p0:aA} {p1:bK} {o:Int} (h:aF) (m:M20 w p0 p1=some o):
 aM prog 20 [.agg (aD p0),.agg (bF p1)] h (λr h'=>r=nZ o/\h'=h):=by
 refine fM 9 [.tmp 4] Tryz.func20 rfl rfl rfl rfl ?_
 unfold M20 at m
 refine v (gX rfl rfl λk2 K3=>gX rfl rfl λk5 K6=>v (vl 1 _ fA rfl rfl rfl ?_))
 obtain⟨_,Y0,m⟩:=aC m
 refine vn (λu=>bW (W53 _ aG6 (λ_ o h0 hs ho=>W54 _ (hs _ _ (a9 0 u rfl)) ho) Y0) rfl aBS rfl) (v ?_)
 obtain rfl:=eT m
 exact eI rfl
theorem aG8:aP prog 20=true:=by kernel_rfl
def M51 (m:Nat) (p0:List aS) (p1:Bool) (c0:aA) (c1:Int):Option (Bool):=
 after (if p1 then ((UK m c0 p0 c1).bind λy0=>if (!y0)then (if (c1==0)then Bk true else (UK m c0 p0 0).bind λy1=>Bk y1) else Bk false) else Bk false:Option (Lp (Bool) (Bool))) λj0=>some j0
theorem W51 {u:Nat} {p0:List aS} {p1:Bool} {c0:aA} {c1:Int} {o:Bool} (h:aF) {c0K:bX} (c0H:h c0K=some (.obj 30 (aD c0))) {c1K:bX} (c1H:h c1K=some (.obj 3 (fQ c1))) (m:M51 u p0 p1 c0 c1=some o):
 aM prog 51 [.sl none 4 (map aO p0),.sc (.bool p1),.ptr c0K 0,.ptr c1K 0] h (λr h'=>r= .sc (.bool o)/\h'=h):=by
 refine fM 24 [.tmp 6] Tryz.func51 rfl rfl rfl rfl ?_
 unfold M51 at m
 refine v (vs (fP m (σ:=Bool) (λs=>[]) (λs=>.c 6 (.sc (.bool s)) .nil) (λx m=> ?_) ?_))
 refine v ?_
 apply vi m<;>intro b0 m
 rw[b0]
 refine bV (gO (.agg (aD c0)) dG rfl c0H rfl) (bV (gO (nZ c1) cG rfl c1H rfl) (vk W21 R8 m rfl rfl λ_ m=> ?_))
 apply vi m<;>intro b1 m
 rw[b1]
 refine bV (gO (nZ c1) cG rfl c1H rfl) ?_
 apply vi m<;>intro b2 m
 rw[b2]
 exact nI m
 rw[b2]
 exact bV (gO (.agg (aD c0)) dG rfl c0H rfl) (vk W21 R8 m rfl rfl λ_ m=>nI m)
 rw[b1]
 exact nI m
 rw[b0]
 exact nI m
 rintro _ j0 m
 refine v ?_
 obtain rfl:=eT m
 exact eI rfl
theorem aHA:aP prog 51=true:=by kernel_rfl
def M68 (m:Nat) (p0:aS) (c0:Int):Option (Bool):=
 some (p0.Vol==c0)
theorem W68 {w:Nat} {p0:aS} {c0:Int} {o:Bool} (h:aF) {c0K:bX} (c0H:h c0K=some (.obj 3 (fQ c0))) (m:M68 w p0 c0=some o):
 aM prog 68 [.agg (aO p0),.ptr c0K 0] h (λr h'=>r= .sc (.bool o)/\h'=h):=by
 refine fM 8 [.tmp 3] Tryz.func68 rfl rfl rfl rfl ?_
 unfold M68 at m
 refine v (gX rfl rfl λk2 K3=>v (vl 0 _ cG rfl rfl rfl (vn (λu=>gO (nZ c0) cG rfl (fX u c0H) rfl) (v ?_))))
 cases m
 exact eI rfl
theorem aHB:aP prog 68=true:=by kernel_rfl
open Go.Vm Go.ChangeShapes Go.WideShapes
section
variable {H:Type} {enc:TypeId×Value->H} {W:World}
theorem ce3:prog.cellsOf 3=1:=by kernel_rfl
theorem rd3:Rd enc prog W 3 fQ gI:=VG u3
theorem aHC:Rd enc prog W 22 RQ (gL gI):=Rd.slice rd3 u22 ce3 (λ_=>rfl) (by decide)
theorem aBT:prog.cellsOf 67=5:=by kernel_rfl
theorem aHD:prog.cellsOf 64=1:=by kernel_rfl
theorem aBU:prog.cellsOf 95=2:=by kernel_rfl
theorem ce9:prog.cellsOf 9=1:=by kernel_rfl
theorem rd9:Rd enc prog W 9 T7 gT:=VH u9
theorem aHE:prog.cellsOf 41=1:=by kernel_rfl
theorem ce5:prog.cellsOf 5=1:=by kernel_rfl
theorem rd5:Rd enc prog W 5 gG gB:=Z7 u5
theorem aHF:Rd enc prog W 41 iL (gL gB):=Rd.slice rd5 u41 ce5 (λ_=>rfl) (by decide)
def HF (x:dR):Prop:=gT x.Path/\(gL gB) x.Data
theorem aHG:RL prog 95=some 2:=by kernel_rfl
theorem aHH:Rd enc prog W 95 eU HF:=by
 intro fuel cs x h
 obtain⟨hl,hf⟩:=Rd.flds aHG aBU h
 obtain⟨a0,g0,v0,w0⟩:=hf 0 0 1 V8 ce9 rd9
 obtain⟨a1,g1,v1,w1⟩:=hf 1 1 1 V9 aHE aHF
 obtain⟨v,w⟩:=(GV.cons v0 w0 (GV.cons v1 w1 (GV.nil hl) rfl) rfl)
 exact⟨⟨a0,a1⟩,⟨g0,g1⟩,by simpa [eU,T7,iL] using v,by simpa using w⟩
theorem aHI:Rd enc prog W 64 EQ (gL HF):=Rd.slice aHH u64 aBU (λx=>by simp[eU,bF]) (by decide)
theorem aHJ:prog.cellsOf 65=1:=by kernel_rfl
theorem ce4:prog.cellsOf 4=1:=by kernel_rfl
theorem rd4:Rd enc prog W 4 G8 gT:=RK u4
theorem aHK:Rd enc prog W 65 ER (gL gT):=Rd.slice rd4 u65 ce4 (λ_=>rfl) (by decide)
def IV (x:nJ):Prop:=gI x.Do/\gI x.N/\gI x.Vol/\(gL HF) x.Tree/\(gL gT) x.Pick
theorem aHL:RL prog 67=some 5:=by kernel_rfl
theorem aHM:Rd enc prog W 67 fR IV:=by
 intro fuel cs x h
 obtain⟨hl,hf⟩:=Rd.flds aHL aBT h
 obtain⟨a0,g0,v0,w0⟩:=hf 0 0 1 V1 ce3 rd3
 obtain⟨a1,g1,v1,w1⟩:=hf 1 1 1 V3 ce3 rd3
 obtain⟨a2,g2,v2,w2⟩:=hf 2 2 1 V4 ce3 rd3
 obtain⟨a3,g3,v3,w3⟩:=hf 3 3 1 V5 aHD aHI
 obtain⟨a4,g4,v4,w4⟩:=hf 4 4 1 V6 aHJ aHK
 obtain⟨v,w⟩:=(GV.cons v0 w0 (GV.cons v1 w1 (GV.cons v2 w2 (GV.cons v3 w3 (GV.cons v4 w4 (GV.nil hl) rfl) rfl) rfl) rfl) rfl)
 exact⟨⟨a0,a1,a2,a3,a4⟩,⟨g0,g1,g2,g3,g4⟩,by simpa [fR,fQ,fQ,fQ,EQ,ER] using v,by simpa using w⟩
theorem aHN:Rd enc prog W 23 RR (gL IV):=Rd.slice aHM u23 aBT (λx=>by simp[fR,bF]) (by decide)
def HG (x:dF):Prop:=gT x.Path/\gI x.Size/\(gL (λx:bK=>gL gB x.1)) x.Ids
def yU (x:bG):Prop:=gT x.Name/\(gL HG) x.Parts
def p7 (x:aS):Prop:=gI x.Vol/\gI x.File/\gI x.Off/\gI x.Len
def WJ (x:aI):Prop:=gI x.Seq/\yU x.Man/\(gL p7) x.Locs
def IW (x:aB):Prop:=(λx:bK=>gL gB x.1) x.Id/\gT x.Staged/\(gL gB) x.Data/\(gL p7) x.Locs
def aBV (x:aQ):Prop:=gI x.Seq/\gI x.Of/\(gL p7) x.Locs
def UL (x:aR):Prop:=gI x.Pool/\gI x.Epoch/\gI x.State/\gI x.Files
def BP (x:aA):Prop:=gI x.Seq/\(gL WJ) x.Snaps/\(gL IW) x.Chunks/\(gL aBV) x.Exps/\(gL UL) x.Vols
theorem rr3:prog.readableRec 3=true/\3 < prog.types.size:=⟨by kernel_rfl,of_decide_eq_true (by kernel_rfl)⟩
theorem aHO:prog.readableRec 22=true/\22 < prog.types.size:=⟨by kernel_rfl,of_decide_eq_true (by kernel_rfl)⟩
theorem aHP:prog.readableRec 23=true/\23 < prog.types.size:=⟨by kernel_rfl,of_decide_eq_true (by kernel_rfl)⟩
theorem aHQ:ownKnob prog.godebug=none:=by kernel_rfl
theorem NW:laidOutB prog=true:=by kernel_rfl
end
def fI (a b c:Int):Bool:=decide (b<=a) && decide (a<=c)
theorem UM (F:Nat) (a b c:Int):AB F a b c=some (fI a b c):=by
 unfold AB fI
 by_cases h:b<=a<;>simp[after,h]
theorem m59 (F:Nat) (a b c:Int):IU F a b c=some (fI a b c):=by
 unfold IU fI
 by_cases h:b<=a<;>simp[after,h]
def jV (a b:aS):Bool:=if a.Vol !=b.Vol then decide (b.Vol < a.Vol) else if a.File !=b.File then decide (b.File < a.File) else decide (b.Off < a.Off)
theorem aHR (F:Nat) (a b:aS):NN F a b=some (jV a b):=by
 unfold NN jV
 split
 ·rfl
 ·split<;>rfl
def E8 (c:aA) (l:List aS) (i:Nat):Bool:=match l[i]? with
  | none=>true
  | some x=>fI x.Vol 0 ((c.Vols.length:Int) - 1) && (match c.Vols[x.Vol.toNat]? with | none=>false | some v=>v.State==2 && fI x.File 1 v.Files) && fI x.Off 0 16777215 && fI x.Len 13 8013 &&
      (i==0 || (match l[i - 1]? with | none=>true | some y=>jV x y))
def iM (c:aA) (l:List aS):Bool:=decide (l.length<=200) && !(range l.length).any λi=> !E8 c l i
theorem WK {F:Nat} {c:aA} {l:List aS} (hF:1000<=F) (hv:c.Vols.length < 1000):AM F c l=some (iM c l):=by
 unfold AM iM
 by_cases hl:200 < (l.length:Int)
 ·rw[if_pos (by simpa using hl)]; simp; omega
 ·rw[if_neg (by simpa using hl)]
  rw[fB (s0:=(0:Int)) (n:=l.length) (F:=F) (λi:Nat=>(i:Int)) (λi=> !E8 c l i) (λ_=>false) (by omega) rfl,iV]
  ·have:l.length<=200:=by omega
   simp only[this,decide_true,Bool.true_and]
   split<;>rename_i h<;>simp[after,h]
  ·intro i hi _
   unfold tF E8
   have hx:l[i]? =some l[i]:=getElem?_eq_getElem hi
   generalize l[i]=x at hx
   rw[wr (by omega) (by omega),f0 (by omega)]
   simp only[a8,hx,UM,aHR,bind_some,cS,aG,cK,dH,ofNat_lt,hi,decide_true,if_true]
   cases h1:fI x.Vol 0 ((c.Vols.length:Int) - 1)
   ·simp[after]
   ·have h2:0<=x.Vol/\x.Vol.toNat < c.Vols.length:=by simp[fI] at h1; omega
    have h3:c.Vols[x.Vol.toNat]? =some c.Vols[x.Vol.toNat]:=getElem?_eq_getElem h2.2
    generalize c.Vols[x.Vol.toNat]=v at h3
    simp only[m5 _ h2.1,h3,bind_some]
    by_cases h0:i=0
    ·subst h0
     simp[after]
     grind
    ·have h5:l[i - 1]? =some l[i - 1]:=getElem?_eq_getElem (by omega)
     generalize l[i - 1]=y at h5
     rw[yR (by omega) (by omega)]
     simp[after,a8,h5,h0,pos_of_ne_zero h0]
     grind
  ·intro _
   unfold tF
   simp
open Go.Vm Go.Lib
def key:List Int->Int
 | []=>0
 | a::u=>a*256 ^ u.length+key u
theorem HH:∀ {l:List Int},gL gB l->0<=key l/\key l < 256 ^ l.length
 | [],_=>by simp[key]
 | a::u,h=>by
  have⟨h1,h2⟩:=h a (by simp)
  have⟨h3,h4⟩:=HH (l:=u) λx hx=>h x (by simp[hx])
  have hp:(0:Int) < 256 ^ u.length:=Int.pow_pos (by decide)
  simp only[key,List.length_cons,Int.pow_succ]
  have:a*256 ^ u.length<=255*256 ^ u.length:=Int.mul_le_mul_of_nonneg_right (by omega) (by omega)
  have:0<=a*256 ^ u.length:=Int.mul_nonneg h1 (by omega)
  omega
theorem qQ {a b:Int} {u v:List Int} (hl:u.length=v.length) (ha:gL gB (a::u)) (hb:gL gB (b::v)):
    (a < b->key (a::u) < key (b::v))/\(a=b->(key (a::u) < key (b::v)↔key u < key v)/\(key (a::u)=key (b::v)↔key u=key v)):=by
  have⟨h3,h4⟩:=HH (l:=u) λx hx=>ha x (by simp[hx])
  have⟨h5,h6⟩:=HH (l:=v) λx hx=>hb x (by simp[hx])
  simp only[key]
  rw[hl] at h4 ⊢
  generalize (256:Int) ^ v.length=q at h4 h6
  constructor
  . intro h
    have:(a+1)*q<=b*q:=Int.mul_le_mul_of_nonneg_right (by omega) (by omega)
    rw[Int.add_mul] at this
    omega
  . rintro rfl
    omega
theorem IX:∀ {a b:List Int},a.length=b.length->gL gB a->gL gB b->key a=key b->a=b
 | [],[],_,_,_,_=>rfl
 | x::u,y::v,hl,ha,hb,h=>by
  have hl':u.length=v.length:=by simpa using hl
  obtain⟨h1,h2⟩:=qQ hl' ha hb
  obtain⟨h3, -⟩:=qQ hl'.symm hb ha
  rcases Int.lt_trichotomy x y with q | q | q
  ·have:=h1 q; omega
  ·subst q
   rw[IX hl' (λz hz=>ha z (by simp[hz])) (λz hz=>hb z (by simp[hz])) ((h2 rfl).2.1 h)]
  ·have:=h3 q; omega
theorem BQ (xs:List Int):(bA xs).data.toList=xs.map λz=>z.toNat.toUInt8:=by
 have:∀(xs:List Int) (acc:ByteArray),(xs.foldl (λacc z=>acc.push z.toNat.toUInt8) acc).data.toList=acc.data.toList++xs.map λz=>z.toNat.toUInt8:=by
  intro xs
  induction xs with
  | nil=>simp
  | cons x xs ih=>intro acc; rw[List.foldl_cons,ih]; simp[ByteArray.push]
 rw[bA,this]
 rfl
theorem UN {a b:Int} (ha:gB a) (hb:gB b):a.toNat.toUInt8 < b.toNat.toUInt8↔a < b:=by
 unfold gB at ha hb
 rw[UInt8.lt_iff_toNat_lt]
 simp only[Nat.toUInt8,UInt8.toNat_ofNat']
 omega
theorem E9:∀ {a b:List Int},a.length=b.length->gL gB a->gL gB b->compareBytes (a.map λz=>z.toNat.toUInt8) (b.map λz=>z.toNat.toUInt8)=if key a < key b then -1 else if key b < key a then 1 else 0
 | [],[],_,_,_=>by simp[compareBytes,key]
 | x::u,y::v,hl,ha,hb=>by
  have hl':u.length=v.length:=by simpa using hl
  obtain⟨h1,h2⟩:=qQ hl' ha hb
  obtain⟨h3,h4⟩:=qQ hl'.symm hb ha
  have hx:=ha x (by simp)
  have hy:=hb y (by simp)
  simp only[List.map_cons,compareBytes,UN hx hy,UN hy hx]
  rcases Int.lt_trichotomy x y with q | q | q
  ·rw[if_pos q,if_pos (h1 q)]
  ·subst q
   rw[if_neg (by omega),if_neg (by omega),E9 hl' (λz hz=>ha z (by simp[hz])) (λz hz=>hb z (by simp[hz]))]
   simp only[(h2 rfl).1,(h4 rfl).1]
  ·rw[if_neg (by omega),if_pos q,if_neg (by have:=h3 q; omega),if_pos (h3 q)]
def mQ (x:bK):Prop:=gL gB x.1
def ky (x:bK):Int:=key x.1
theorem NX {a b:bK} (ha:mQ a) (hb:mQ b) (h:ky a=ky b):a=b:=Subtype.ext (IX (by rw[a.2,b.2]) ha hb h)
theorem NY (F:Nat) {a b:bK} (ha:mQ a) (hb:mQ b):KN F a b=some (if ky a < ky b then -1 else if ky b < ky a then 1 else 0):=by
 unfold KN GX ky
 rw[cmp_eq,BQ,BQ,E9 (by rw[a.2,b.2]) ha hb]
theorem yV:∀(n:Nat) {a b:List Int},a.length=n->b.length=n->gL gB a->gL gB b->
    (match (range n).find? λi=>a.getD i 0 !=b.getD i 0 with | none=>false | some i=>decide (a.getD i 0 < b.getD i 0))=decide (key a < key b)
  | 0,[],[],_,_,_,_=>by simp[key]
  | n+1,x::u,y::v,h1,h2,ha,hb=>by
    have hl':u.length=v.length:=by simp at h1 h2; omega
    obtain⟨k1,k2⟩:=qQ hl' ha hb
    obtain⟨k3,k4⟩:=qQ hl'.symm hb ha
    have ih:=yV n (a:=u) (b:=v) (by simpa using h1) (by simpa using h2) (λz hz=>ha z (by simp[hz])) (λz hz=>hb z (by simp[hz]))
    rw[find_range_succ]
    simp only[List.getD_cons_zero,List.getD_cons_succ]
    by_cases q:x=y
    . subst q
      simp only[bne_self_eq_false,false_eq_true,if_false,(k2 rfl).1]
      rw[<- ih]
      cases (range n).find? λi=>u.getD i 0 !=v.getD i 0 with
      | none=>rfl
      | some i=>simp only[Option.map_some,List.getD_cons_succ]
    . have hne:(x !=y)=true:=by simpa using q
      simp only[hne,if_true,List.getD_cons_zero]
      rcases Int.lt_trichotomy x y with w | w | w
      . have:=k1 w; simp[w,this]
      . exact absurd w q
      . have:=k3 w
        simp; constructor<;>intro<;>omega
theorem wL {F:Nat} {a b:bK} (body:Int->Option (Lp Int Bool)) (hF:1000<=F) (ha:mQ a) (hb:mQ b)
    (h:∀i:Nat,body i=if decide ((i:Int) < 32)then ((ix a.1 i).bind λx48=>(ix b.1 i).bind λx50=>if (x48 !=x50)then ((ix a.1 i).bind λx54=>(ix b.1 i).bind λx56=>some (.ret (decide (x54 < x56)))) else some (.go (wrap .i64 (i+1)))) else some (.brk (i:Int))):
    (after (aT body F 0) λ_=>some false)=some (decide (ky a < ky b)):=by
  rw[fB (s0:=(0:Int)) (n:=32) (F:=F) (λi:Nat=>(i:Int)) (λi=>a.1.getD i 0 !=b.1.getD i 0) (λi=>decide (a.1.getD i 0 < b.1.getD i 0)) (by omega) rfl]
  . have:=yV 32 a.2 b.2 ha hb
    unfold ky
    rw[<- this]
    unfold LF
    cases (range 32).find? λi=>a.1.getD i 0 !=b.1.getD i 0<;>rfl
  . intro i hi _
    rw[h,f0 (by omega)]
    have h1:a.1[i]? =some a.1[i]:=getElem?_eq_getElem (by rw[a.2]; exact hi)
    have h2:b.1[i]? =some b.1[i]:=getElem?_eq_getElem (by rw[b.2]; exact hi)
    have h3:(i:Int) < 32:=by omega
    simp[a8,h1,h2,h3,List.getD]
    split<;>rfl
  . intro _
    rw[h]; simp
theorem m60 {F:Nat} {a b:bK} (hF:1000<=F) (ha:mQ a) (hb:mQ b):NS F a b=some (decide (ky a < ky b)):=wL (w9 F a b) hF ha hb λ_=>rfl
theorem aBX {F:Nat} {a b:bK} (hF:1000<=F) (ha:mQ a) (hb:mQ b):RZ F a b=some (decide (ky a < ky b)):=wL (xA F a b) hF ha hb λ_=>rfl
structure Sm (c:aA):Prop where
 g:BP c
 sn:c.Snaps.length<=12
 ch:c.Chunks.length<=400
 ex:c.Exps.length<=300
 vo:c.Vols.length<=20
 sl:∀s∈c.Snaps,s.Locs.length<=300
 cl:∀x∈c.Chunks,x.Locs.length<=300/\x.Data.length<=300
 el:∀x∈c.Exps,x.Locs.length<=300
 man:∀s∈c.Snaps,s.Man.Name.size<=100/\s.Man.Parts.length<=10/\∀p∈s.Man.Parts,p.Path.size<=100/\p.Ids.length<=40
theorem i6 {α:Type} (l:List α) (q:α->Bool):((range l.length).any λi=>(l[i]?).any q)=l.any q:=by
 rw[Bool.eq_iff_iff]
 simp only[any_eq_true,mem_range]
 constructor
 ·rintro⟨i,hi,h⟩
  rw[getElem?_eq_getElem hi] at h
  exact⟨l[i],getElem_mem hi,by simpa using h⟩
 ·rintro⟨x,hx,h⟩
  obtain⟨i,hi,rfl⟩:=List.getElem_of_mem hx
  exact⟨i,hi,by rw[getElem?_eq_getElem hi]; simpa using h⟩
def mD (v:aR):Bool:=fI v.Pool 0 1 && fI v.Epoch 0 1048576 && ((v.State==2 && fI v.Files 1 65535) || ((v.State==1 || v.State==3) && v.Files==0))
theorem tQ {α:Type} (l:List α) (q:α->Bool):(l.any λx=> !q x)= !l.all q:=by simp[List.any_eq_not_all_not]
theorem m69 {F:Nat} {l:List aR} (hF:1000<=F) (hl:l.length<=20):M78 F l=some (l.all mD && fI l.length 1 8):=by
 unfold M78
 rw[fB (s0:=(0:Int)) (n:=l.length) (F:=F) (λi:Nat=>(i:Int)) (λi=>(l[i]?).any λv=> !mD v) (λ_=>false) (by omega) rfl,iV,i6,tQ]
 ·cases h:l.all mD<;>simp[after,UM]
 ·intro i hi _
  unfold yO mD
  have hx:l[i]? =some l[i]:=getElem?_eq_getElem hi
  generalize l[i]=x at hx
  rw[f0 (by omega)]
  simp only[a8,hx,UM,bind_some,cS,aG,cK,dH,ofNat_lt,hi,decide_true,if_true,any_some]
  by_cases h2:x.State=2
  ·simp[h2]; grind
  ·by_cases h1:x.State=1
   ·simp[h1]; grind
   ·by_cases h3:x.State=3
    ·simp[h3]; grind
    ·simp[h1,h2,h3]
 ·intro _
  unfold yO
  simp
theorem m61 {F:Nat} {c:aA} {l:List aS} (hF:1000<=F) (hv:c.Vols.length < 1000):AP F c l=some (iM c l):=by
 unfold AP iM
 by_cases hl:200 < (l.length:Int)
 ·rw[if_pos (by simpa using hl)]; simp; omega
 ·rw[if_neg (by simpa using hl)]
  rw[fB (s0:=(0:Int)) (n:=l.length) (F:=F) (λi:Nat=>(i:Int)) (λi=> !E8 c l i) (λ_=>false) (by omega) rfl,iV]
  ·have:l.length<=200:=by omega
   simp only[this,decide_true,Bool.true_and]
   split<;>rename_i h<;>simp[after,h]
  ·intro i hi _
   unfold tK E8
   have hx:l[i]? =some l[i]:=getElem?_eq_getElem hi
   generalize l[i]=x at hx
   rw[f0 (by omega)]
   simp only[a8,hx,m59,bind_some,cS,aG,cK,dH,ofNat_lt,hi,decide_true,if_true]
   by_cases h1:x.Vol < 0
   ·simp[h1,fI]
    try omega
   ·by_cases h2:(c.Vols.length:Int)<=x.Vol
    ·simp[h1,h2,fI]; omega
    ·have h2':0<=x.Vol/\x.Vol.toNat < c.Vols.length:=by omega
     have h3:c.Vols[x.Vol.toNat]? =some c.Vols[x.Vol.toNat]:=getElem?_eq_getElem h2'.2
     generalize c.Vols[x.Vol.toNat]=v at h3
     have h4:fI x.Vol 0 ((c.Vols.length:Int) - 1)=true:=by simp[fI]; omega
     simp only[m5 _ h2'.1,h3,bind_some,h1,h2,h4,Bool.true_and,decide_false]
     by_cases h0:i=0
     ·subst h0
      simp[after]
      grind
     ·have h5:l[i - 1]? =some l[i - 1]:=getElem?_eq_getElem (by omega)
      generalize l[i - 1]=y at h5
      rw[yR (by omega) (by omega)]
      simp[after,a8,h5,h0,pos_of_ne_zero h0,jV]
      grind
  ·intro _
   unfold tK
   simp
def IY (c:aA) (i:Nat):Bool:=match c.Chunks[i]? with
 | none=>true
 | some x=>(i==0 || (match c.Chunks[i - 1]? with | none=>true | some y=>decide (ky y.Id < ky x.Id))) && iM c x.Locs && (if x.Staged then fI x.Data.length 1 64 else (!decide (0 < x.Data.length) && !(x.Locs.length==0)))
theorem gch {c:aA} (h:Sm c) {i:Nat} {x:aB} (hx:c.Chunks[i]? =some x):mQ x.Id:=by
 have:=h.g.2.2.1 x (mem_of_getElem? hx)
 exact this.1
theorem NZ {F:Nat} {c:aA} (hF:1000<=F) (h:Sm c) {i:Nat} (hi:i < c.Chunks.length):vQ F c i=some (if !IY c i then .ret false else .go ((i+1:Nat):Int)):=by
 have hc:=h.ch
 have hv:=h.vo
 unfold vQ IY
 have hx:c.Chunks[i]? =some c.Chunks[i]:=getElem?_eq_getElem hi
 generalize c.Chunks[i]=x at hx
 have gx:=gch h hx
 rw[f0 (by omega)]
 simp only[a8,hx,UM,WK hF (show c.Vols.length < 1000 by omega),bind_some,cS,aG,cK,dH,ofNat_lt,hi,decide_true,if_true]
 generalize x.Locs.length=nl
 generalize x.Data.length=nd
 by_cases h0:i=0
 ·subst h0
  cases hs:x.Staged<;>simp[cS,aG,cK,dH]<;>grind
 ·have h5:c.Chunks[i - 1]? =some c.Chunks[i - 1]:=getElem?_eq_getElem (by omega)
  generalize c.Chunks[i - 1]=y at h5
  have gy:=gch h h5
  rw[yR (by omega) (by omega)]
  by_cases hk:ky y.Id < ky x.Id
  ·have e:¬(0<=if ky y.Id < ky x.Id then (-1:Int) else if ky x.Id < ky y.Id then 1 else 0):=by rw[if_pos hk]; omega
   cases hs:x.Staged<;>simp[cS,aG,cK,dH,a8,h5,h0,pos_of_ne_zero h0,NY F gy gx,e,hk]<;>grind
  ·have e:(0<=if ky y.Id < ky x.Id then (-1:Int) else if ky x.Id < ky y.Id then 1 else 0):=by rw[if_neg hk]; split<;>omega
   simp[cS,aG,cK,dH,a8,h5,h0,pos_of_ne_zero h0,NY F gy gx,e,hk]
   try (intro hh; exfalso; split at hh<;>omega)
def vX (c:aA):Bool:= !(range c.Chunks.length).any λi=> !IY c i
theorem m70 {F:Nat} {c:aA} (hF:1000<=F) (h:Sm c):M79 F c=some (vX c && decide (c.Chunks.length<=200)):=by
 have hc:=h.ch
 unfold M79 vX
 rw[fB (s0:=(0:Int)) (n:=c.Chunks.length) (F:=F) (λi:Nat=>(i:Int)) (λi=> !IY c i) (λ_=>false) (by omega) rfl,iV]
 ·cases (range c.Chunks.length).any λi=> !IY c i<;>simp[after]; omega
 ·exact λi hi _=>NZ hF h hi
 ·intro _; unfold vQ; simp
theorem WL {F:Nat} {c:aA} (hF:1000<=F) (h:Sm c) {i:Nat} (hi:i < c.Chunks.length):rS F c i=some (if !IY c i then .ret false else .go ((i+1:Nat):Int)):=by
 have hc:=h.ch
 have hv:=h.vo
 unfold rS IY
 have hx:c.Chunks[i]? =some c.Chunks[i]:=getElem?_eq_getElem hi
 generalize c.Chunks[i]=x at hx
 have gx:=gch h hx
 rw[f0 (by omega)]
 simp only[a8,hx,m59,m61 hF (show c.Vols.length < 1000 by omega),bind_some,cS,aG,cK,dH,ofNat_lt,hi,decide_true,if_true]
 generalize x.Locs.length=nl
 generalize x.Data.length=nd
 by_cases h0:i=0
 ·subst h0
  cases hs:x.Staged<;>simp[cS,aG,cK,dH]<;>grind
 ·have h5:c.Chunks[i - 1]? =some c.Chunks[i - 1]:=getElem?_eq_getElem (by omega)
  generalize c.Chunks[i - 1]=y at h5
  have gy:=gch h h5
  rw[yR (by omega) (by omega)]
  by_cases hk:ky y.Id < ky x.Id
  ·cases hs:x.Staged<;>simp[cS,aG,cK,dH,a8,h5,h0,pos_of_ne_zero h0,m60 hF gy gx,hk]<;>grind
  ·simp[cS,aG,cK,dH,a8,h5,h0,pos_of_ne_zero h0,m60 hF gy gx,hk]
theorem WM {F:Nat} {c:aA} (hF:1000<=F) (h:Sm c) {i:Nat} (hi:i < c.Vols.length):rR F c i=some (if (c.Vols[i]?).any λv=> !mD v then .ret false else .go ((i+1:Nat):Int)):=by
 have hv:=h.vo
 unfold rR mD
 have hx:c.Vols[i]? =some c.Vols[i]:=getElem?_eq_getElem hi
 generalize c.Vols[i]=x at hx
 rw[f0 (by omega)]
 simp only[a8,hx,m59,bind_some,cS,aG,cK,dH,ofNat_lt,hi,decide_true,if_true,any_some]
 by_cases h2:x.State=2
 ·simp[h2]; grind
 ·by_cases h1:x.State=1
  ·simp[h1]; grind
  ·by_cases h3:x.State=3
   ·simp[h3]; grind
   ·simp[h1,h2,h3]
theorem FA {s:ByteArray} {i:Nat} (h:i < s.size):∃z:Int,RG s (i:Int)=some z:=by
 unfold RG
 rw[if_pos (Int.natCast_nonneg i),Int.toNat_natCast]
 have:s[i]? =some s[i]:=getElem?_pos s i h
 rw[this]
 exact⟨_,rfl⟩
def WN (s:ByteArray) (i:Nat):Bool:=(RG s (i:Int)).any λz=>decide (z < 33) || decide (126 < z)
def rC (s:ByteArray):Bool:=fI s.size 1 20 && !(range s.size).any (WN s)
theorem aBY {F:Nat} {s:ByteArray} (hF:1000<=F):KL F s=some (rC s):=by
 unfold KL rC fI
 by_cases h1:(s.size:Int) < 1
 ·have h2:¬(1:Int)<=s.size:=by omega
  simp[after,h1,h2]
 ·by_cases h2:20 < (s.size:Int)
  ·have h3:¬(s.size:Int)<=20:=by omega
   simp[after,h1,h2,h3]
  ·rw[fB (s0:=(0:Int)) (n:=s.size) (F:=F) (λi:Nat=>(i:Int)) (WN s) (λ_=>false) (by omega) rfl,iV]
   ·have h3:(s.size:Int)<=20:=by omega
    have h4:(1:Int)<=s.size:=by omega
    simp only[h1,h2,h3,h4]
    cases h:(range s.size).any (WN s)<;>simp[after]
   ·intro i hi _
    unfold tG WN
    obtain⟨z,hz⟩:=FA hi
    rw[f0 (by omega)]
    simp only[hz,bind_some,cS,aG,cK,dH,ofNat_lt,hi,decide_true,if_true,any_some]
    grind
   ·intro _
    unfold tG
    simp
theorem N0 {F:Nat} {s:ByteArray} (hF:1000<=F) (hs:s.size<=100):C1 F s=some (rC s):=by
 unfold C1 rC fI
 rw[fB (s0:=(0:Int)) (n:=s.size) (F:=F) (λi:Nat=>(i:Int)) (WN s) (λ_=>false) (by omega) rfl,iV]
 ·cases h:(range s.size).any (WN s)
  ·simp only[cS,aG,cK]
   by_cases h1:(1:Int)<=s.size<;>simp[aG,h1]
  ·simp[after]
 ·intro i hi _
  unfold tL WN
  obtain⟨z,hz⟩:=FA hi
  rw[f0 (by omega)]
  simp only[hz,bind_some,cS,aG,cK,dH,ofNat_lt,hi,decide_true,if_true,any_some]
  grind
 ·intro _
  unfold tL
  simp
def N1 (x y:dF):Bool:=Op.bytesLess x.Path.toList y.Path.toList || x.Path.toList==y.Path.toList
def FB (x:dF):Bool:=rC x.Path && decide (0<=x.Size) && decide (x.Size<=200) && decide (x.Ids.length<=25) && ((x.Ids.length==0)==(x.Size==0))
def WO (m:bG) (i:Nat):Bool:=match m.Parts[i]? with
 | none=>true
 | some x=>FB x && (i==0 || (match m.Parts[i - 1]? with | none=>true | some y=> !N1 x y))
def vY (m:bG):Bool:=rC m.Name && decide (m.Parts.length<=6) && !(range m.Parts.length).any λi=> !WO m i
theorem MP (n:Nat):((n:Int)==0)=(n==0):=by
 rw[Bool.eq_iff_iff]; simp
theorem aHU {F:Nat} {x:dF} (hF:1000<=F):NO F x=some (FB x):=by
 unfold NO FB
 simp only[aBY hF,bind_some,cS,aG,MP]
 generalize rC x.Path=a
 generalize x.Ids.length=n
 by_cases h1:(n:Int)<=25
 ·have h2:n<=25:=by omega
  simp only[h1,h2]
  grind
 ·have h2:¬n<=25:=by omega
  simp only[h1,h2]
  grind
theorem m73 {F:Nat} {m:bG} (hF:1000<=F):KM F m=some (if vY m then 0 else 1):=by
 unfold KM vY
 simp only[aBY hF,bind_some,cS,aG,dH]
 cases hn:rC m.Name
 ·simp
 ·by_cases hl:6 < (m.Parts.length:Int)
  ·have:¬m.Parts.length<=6:=by omega
   simp[hl,this]
  ·have h6:m.Parts.length<=6:=by omega
   rw[fB (s0:=(0:Int)) (n:=m.Parts.length) (F:=F) (λi:Nat=>(i:Int)) (λi=> !WO m i) (λ_=>1) (by omega) rfl,iV]
   ·simp only[hl,h6]
    cases (range m.Parts.length).any λi=> !WO m i<;>simp[after]
   ·intro i hi _
    unfold tH WO
    have hx:m.Parts[i]? =some m.Parts[i]:=getElem?_eq_getElem hi
    generalize m.Parts[i]=x at hx
    rw[f0 (by omega)]
    simp only[a8,hx,aHU hF,bind_some,cS,aG,cK,dH,ofNat_lt,hi,decide_true,if_true]
    by_cases h0:i=0
    ·subst h0
     simp
     split<;>rfl
    ·have h5:m.Parts[i - 1]? =some m.Parts[i - 1]:=getElem?_eq_getElem (by omega)
     generalize m.Parts[i - 1]=y at h5
     rw[yR (by omega) (by omega)]
     simp only[a8,h5,bind_some,aG]
     rw[show (Op.bytesLess x.Path.toList y.Path.toList || x.Path.toList==y.Path.toList)=N1 x y from rfl]
     have h7:(0:Int) < i:=by omega
     simp only[h7,decide_true,if_true,h0]
     cases FB x<;>cases N1 x y<;>simp[h0]
   ·intro _; unfold tH; simp
theorem m62 {F:Nat} {m:bG} (hF:1000<=F) (hm:m.Name.size<=100) (hp:∀p∈m.Parts,p.Path.size<=100):YU F m=some (vY m):=by
 unfold YU vY
 simp only[N0 hF hm,bind_some,cS,aG,dH]
 cases hn:rC m.Name
 ·simp
 ·by_cases hl:6 < (m.Parts.length:Int)
  ·have:¬m.Parts.length<=6:=by omega
   simp[hl,this]
  ·have h6:m.Parts.length<=6:=by omega
   rw[fB (s0:=(0:Int)) (n:=m.Parts.length) (F:=F) (λi:Nat=>(i:Int)) (λi=> !WO m i) (λ_=>false) (by omega) rfl,iV]
   ·simp only[hl,h6]
    cases (range m.Parts.length).any λi=> !WO m i<;>simp[after]
   ·intro i hi _
    unfold yS WO FB
    have hx:m.Parts[i]? =some m.Parts[i]:=getElem?_eq_getElem hi
    have hpx:=hp _ (mem_of_getElem? hx)
    generalize m.Parts[i]=x at hx hpx
    rw[f0 (by omega)]
    simp only[a8,hx,N0 hF hpx,bind_some,cS,aG,cK,dH,ofNat_lt,hi,decide_true,if_true,MP]
    generalize rC x.Path=a
    generalize x.Ids.length=n
    have hn:(25 < (n:Int))=(25 < n):=by simp; omega
    simp only[hn]
    by_cases h0:i=0
    ·subst h0
     simp
     grind
    ·have h5:m.Parts[i - 1]? =some m.Parts[i - 1]:=getElem?_eq_getElem (by omega)
     generalize m.Parts[i - 1]=y at h5
     rw[yR (by omega) (by omega)]
     simp only[a8,h5,bind_some,aG]
     rw[show (Op.bytesLess x.Path.toList y.Path.toList || x.Path.toList==y.Path.toList)=N1 x y from rfl]
     have h7:(0:Int) < i:=by omega
     have h8:(i==0)=false:=by simpa using h0
     simp only[h7,decide_true,if_true,h8,Bool.false_or]
     generalize N1 x y=o
     generalize ((n==0):Bool)=e0
     generalize (x.Size==0:Bool)=e1
     have e2:decide (x.Size < 0)= !decide (0<=x.Size):=by rw[<- decide_not]; congr 1; simp
     have e3:decide (200 < x.Size)= !decide (x.Size<=200):=by rw[<- decide_not]; congr 1; simp
     have e4:decide (25 < n)= !decide (n<=25):=by rw[<- decide_not]; congr 1; simp
     rw[e2,e3,e4]
     generalize decide (0<=x.Size)=f2
     generalize decide (x.Size<=200)=f3
     generalize decide (n<=25)=f4
     cases a<;>cases o<;>cases f2<;>cases f3<;>cases f4<;>cases e0<;>cases e1<;>rfl
   ·intro _; unfold yS; simp
theorem p8 {α:Type} {l:List α} (q:α->Bool) {F:Nat} {body:Int->Option (Lp Int Int)} (hF:l.length < F)
    (hb:∀i:Nat,i < l.length->body (i:Int)=some (if (l[i]?).any q then .ret (i:Int) else .go ((i+1:Nat):Int))) (he:body (l.length:Int)=some (.brk (l.length:Int))):
    (after (aT body F 0) λ_=>some (-1)).bind (λy=>some (decide (0<=y)))=some (l.any q):=by
  rw[fB (s0:=(0:Int)) (n:=l.length) (F:=F) (λi:Nat=>(i:Int)) (λi=>(l[i]?).any q) (λi=>(i:Int)) hF rfl (λi hi _=>hb i hi) (λ_=>he),<- i6]
  unfold LF
  cases h:(range l.length).find? λi=>(l[i]?).any q with
  | none=>
    have:(range l.length).any (λi=>(l[i]?).any q)=false:=by
      rw[any_eq_false]
      exact λx hx=>by simpa using List.find?_eq_none.1 h x hx
    simp[after,this]
  | some i=>
    have:(range l.length).any (λi=>(l[i]?).any q)=true:=any_eq_true.2 ⟨i,List.mem_of_find?_eq_some h,List.find?_some (p:=λi=>(l[i]?).any q) h⟩
    simp[after,this]
theorem m89 {F:Nat} {l:List aI} {f:aI->Option Bool} (q:aI->Bool) (hF:l.length < F) (hl:l.length < 1000) (hf:∀x∈l,f x=some (q x)):WB F l f=some (l.any q):=by
 unfold WB RX
 refine p8 q hF (λi hi=> ?_) (by unfold tJ; simp)
 unfold tJ
 have hx:l[i]? =some l[i]:=getElem?_eq_getElem hi
 rw[f0 (by omega)]
 simp only[a8,hx,hf _ (getElem_mem hi),bind_some,ofNat_lt,hi,decide_true,if_true,any_some]
 split<;>rfl
theorem m91 {F:Nat} {l:List dF} {f:dF->Option Bool} (q:dF->Bool) (hF:l.length < F) (hl:l.length < 1000) (hf:∀x∈l,f x=some (q x)):M60 F l f=some (l.any q):=by
 unfold M60 R4
 refine p8 q hF (λi hi=> ?_) (by unfold tN; simp)
 unfold tN
 have hx:l[i]? =some l[i]:=getElem?_eq_getElem hi
 rw[f0 (by omega)]
 simp only[a8,hx,hf _ (getElem_mem hi),bind_some,ofNat_lt,hi,decide_true,if_true,any_some]
 split<;>rfl
theorem m94 {F:Nat} {l:List aS} {f:aS->Option Bool} (q:aS->Bool) (hF:l.length < F) (hl:l.length < 1000) (hf:∀x∈l,f x=some (q x)):YV F l f=some (l.any q):=by
 unfold YV R7
 refine p8 q hF (λi hi=> ?_) (by unfold tP; simp)
 unfold tP
 have hx:l[i]? =some l[i]:=getElem?_eq_getElem hi
 rw[f0 (by omega)]
 simp only[a8,hx,hf _ (getElem_mem hi),bind_some,ofNat_lt,hi,decide_true,if_true,any_some]
 split<;>rfl
theorem m93 {F:Nat} {l:List bK} {d:bK} (hF:l.length < F) (hl:l.length < 1000):M62 F l d=some (l.any λx=>decide (d=x)):=by
 unfold M62 R5
 refine p8 (λx=>decide (d=x)) hF (λi hi=> ?_) (by unfold tO; simp)
 unfold tO
 have hx:l[i]? =some l[i]:=getElem?_eq_getElem hi
 rw[f0 (by omega)]
 simp only[a8,hx,bind_some,ofNat_lt,hi,decide_true,if_true,any_some]
 split<;>rfl
def iS (c:aA) (d:bK):Bool:=c.Snaps.any λs=>s.Man.Parts.any λp=>p.Ids.any λx=>decide (d=x)
theorem m44 {F:Nat} {c:aA} {d:bK} (hF:1000<=F) (h:Sm c):WF F c d=some (iS c d):=by
 have hs:=h.sn
 unfold WF iS
 rw[m89 (λs=>s.Man.Parts.any λp=>p.Ids.any λx=>decide (d=x)) (by omega) (by omega)]
 ·rfl
 ·intro s hs'
  obtain⟨h1,h2,h3⟩:=h.man s hs'
  unfold M59
  rw[m91 (λp=>p.Ids.any λx=>decide (d=x)) (by omega) (by omega)]
  ·rfl
  ·intro p hp
   unfold M61
   rw[m93 (by have:=(h3 p hp).2; omega) (by have:=(h3 p hp).2; omega)]
   rfl
def z7 (c:aA) (i:Nat):Bool:=match c.Exps[i]? with
 | none=>true
 | some x=>fI x.Seq 0 (c.Seq - 1) && (i==0 || (match c.Exps[i - 1]? with | none=>true | some y=>decide (y.Seq < x.Seq))) && fI x.Of 0 (x.Seq - 1) && !(x.Locs.length==0) && iM c x.Locs
def KR (c:aA) (i:Nat):Bool:=match c.Exps[i]? with
 | none=>true
 | some x=> !c.Snaps.any λs=>s.Seq==x.Of
theorem gex {c:aA} (h:Sm c) {i:Nat} {x:aQ} (hx:c.Exps[i]? =some x):gI x.Seq/\gI x.Of:=by
 have:=h.g.2.2.2.1 x (mem_of_getElem? hx)
 exact⟨this.1,this.2.1⟩
theorem WP {F:Nat} {c:aA} (hF:1000<=F) (h:Sm c) (hq:fI c.Seq 0 1073741824=true) {i:Nat} (hi:i < c.Exps.length):
    vP F c i=some (if !(z7 c i && KR c i) then .ret false else .go ((i+1:Nat):Int)):=by
  have hc:=h.ex
  have hv:=h.vo
  have hsn:=h.sn
  unfold vP z7 KR
  have hx:c.Exps[i]? =some c.Exps[i]:=getElem?_eq_getElem hi
  generalize c.Exps[i]=x at hx
  have gx:=gex h hx
  have hq':0<=c.Seq/\c.Seq<=1073741824:=by simpa [fI] using hq
  rw[f0 (by omega),wr (n:=c.Seq - 1) (by omega) (by omega)]
  have hm:WB F c.Snaps (λx0=>RY F x0 x)=some (c.Snaps.any λs=>s.Seq==x.Of):=m89 (λs=>s.Seq==x.Of) (by omega) (by omega) (λs _=>rfl)
  simp only[a8,hx,hm,UM,WK hF (show c.Vols.length < 1000 by omega),bind_some,cS,aG,cK,dH,ofNat_lt,hi,decide_true,if_true,MP]
  generalize (x.Locs.length==0)=nl
  generalize iM c x.Locs=lb
  generalize (c.Snaps.any λs=>s.Seq==x.Of)=an
  cases h1:fI x.Seq 0 (c.Seq - 1)
  . simp
  . have h1':0<=x.Seq/\x.Seq<=c.Seq - 1:=by simpa [fI] using h1
    rw[wr (n:=x.Seq - 1) (by omega) (by omega)]
    generalize fI x.Of 0 (x.Seq - 1)=ob
    by_cases h0:i=0
    . subst h0
      cases nl<;>cases lb<;>cases an<;>cases ob<;>simp
    . have h5:c.Exps[i - 1]? =some c.Exps[i - 1]:=getElem?_eq_getElem (by omega)
      generalize c.Exps[i - 1]=y at h5
      rw[yR (by omega) (by omega)]
      have h7:(0:Int) < i:=by omega
      have h8:(i==0)=false:=by simpa using h0
      have e4:decide (x.Seq<=y.Seq)= !decide (y.Seq < x.Seq):=by rw[<- decide_not]; congr 1; simp
      simp only[a8,h5,h7,h8,e4,bind_some,decide_true,if_true,Bool.false_or]
      generalize decide (y.Seq < x.Seq)=od
      cases nl<;>cases lb<;>cases an<;>cases ob<;>cases od<;>simp[cS,aG]
def AQ (c:aA):Bool:= !(range c.Exps.length).any λi=> !(z7 c i && KR c i)
theorem m72 {F:Nat} {c:aA} (hF:1000<=F) (h:Sm c) (hq:fI c.Seq 0 1073741824=true):M81 F c=some (AQ c && decide (c.Exps.length<=200)):=by
 have hc:=h.ex
 unfold M81 AQ
 rw[fB (s0:=(0:Int)) (n:=c.Exps.length) (F:=F) (λi:Nat=>(i:Int)) (λi=> !(z7 c i && KR c i)) (λ_=>false) (by omega) rfl,iV]
 ·cases (range c.Exps.length).any λi=> !(z7 c i && KR c i)<;>simp[after]; omega
 ·exact λi hi _=>WP hF h hq hi
 ·intro _; unfold vP; simp
theorem R9 {F:Nat} {c:aA} (hF:1000<=F) (h:Sm c) {i:Nat} (hi:i < c.Exps.length):
    o0 F c i=some (if !z7 c i then .ret false else .go ((i+1:Nat):Int)):=by
  have hc:=h.ex
  have hv:=h.vo
  unfold o0 z7 fI
  have hx:c.Exps[i]? =some c.Exps[i]:=getElem?_eq_getElem hi
  generalize c.Exps[i]=x at hx
  rw[f0 (by omega)]
  simp only[a8,hx,m59,m61 hF (show c.Vols.length < 1000 by omega),bind_some,cS,aG,cK,dH,ofNat_lt,hi,decide_true,if_true,MP]
  generalize (x.Locs.length==0)=nl
  generalize iM c x.Locs=lb
  have e1:decide (x.Seq < 0)= !decide (0<=x.Seq):=by rw[<- decide_not]; congr 1; simp
  have e2:decide (c.Seq<=x.Seq)= !decide (x.Seq<=c.Seq - 1):=by rw[<- decide_not]; congr 1; simp; omega
  have e3:decide (x.Of < 0)= !decide (0<=x.Of):=by rw[<- decide_not]; congr 1; simp
  have e5:decide (x.Seq<=x.Of)= !decide (x.Of<=x.Seq - 1):=by rw[<- decide_not]; congr 1; simp; omega
  rw[e1,e2,e3,e5]
  generalize decide (0<=x.Seq)=d1
  generalize decide (x.Seq<=c.Seq - 1)=d2
  generalize decide (0<=x.Of)=d3
  generalize decide (x.Of<=x.Seq - 1)=d5
  by_cases h0:i=0
  . subst h0
    cases nl<;>cases lb<;>cases d1<;>cases d2<;>cases d3<;>cases d5<;>simp
  . have h5:c.Exps[i - 1]? =some c.Exps[i - 1]:=getElem?_eq_getElem (by omega)
    generalize c.Exps[i - 1]=y at h5
    rw[yR (by omega) (by omega)]
    have h7:(0:Int) < i:=by omega
    have h8:(i==0)=false:=by simpa using h0
    have e4:decide (x.Seq<=y.Seq)= !decide (y.Seq < x.Seq):=by rw[<- decide_not]; congr 1; simp
    simp only[a8,h5,h7,h8,e4,bind_some,decide_true,if_true,Bool.false_or]
    generalize decide (y.Seq < x.Seq)=od
    cases nl<;>cases lb<;>cases d1<;>cases d2<;>cases d3<;>cases d5<;>cases od<;>simp[cS,aG]
theorem aBZ {a b:Nat} (h:a+b < 1000000000):wrap .i64 ((wrap .u64 (wrap .i64 ((a:Int)+b))).fdiv (2 ^ (min (1:Int).toNat (IntKind.bits .u64))))=(((a+b) / 2:Nat):Int):=by
 have e1:wrap .i64 ((a:Int)+b)=((a+b:Nat):Int):=by rw[wr (by omega) (by omega)]; omega
 have e2:∀n:Nat,n < 1000000000->wrap .u64 (n:Int)=n:=by
  intro n hn
  have e:wrap .u64 (n:Int)=(n:Int) % 18446744073709551616:=rfl
  rw[e]; omega
 rw[e1,e2 _ h]
 have e3:(2:Int) ^ (min (1:Int).toNat (IntKind.bits .u64))=2:=by decide
 rw[e3,Int.fdiv_eq_ediv_of_nonneg _ (by omega),wr (by omega) (by omega)]
 omega
def u6 (l:List aB):Prop:=(∀x∈l,mQ x.Id)/\∀(i j:Nat) (x y:aB),l[i]? =some x->l[j]? =some y->i < j->ky x.Id < ky y.Id
theorem WQ {c:aA} (h:Sm c) (hc:vX c=true):u6 c.Chunks:=by
 refine⟨λx hx=>(h.g.2.2.1 x hx).1, ?_⟩
 have hs:∀i x y,c.Chunks[i]? =some x->c.Chunks[i+1]? =some y->ky x.Id < ky y.Id:=by
  intro i x y hx hy
  have hi:i+1 < c.Chunks.length:=(List.getElem?_eq_some_iff.1 hy).1
  unfold vX at hc
  simp only[Bool.not_eq_true',any_eq_false,mem_range] at hc
  have:=hc (i+1) hi
  unfold IY at this
  rw[hy,show i+1 - 1=i from rfl,hx] at this
  simp at this
  exact this.1
 intro i j x y hx hy hij
 obtain⟨k,rfl⟩:∃k,j=i+1+k:=⟨j - i - 1,by omega⟩
 clear hij
 induction k generalizing y with
 | zero=>exact hs i x y hx hy
 | succ k ih=>
  have hk:i+1+k < c.Chunks.length:=by have:=(List.getElem?_eq_some_iff.1 hy).1; omega
  exact Int.lt_trans (ih _ (getElem?_eq_getElem hk)) (hs (i+1+k) _ _ (getElem?_eq_getElem hk) hy)
theorem bis {F:Nat} {l:List aB} {d:bK} (hr:u6 l) (hd:mQ d) (hl:l.length < 1000):∀(G lo hi:Nat),lo<=hi->hi<=l.length->hi - lo < G->
    (∀j x,l[j]? =some x->j < lo->ky x.Id < ky d)->(∀j x,l[j]? =some x->hi<=j->ky d<=ky x.Id)->
    ∃p:Nat,p<=l.length/\aT (λs=>tI F l d (λx0 x1=>AN F x0 x1) s.1 s.2) G ((lo:Int),(hi:Int))=some (.brk ((p:Int),(p:Int)))/\
      (∀j x,l[j]? =some x->j < p->ky x.Id < ky d)/\(∀j x,l[j]? =some x->p<=j->ky d<=ky x.Id)
  | 0,_,_,_,_,h,_,_=>by omega
  | G+1,lo,hi,h1,h2,h3,h4,h5=>by
    unfold aT tI
    by_cases hlt:lo < hi
    . have hm:(lo+hi) / 2 < l.length:=by omega
      have hx:l[(lo+hi) / 2]? =some l[(lo+hi) / 2]:=getElem?_eq_getElem hm
      generalize l[(lo+hi) / 2]=x at hx
      have gx:=hr.1 x (mem_of_getElem? hx)
      have e:AN F x d=some (if ky x.Id < ky d then -1 else if ky d < ky x.Id then 1 else 0):=by unfold AN; rw[NY F gx hd]; rfl
      simp only[ofNat_lt,hlt,decide_true,if_true,aBZ (show lo+hi < 1000000000 by omega),a8,hx,bind_some,e]
      by_cases hk:ky x.Id < ky d
      . simp only[hk,if_true,show decide ((-1:Int) < 0)=true from rfl,aG]
        rw[f0 (by omega)]
        exact bis hr hd hl G ((lo+hi) / 2+1) hi (by omega) h2 (by omega) (λj y hy hj=>by
          rcases lt_or_ge j ((lo+hi) / 2) with q | q
          . exact Int.lt_trans (hr.2 _ _ _ _ hy hx q) hk
          . obtain rfl:j=(lo+hi) / 2:=by omega
            rw[hx] at hy; cases hy; exact hk) h5
      . have e2:decide ((if ky x.Id < ky d then (-1:Int) else if ky d < ky x.Id then 1 else 0) < 0)=false:=by rw[if_neg hk]; split<;>rfl
        simp only[e2,false_eq_true,if_false,aG]
        exact bis hr hd hl G lo ((lo+hi) / 2) (by omega) (by omega) (by omega) h4 (λj y hy hj=>by
          rcases lt_or_ge ((lo+hi) / 2) j with q | q
          . have:=hr.2 _ _ _ _ hx hy q; omega
          . obtain rfl:j=(lo+hi) / 2:=by omega
            rw[hx] at hy; cases hy; omega)
    . obtain rfl:lo=hi:=by omega
      refine⟨lo,h2, ?_,h4,h5⟩
      simp
def kO (l:List aB) (d:bK):Bool:=l.any λx=>decide (x.Id=d)
theorem aB0 {F:Nat} {l:List aB} {d:bK} (hF:1000<=F) (hr:u6 l) (hd:mQ d) (hl:l.length < 1000):∃p:Int,yP F l d=some (p,kO l d):=by
 unfold yP NP
 obtain⟨p,hp,e,h1,h2⟩:=bis (F:=F) hr hd hl F 0 l.length (by omega) (Nat.le_refl _) (by omega) (λj x _ hj=>by omega) (λj x hx hj=>by have:=(List.getElem?_eq_some_iff.1 hx).1; omega)
 rw[show ((0:Int),(l.length:Int))=(((0:Nat):Int),(l.length:Int)) from rfl,e]
 simp only[aG]
 refine⟨p, ?_⟩
 by_cases hlt:p < l.length
 ·have hx:l[p]? =some l[p]:=getElem?_eq_getElem hlt
  have hmem:=getElem_mem hlt
  generalize l[p]=x at hx hmem
  have gx:=hr.1 x hmem
  have e:AN F x d=some (if ky x.Id < ky d then -1 else if ky d < ky x.Id then 1 else 0):=by unfold AN; rw[NY F gx hd]; rfl
  simp only[ofNat_lt,hlt,decide_true,if_true,a8,hx,bind_some,e,aG]
  have hge:=h2 p x hx (Nat.le_refl _)
  have:kO l d=((if ky x.Id < ky d then (-1:Int) else if ky d < ky x.Id then 1 else 0)==0):=by
   rw[if_neg (by omega)]
   unfold kO
   by_cases hk:ky d < ky x.Id
   ·rw[if_pos hk]
    rw[any_eq_false.2]
    ·rfl
    intro y hy
    obtain⟨j,hj,rfl⟩:=List.getElem_of_mem hy
    have hy':l[j]? =some l[j]:=getElem?_eq_getElem hj
    simp only[decide_eq_true_eq]
    intro he
    rcases lt_or_ge j p with q | q
    ·have:=h1 j _ hy' q
     rw[he] at this; omega
    ·rcases lt_or_ge p j with q2 | q2
     ·have:=hr.2 _ _ _ _ hx hy' q2
      rw[he] at this; omega
     ·obtain rfl:j=p:=by omega
      rw[hy'] at hx; cases hx
      rw[he] at hk; omega
   ·rw[if_neg hk]
    refine any_eq_true.2 ⟨x,hmem, ?_⟩
    simp only[decide_eq_true_eq]
    exact NX gx hd (by omega)
  rw[this]
 ·have hn:¬((p:Int) < (l.length:Int)):=by omega
  simp only[hn,decide_false,false_eq_true,if_false,aG,bind_some]
  have:kO l d=false:=by
   unfold kO
   refine any_eq_false.2 λy hy=> ?_
   obtain⟨j,hj,rfl⟩:=List.getElem_of_mem hy
   have:=h1 j _ (getElem?_eq_getElem hj) (by omega)
   simp only[decide_eq_true_eq]
   intro he
   rw[he] at this; omega
  rw[this]
theorem IZ {ρ:Type} {body:Int->Option (Lp Int ρ)} {c:Nat->Bool} {n:Nat} (hb:∀i:Nat,i<=n->body (i:Int)=some (if c i then .go ((i+1:Nat):Int) else .brk (i:Int))) (hn:c n=false):∀(G k:Nat),k<=n->n - k < G->
    ∃p:Nat,p<=n/\c p=false/\aT body G (k:Int)=some (.brk (p:Int))
  | 0,_,_,h=>by omega
  | G+1,k,hk,h=>by
    unfold aT
    rw[hb k hk]
    cases hc:c k
    . exact⟨k,hk,hc,by simp⟩
    . have:k≠n:=by rintro rfl; rw[hn] at hc; cases hc
      obtain⟨p,h1,h2,h3⟩:=IZ hb hn G (k+1) (by omega) (by omega)
      exact⟨p,h1,h2,by simpa using h3⟩
theorem m6 {S ρ:Type} {body:S->Option (Lp S ρ)} {I:Nat->S->Prop} {n:Nat} (hb:∀i s,i < n->I i s->∃s',body s=some (.go s')/\I (i+1) s') (he:∀s,I n s->body s=some (.brk s)):∀(G k:Nat) (s:S),k<=n->n - k < G->I k s->
    ∃s',I n s'/\aT body G s=some (.brk s')
  | 0,_,_,_,h,_=>by omega
  | G+1,k,s,hk,h,hi=>by
    unfold aT
    by_cases e:k=n
    . subst e
      rw[he s hi]
      exact⟨s,hi,rfl⟩
    . obtain⟨s',h1,h2⟩:=hb k s (by omega) hi
      rw[h1]
      exact m6 hb he G (k+1) s' (by omega) (by omega) h2
theorem aHX {F:Nat} {l:List bK} {d:bK} (hF:1000<=F) (hl:l.length < 600) (gl:∀x∈l,mQ x) (hd:mQ d):
    ∃r,E7 F l d=some r/\(∀x,x∈r.1↔x∈l\/x=d)/\r.1.length<=l.length+1:=by
  unfold E7
  obtain⟨p,h1,h2,h3⟩:=IZ (body:=tM F l d) (n:=l.length) (c:=λi=>(l[i]?).any λx=>decide (ky x < ky d)) (λi hi=>by
    unfold tM
    rw[f0 (by omega)]
    by_cases hlt:i < l.length
    . have hx:l[i]? =some l[i]:=getElem?_eq_getElem hlt
      simp only[ofNat_lt,hlt,decide_true,if_true,a8,hx,bind_some,aBX hF (gl _ (getElem_mem hlt)) hd,aG,any_some]
      split<;>rfl
    . have hx:l[i]? =none:=List.getElem?_eq_none (by omega)
      simp[ofNat_lt,hlt,hx,aG]) (by simp) F 0 (by omega) (by omega)
  rw[show (0:Int)=((0:Nat):Int) from rfl,h3]
  simp only[aG]
  have hins:(slc l 0 (p:Int)).bind (λx84=>(app ([]:List bK) x84).bind λz86=>(app z86 ([d]:List bK)).bind λz92=>(slc l (p:Int) (l).length).bind λx98=>(app z92 x98).bind λz100=>some (z100,(p:Int),true))
      =some (l.take p++ [d]++l.drop p,(p:Int),true):=by
    unfold slc
    rw[if_pos (by omega),if_pos (by omega)]
    simp only[bind_some,Int.toNat_natCast]
    rw[bS (by simp; omega)]
    simp only[bind_some,List.nil_append]
    rw[bS (by simp; omega)]
    simp only[bind_some]
    rw[bS (by simp; omega)]
    simp
  have hmem:∀x,x∈l.take p++ [d]++l.drop p↔x∈l\/x=d:=by
    intro x
    simp only[mem_append,mem_singleton]
    rw[show (x∈l\/x=d)↔((x∈l.take p\/x∈l.drop p)\/x=d) from by rw[<- mem_append,List.take_append_drop]]
    constructor
    . rintro((h | h) | h)<;>simp[h]
    . rintro((h | h) | h)<;>simp[h]
  by_cases hlt:p < l.length
  . have hx:l[p]? =some l[p]:=getElem?_eq_getElem hlt
    simp only[ofNat_lt,hlt,decide_true,if_true,a8,hx,bind_some,aG]
    by_cases he:l[p]=d
    . refine⟨(l,(p:Int),false),by simp[he],λx=> ?_,by simp⟩
      constructor
      . exact .inl
      . rintro(h | rfl)
        . exact h
        . rw[<- he]; exact getElem_mem hlt
    . rw[if_neg (by simpa using he)]
      exact⟨_,hins,hmem,by simp; omega⟩
  . have hn:¬((p:Int) < (l.length:Int)):=by omega
    simp only[hn,decide_false,false_eq_true,if_false,aG]
    exact⟨_,hins,hmem,by simp; omega⟩
theorem HI {a b:ByteArray} (h:a.toList=b.toList):a=b:=Go.WideShapes.bytes_inj (by rwa [Go.Lib.toList_data,Go.Lib.toList_data] at h)
theorem gsn {c:aA} (h:Sm c) {s:aI} (hs:s∈c.Snaps):gI s.Seq/\∀p∈s.Man.Parts,∀d∈p.Ids,mQ d:=by
 have:=h.g.2.1 s hs
 exact⟨this.1,λp hp d hd=>(this.2.1.2 p hp).2.2 d hd⟩
theorem m63 {F:Nat} {m:bG} (hF:1000<=F) (hp:m.Parts.length<=10) (hi:∀p∈m.Parts,p.Ids.length<=40) (hg:∀p∈m.Parts,∀d∈p.Ids,mQ d):
    ∃ids,M49 F m=some ids/\(∀x,x∈ids↔∃p∈m.Parts,x∈p.Ids)/\ids.length<=400:=by
  unfold M49
  let I:Nat->List bK×Int->Prop:=λi s=>s.2=(i:Int)/\s.1.length<=40*i/\∀x,x∈s.1↔∃p∈m.Parts.take i,x∈p.Ids
  obtain⟨s,⟨h1,h2,h3⟩,h4⟩:=m6 (body:=λs:List bK×Int=>vU F m s.1 s.2) (I:=I) (n:=m.Parts.length) (λi s hi' hI=>by
      obtain⟨l,q⟩:=s
      obtain⟨rfl,hl,hm⟩:=hI
      simp only at hl hm
      have hx:m.Parts[i]? =some m.Parts[i]:=getElem?_eq_getElem hi'
      have hmem:=getElem_mem hi'
      have htk:m.Parts.take (i+1)=m.Parts.take i++ [m.Parts[i]]:=by simp
      generalize m.Parts[i]=p at hx hmem htk
      have hpi:=hi p hmem
      have hgp:=hg p hmem
      have hgl:∀x∈l,mQ x:=λx hx=>by
        obtain⟨p',hp',hx'⟩:=(hm x).1 hx
        exact hg p' (List.mem_of_mem_take hp') x hx'
      let J:Nat->List bK×Int->Prop:=λk s=>s.2=(k:Int)/\s.1.length<=40*i+k/\∀x,x∈s.1↔(x∈l\/x∈p.Ids.take k)
      obtain⟨t,⟨j1,j2,j3⟩,j4⟩:=m6 (ρ:=Lp (List bK×Int) (List bK)) (body:=λs:List bK×Int=>vT F m (i:Int) s.1 s.2) (I:=J) (n:=p.Ids.length) (λk s hk hJ=>by
          obtain⟨u,q⟩:=s
          obtain⟨rfl,hu,hv⟩:=hJ
          simp only at hu hv
          have hd:p.Ids[k]? =some p.Ids[k]:=getElem?_eq_getElem hk
          have hdm:=getElem_mem hk
          have hdk:p.Ids.take (k+1)=p.Ids.take k++ [p.Ids[k]]:=by simp
          generalize p.Ids[k]=d at hd hdm hdk
          obtain⟨r,r1,r2,r3⟩:=aHX (F:=F) (l:=u) (d:=d) hF (by omega) (λx hx=>by
            rcases(hv x).1 hx with q | q
            . exact hgl x q
            . exact hgp x (List.mem_of_mem_take q)) (hgp d hdm)
          refine⟨(r.1,((k+1:Nat):Int)), ?_,rfl,by simp only; omega,λx=> ?_⟩
          . unfold vT
            rw[f0 (by omega)]
            simp only[a8,hx,bind_some,ofNat_lt,hk,decide_true,if_true,hd,r1]
          . simp only[r2,hv,hdk,mem_append,mem_singleton,or_assoc]) (λs hs=>by
          obtain⟨u,q⟩:=s
          obtain⟨rfl, -, -⟩:=hs
          unfold vT
          simp[a8,hx]) F 0 (l,0) (by omega) (by omega) ⟨rfl,by simp only; omega,by simp⟩
      refine⟨(t.1,((i+1:Nat):Int)), ?_,rfl,by simp only; omega,λx=> ?_⟩
      . unfold vU
        rw[f0 (by omega)]
        simp only[ofNat_lt,hi',decide_true,if_true,j4,aG]
      . simp only[j3,hm,htk,List.take_length,mem_append,mem_singleton]
        constructor
        . rintro(⟨p',hp',hx'⟩ | hx')
          . exact⟨p',.inl hp',hx'⟩
          . exact⟨p,.inr rfl,hx'⟩
        . rintro⟨p',hp' | rfl,hx'⟩
          . exact .inl ⟨p',hp',hx'⟩
          . exact .inr hx') (λs hs=>by
      obtain⟨u,q⟩:=s
      obtain⟨rfl, -, -⟩:=hs
      unfold vU
      simp) F 0 ([],0) (by omega) (by omega) ⟨rfl,by simp,by simp⟩
  rw[h4]
  exact⟨s.1,by simp only[aG],by simpa using h3,by omega⟩
theorem m64 {F:Nat} {c:aA} {d:bK} (hF:1000<=F) (hl:c.Chunks.length < 1000):∃n:Int,LZ F c d=some n/\(decide (n < 0))= !kO c.Chunks d:=by
 have:=p8 (l:=c.Chunks) (λx=>decide (x.Id=d)) (F:=F) (body:=oY F c d) (by omega) (λi hi=>by
  unfold oY
  have hx:c.Chunks[i]? =some c.Chunks[i]:=getElem?_eq_getElem hi
  rw[f0 (by omega)]
  simp only[a8,hx,bind_some,ofNat_lt,hi,decide_true,if_true,any_some]
  split<;>rfl) (by unfold oY; simp)
 rw[show (after (aT (oY F c d) F 0) λ_=>some (-1))=LZ F c d from rfl] at this
 obtain⟨n,h1,h2⟩:=Option.bind_eq_some_iff.1 this
 refine⟨n,h1, ?_⟩
 have h3:=Option.some.inj h2
 unfold kO
 rw[<- h3,<- decide_not]
 congr 1
 simp
theorem m50 {F:Nat} {c:aA} {i:Nat} {s:aI} (hF:1000<=F) (hl:c.Snaps.length < 1000) (hs:c.Snaps[i]? =some s):
    ∃n:Int,yT F c s.Man.Name=some n/\(n !=(i:Int))=(c.Snaps.take i).any λy=>s.Man.Name==y.Man.Name:=by
  have hi:i < c.Snaps.length:=(List.getElem?_eq_some_iff.1 hs).1
  have hsi:c.Snaps[i]=s:=by have:=getElem?_eq_getElem hi; rw[hs] at this; exact(Option.some.inj this).symm
  unfold yT
  rw[fB (s0:=(0:Int)) (n:=c.Snaps.length) (F:=F) (λi:Nat=>(i:Int)) (λi=>(c.Snaps[i]?).any λy=>y.Man.Name.toList==s.Man.Name.toList) (λi=>(i:Int)) (by omega) rfl]
  . unfold LF
    have hp:((c.Snaps[i]?).any λy=>y.Man.Name.toList==s.Man.Name.toList)=true:=by rw[hs]; simp
    cases h:(range c.Snaps.length).find? λi=>(c.Snaps[i]?).any λy=>y.Man.Name.toList==s.Man.Name.toList with
    | none=>
      have:=List.find?_eq_none.1 h i (mem_range.2 hi)
      exact absurd hp this
    | some k=>
      refine⟨(k:Int),rfl, ?_⟩
      obtain⟨hk1,hk2,hk3⟩:=List.find?_range_eq_some.1 h
      rw[Bool.eq_iff_iff]
      simp only[bne_iff_ne,ne_eq,any_eq_true]
      have hkl:k < c.Snaps.length:=mem_range.1 hk2
      rw[getElem?_eq_getElem hkl] at hk1
      simp only[any_some,beq_iff_eq] at hk1
      constructor
      . intro hne
        have hki:k < i:=by
          rcases lt_or_ge k i with q | q
          . exact q
          . have:=hk3 i (by omega)
            rw[hp] at this; cases this
        refine⟨c.Snaps[k], ?_, ?_⟩
        . rw[List.mem_take_iff_getElem]
          exact⟨k,by omega,rfl⟩
        . exact(lL _ _).2 (HI hk1.symm)
      . rintro⟨y,hy,he⟩ hc
        rw[List.mem_take_iff_getElem] at hy
        obtain⟨j,hj,rfl⟩:=hy
        have:=hk3 j (by omega)
        rw[getElem?_eq_getElem (by omega)] at this
        rw[(lL _ _).1 he] at this
        simp at this
  . intro j hj _
    unfold oZ
    have hx:c.Snaps[j]? =some c.Snaps[j]:=getElem?_eq_getElem hj
    rw[f0 (by omega)]
    simp only[a8,hx,bind_some,ofNat_lt,hj,decide_true,if_true,any_some]
    split<;>rfl
  . intro _; unfold oZ; simp
def KS (c:aA) (m:bG):Bool:=m.Parts.all λp=>p.Ids.all λd=>kO c.Chunks d
def D3 (c:aA) (i:Nat):Bool:=match c.Snaps[i]? with
 | none=>true
 | some s=>fI s.Seq 0 (c.Seq - 1) && (i==0 || (match c.Snaps[i - 1]? with | none=>true | some y=>decide (y.Seq < s.Seq))) && !((c.Snaps.take i).any λy=>s.Man.Name==y.Man.Name) && vY s.Man && iM c s.Locs
def GI (c:aA) (i:Nat):Bool:=match c.Snaps[i]? with
 | none=>true
 | some s=>KS c s.Man
def UO (c:aA) (i:Nat):Bool:=match c.Snaps[i]? with
 | none=>true
 | some s=> !c.Exps.any λx=>x.Of==s.Seq
def UP (c:aA) (i:Nat):List ByteArray:=(c.Snaps.take i).foldl (λl s=>mL l s.Man.Name) []
theorem SA (c:aA) (x:ByteArray):∀i,((UP c i).any λz=>x==z)=(c.Snaps.take i).any λy=>x==y.Man.Name:=by
 have:∀(l:List aI) (acc:List ByteArray),((l.foldl (λl s=>mL l s.Man.Name) acc).any λz=>x==z)=((acc.any λz=>x==z) || l.any λy=>x==y.Man.Name):=by
  intro l
  induction l with
  | nil=>simp
  | cons s l ih=>
   intro acc
   rw[List.foldl_cons,ih,List.any_cons,<- Bool.or_assoc]
   congr 1
   unfold mL
   split
   ·rename_i h
    rw[Bool.eq_iff_iff]
    simp only[Bool.or_eq_true,any_eq_true] at h ⊢
    constructor
    ·exact .inl
    ·rintro(q | q)
     ·exact q
     ·obtain⟨y,hy,he⟩:=h
      rw[(lL _ _).1 q,(lL _ _).1 he]
      exact⟨y,hy,(lL _ _).2 rfl⟩
   ·simp
 intro i
 rw[UP,this]
 simp
theorem WR {F:Nat} {c:aA} {s:aI} (hF:1000<=F) (h:Sm c) (hr:u6 c.Chunks) (hs:s∈c.Snaps):
    aT (λq=>vR F c s q) F 0=some (if !KS c s.Man then .ret (.ret false) else .brk (s.Man.Parts.length:Int)):=by
  obtain⟨-,h2,h3⟩:=h.man s hs
  have hg:=(gsn h hs).2
  have hc:=h.ch
  rw[fB (s0:=(0:Int)) (n:=s.Man.Parts.length) (F:=F) (λi:Nat=>(i:Int)) (λi=>(s.Man.Parts[i]?).any λp=> !p.Ids.all λd=>kO c.Chunks d) (λ_=>.ret false) (by omega) rfl,iV,i6,tQ]
  . rfl
  . intro i hi _
    unfold vR
    have hx:s.Man.Parts[i]? =some s.Man.Parts[i]:=getElem?_eq_getElem hi
    have hm:=getElem_mem hi
    generalize s.Man.Parts[i]=p at hx hm
    have h4:=(h3 p hm).2
    rw[f0 (by omega)]
    simp only[a8,hx,bind_some,ofNat_lt,hi,decide_true,if_true,any_some]
    rw[fB (s0:=(0:Int)) (n:=p.Ids.length) (F:=F) (λi:Nat=>(i:Int)) (λi=>(p.Ids[i]?).any λd=> !kO c.Chunks d) (λ_=>.ret (.ret false)) (by omega) rfl,iV,i6,tQ]
    . cases p.Ids.all λd=>kO c.Chunks d<;>simp[after]
    . intro k hk _
      unfold yQ
      have hd:p.Ids[k]? =some p.Ids[k]:=getElem?_eq_getElem hk
      have hdm:=getElem_mem hk
      generalize p.Ids[k]=d at hd hdm
      obtain⟨z,hz⟩:=aB0 (F:=F) (l:=c.Chunks) (d:=d) hF hr (hg p hm d hdm) (by omega)
      rw[f0 (by omega)]
      simp only[a8,hd,bind_some,ofNat_lt,hk,decide_true,if_true,any_some,hz]
      split<;>rfl
    . intro _; unfold yQ; simp
  . intro _; unfold vR; simp
theorem N2 {c:aA} {i:Nat} {s:aI} (hx:c.Snaps[i]? =some s):UP c (i+1)=mL (UP c i) s.Man.Name:=by
 unfold UP
 have hi:=(List.getElem?_eq_some_iff.1 hx)
 obtain⟨hi,rfl⟩:=hi
 rw[List.take_succ_eq_append_getElem hi,List.foldl_append]
 rfl
theorem WS {F:Nat} {c:aA} (hF:1000<=F) (h:Sm c) (hr:u6 c.Chunks) (hq:fI c.Seq 0 1073741824=true) {i:Nat} (hi:i < c.Snaps.length):
    vS F c (UP c i) i=some (if !(D3 c i && GI c i) then .ret false else .go (UP c (i+1),((i+1:Nat):Int))):=by
  have hv:=h.vo
  have hsn:=h.sn
  have hq':0<=c.Seq/\c.Seq<=1073741824:=by simpa [fI] using hq
  unfold vS D3 GI
  have hx:c.Snaps[i]? =some c.Snaps[i]:=getElem?_eq_getElem hi
  have hm:=getElem_mem hi
  generalize c.Snaps[i]=x at hx hm
  rw[f0 (by omega),wr (n:=c.Seq - 1) (by omega) (by omega),N2 hx]
  simp only[a8,hx,UM,m73 hF,WK hF (show c.Vols.length < 1000 by omega),bind_some,cS,aG,cK,dH,ofNat_lt,hi,decide_true,if_true,SA,WR hF h hr hm]
  generalize ((c.Snaps.take i).any λy=>x.Man.Name==y.Man.Name)=nb
  generalize iM c x.Locs=lb
  generalize KS c x.Man=pb
  have e1:((if vY x.Man=true then (0:Int) else 1) !=0)= !vY x.Man:=by cases vY x.Man<;>rfl
  rw[e1]
  generalize vY x.Man=mb
  generalize fI x.Seq 0 (c.Seq - 1)=ib
  by_cases h0:i=0
  . subst h0
    cases nb<;>cases lb<;>cases pb<;>cases mb<;>cases ib<;>simp[aG,cK]
  . have h5:c.Snaps[i - 1]? =some c.Snaps[i - 1]:=getElem?_eq_getElem (by omega)
    generalize c.Snaps[i - 1]=y at h5
    rw[yR (by omega) (by omega)]
    have h7:(0:Int) < i:=by omega
    have h8:(i==0)=false:=by simpa using h0
    have e4:decide (x.Seq<=y.Seq)= !decide (y.Seq < x.Seq):=by rw[<- decide_not]; congr 1; simp
    simp only[a8,h5,h7,h8,e4,bind_some,decide_true,if_true,Bool.false_or]
    generalize decide (y.Seq < x.Seq)=od
    cases nb<;>cases lb<;>cases pb<;>cases mb<;>cases ib<;>cases od<;>simp[aG,cK]
def C2 (c:aA):Bool:= !(range c.Snaps.length).any λi=> !(D3 c i && GI c i)
theorem m71 {F:Nat} {c:aA} (hF:1000<=F) (h:Sm c) (hr:u6 c.Chunks) (hq:fI c.Seq 0 1073741824=true):M80 F c=some (C2 c && decide (c.Snaps.length<=8)):=by
 have hc:=h.sn
 unfold M80 C2
 rw[fB (s0:=(([]:List ByteArray),(0:Int))) (n:=c.Snaps.length) (F:=F) (λi:Nat=>(UP c i,(i:Int))) (λi=> !(D3 c i && GI c i)) (λ_=>false) (by omega) rfl,iV]
 ·cases (range c.Snaps.length).any λi=> !(D3 c i && GI c i)<;>simp[after]; omega
 ·exact λi hi _=>WS hF h hr hq hi
 ·intro _; unfold vS; simp
theorem WT {F:Nat} {c:aA} (hF:1000<=F) (h:Sm c) {i:Nat} (hi:i < c.Snaps.length):
    rT F c i=some (if !(D3 c i && GI c i && UO c i) then .ret false else .go ((i+1:Nat):Int)):=by
  have hv:=h.vo
  have hsn:=h.sn
  have hch:=h.ch
  have hex:=h.ex
  unfold rT D3 GI UO fI
  have hx:c.Snaps[i]? =some c.Snaps[i]:=getElem?_eq_getElem hi
  have hm:=getElem_mem hi
  generalize c.Snaps[i]=x at hx hm
  obtain⟨k1,k2,k3⟩:=h.man x hm
  obtain⟨ids,i1,i2,i3⟩:=m63 (F:=F) (m:=x.Man) hF k2 (λp hp=>(k3 p hp).2) (gsn h hm).2
  obtain⟨n,n1,n2⟩:=m50 (F:=F) hF (by omega) hx
  rw[f0 (by omega)]
  have l7:aT (λs=>vV F c ids s) F 0=some (if !KS c x.Man then .ret (.ret false) else .brk (ids.length:Int)):=by
    rw[fB (s0:=(0:Int)) (n:=ids.length) (F:=F) (λi:Nat=>(i:Int)) (λi=>(ids[i]?).any λd=> !kO c.Chunks d) (λ_=>.ret false) (by omega) rfl,iV,i6,tQ]
    . have:KS c x.Man=ids.all λd=>kO c.Chunks d:=by
        rw[Bool.eq_iff_iff]
        simp only[KS,List.all_eq_true]
        constructor
        . intro q d hd
          obtain⟨p,hp,hd'⟩:=(i2 d).1 hd
          exact q p hp d hd'
        . intro q p hp d hd
          exact q d ((i2 d).2 ⟨p,hp,hd⟩)
      rw[this]
    . intro k hk _
      unfold vV
      have hd:ids[k]? =some ids[k]:=getElem?_eq_getElem hk
      generalize ids[k]=d at hd
      obtain⟨z,hz,hz2⟩:=m64 (F:=F) (c:=c) (d:=d) hF (by omega)
      rw[f0 (by omega)]
      simp only[a8,hd,bind_some,ofNat_lt,hk,decide_true,if_true,any_some,hz,hz2]
      split<;>rfl
    . intro _; unfold vV; simp
  have l9:aT (λs=>vW F c x s) F 0=some (if c.Exps.any λy=>y.Of==x.Seq then .ret (.ret false) else .brk (c.Exps.length:Int)):=by
    rw[fB (s0:=(0:Int)) (n:=c.Exps.length) (F:=F) (λi:Nat=>(i:Int)) (λi=>(c.Exps[i]?).any λy=>y.Of==x.Seq) (λ_=>.ret false) (by omega) rfl,iV,i6]
    . intro k hk _
      unfold vW
      have hd:c.Exps[k]? =some c.Exps[k]:=getElem?_eq_getElem hk
      rw[f0 (by omega)]
      simp only[a8,hd,bind_some,ofNat_lt,hk,decide_true,if_true,any_some]
      split<;>rfl
    . intro _; unfold vW; simp
  simp only[a8,hx,m62 hF k1 (λp hp=>(k3 p hp).1),m61 hF (show c.Vols.length < 1000 by omega),n1,n2,i1,l7,l9,bind_some,cS,aG,cK,dH,ofNat_lt,hi,decide_true,if_true]
  generalize ((c.Snaps.take i).any λy=>x.Man.Name==y.Man.Name)=nb
  generalize iM c x.Locs=lb
  generalize KS c x.Man=pb
  generalize (c.Exps.any λy=>y.Of==x.Seq)=xb
  generalize vY x.Man=mb
  have e1:decide (x.Seq < 0)= !decide (0<=x.Seq):=by rw[<- decide_not]; congr 1; simp
  have e2:decide (c.Seq<=x.Seq)= !decide (x.Seq<=c.Seq - 1):=by rw[<- decide_not]; congr 1; simp; omega
  rw[e1,e2]
  generalize decide (0<=x.Seq)=d1
  generalize decide (x.Seq<=c.Seq - 1)=d2
  by_cases h0:i=0
  . subst h0
    cases nb<;>cases lb<;>cases pb<;>cases mb<;>cases d1<;>cases d2<;>cases xb<;>simp[aG,cK]
  . have h5:c.Snaps[i - 1]? =some c.Snaps[i - 1]:=getElem?_eq_getElem (by omega)
    generalize c.Snaps[i - 1]=y at h5
    rw[yR (by omega) (by omega)]
    have h7:(0:Int) < i:=by omega
    have h8:(i==0)=false:=by simpa using h0
    have e4:decide (x.Seq<=y.Seq)= !decide (y.Seq < x.Seq):=by rw[<- decide_not]; congr 1; simp
    simp only[a8,h5,h7,h8,e4,bind_some,decide_true,if_true,Bool.false_or]
    generalize decide (y.Seq < x.Seq)=od
    cases nb<;>cases lb<;>cases pb<;>cases mb<;>cases d1<;>cases d2<;>cases xb<;>cases od<;>simp[aG,cK]
def f8 (c:aA):Bool:=fI c.Seq 0 1073741824 && (c.Vols.all mD && fI c.Vols.length 1 8) && (vX c && decide (c.Chunks.length<=200)) && (C2 c && decide (c.Snaps.length<=8)) && (AQ c && decide (c.Exps.length<=200))
theorem m33 {F:Nat} {c:aA} (hF:1000<=F) (h:Sm c):QY F c=some (if f8 c then 0 else 1):=by
 have hv:=h.vo
 unfold QY f8
 simp only[UM,m69 hF hv,m70 hF h,bind_some,cS,aG,dH]
 cases hq:fI c.Seq 0 1073741824
 ·simp
 ·cases hv':(c.Vols.all mD && fI c.Vols.length 1 8)
  ·simp
  ·cases hc:vX c
   ·simp
   ·have hr:=WQ h hc
    simp only[m71 hF h hr hq,m72 hF h hq,bind_some,dH,cS,aG]
    generalize decide (c.Chunks.length<=200)=a
    generalize (C2 c && decide (c.Snaps.length<=8))=b
    generalize (AQ c && decide (c.Exps.length<=200))=d
    cases a<;>cases b<;>cases d<;>simp
theorem tT {n:Nat} (p q:Nat->Bool):((range n).any λi=> !(p i && q i))=(((range n).any λi=> !p i) || (range n).any λi=> !q i):=by
 rw[Bool.eq_iff_iff]
 simp only[Bool.or_eq_true,any_eq_true,Bool.not_eq_true',Bool.and_eq_false_iff]
 constructor
 ·rintro⟨i,hi,q | q⟩
  ·exact .inl ⟨i,hi,q⟩
  ·exact .inr ⟨i,hi,q⟩
 ·rintro(⟨i,hi,q⟩ | ⟨i,hi,q⟩)
  ·exact⟨i,hi,.inl q⟩
  ·exact⟨i,hi,.inr q⟩
theorem aB2 (c:aA):((range c.Snaps.length).any λi=> !UO c i)=(range c.Exps.length).any λi=> !KR c i:=by
 have h1:((range c.Snaps.length).any λi=> !UO c i)=c.Snaps.any λs=>c.Exps.any λx=>x.Of==s.Seq:=by
  refine Eq.trans ?_ (i6 c.Snaps _)
  congr 1
  funext i
  unfold UO
  cases c.Snaps[i]?<;>simp
 have h2:((range c.Exps.length).any λi=> !KR c i)=c.Exps.any λx=>c.Snaps.any λs=>s.Seq==x.Of:=by
  refine Eq.trans ?_ (i6 c.Exps _)
  congr 1
  funext i
  unfold KR
  cases c.Exps[i]?<;>simp
 rw[h1,h2,Bool.eq_iff_iff]
 simp only[any_eq_true,beq_iff_eq]
 constructor
 ·rintro⟨s,hs,x,hx,e⟩; exact⟨x,hx,s,hs,e.symm⟩
 ·rintro⟨x,hx,s,hs,e⟩; exact⟨s,hs,x,hx,e.symm⟩
theorem m19 {F:Nat} {c:aA} (hF:1000<=F) (h:Sm c):WE F c=some (f8 c):=by
 have hv:=h.vo
 have hsn:=h.sn
 have hch:=h.ch
 have hex:=h.ex
 have l0:aT (λs=>rR F c s) F 0=some (if !c.Vols.all mD then .ret false else .brk (c.Vols.length:Int)):=by
  rw[fB (s0:=(0:Int)) (n:=c.Vols.length) (F:=F) (λi:Nat=>(i:Int)) (λi=>(c.Vols[i]?).any λv=> !mD v) (λ_=>false) (by omega) rfl,iV,i6,tQ]
  ·exact λi hi _=>WM hF h hi
  ·intro _; unfold rR; simp
 have l3:aT (λs=>rS F c s) F 0=some (if !vX c then .ret false else .brk (c.Chunks.length:Int)):=by
  rw[fB (s0:=(0:Int)) (n:=c.Chunks.length) (F:=F) (λi:Nat=>(i:Int)) (λi=> !IY c i) (λ_=>false) (by omega) rfl,iV]
  ·unfold vX; rw[Bool.not_not]
  ·exact λi hi _=>WL hF h hi
  ·intro _; unfold rS; simp
 have l5:aT (λs=>rT F c s) F 0=some (if (range c.Snaps.length).any λi=> !(D3 c i && GI c i && UO c i) then .ret false else .brk (c.Snaps.length:Int)):=by
  rw[fB (s0:=(0:Int)) (n:=c.Snaps.length) (F:=F) (λi:Nat=>(i:Int)) (λi=> !(D3 c i && GI c i && UO c i)) (λ_=>false) (by omega) rfl,iV]
  ·exact λi hi _=>WT hF h hi
  ·intro _; unfold rT; simp
 have l11:aT (λs=>o0 F c s) F 0=some (if (range c.Exps.length).any λi=> !z7 c i then .ret false else .brk (c.Exps.length:Int)):=by
  rw[fB (s0:=(0:Int)) (n:=c.Exps.length) (F:=F) (λi:Nat=>(i:Int)) (λi=> !z7 c i) (λ_=>false) (by omega) rfl,iV]
  ·exact λi hi _=>R9 hF h hi
  ·intro _; unfold o0; simp
 have hs:C2 c= !(range c.Snaps.length).any λi=> !(D3 c i && GI c i):=rfl
 have he:AQ c= !(((range c.Exps.length).any λi=> !z7 c i) || (range c.Exps.length).any λi=> !KR c i):=by unfold AQ; rw[tT]
 unfold WE f8
 rw[tT (λi=>D3 c i && GI c i) (UO c),aB2] at l5
 simp only[m59,l0,l3,l5,l11,hs,he,bind_some,cS,aG,dH]
 generalize ((range c.Snaps.length).any λi=> !(D3 c i && GI c i))=a1
 generalize ((range c.Exps.length).any λi=> !z7 c i)=a2
 generalize ((range c.Exps.length).any λi=> !KR c i)=a3
 generalize c.Vols.all mD=a4
 generalize vX c=a5
 generalize fI c.Seq 0 1073741824=a6
 generalize fI c.Vols.length 1 8=a7
 have f1:decide (8 < (c.Snaps.length:Int))= !decide (c.Snaps.length<=8):=by rw[<- decide_not]; congr 1; simp; omega
 have f2:decide (200 < (c.Chunks.length:Int))= !decide (c.Chunks.length<=200):=by rw[<- decide_not]; congr 1; simp; omega
 have f3:decide (200 < (c.Exps.length:Int))= !decide (c.Exps.length<=200):=by rw[<- decide_not]; congr 1; simp; omega
 rw[f1,f2,f3]
 generalize decide (c.Snaps.length<=8)=b1
 generalize decide (c.Chunks.length<=200)=b2
 generalize decide (c.Exps.length<=200)=b3
 cases a6<;>cases b1<;>cases b2<;>cases b3<;>cases a7<;>cases a4<;>cases a5<;>cases a1<;>cases a2<;>cases a3<;>rfl
end Go.Proofs.YtbbifdfldpfphaaGreat
