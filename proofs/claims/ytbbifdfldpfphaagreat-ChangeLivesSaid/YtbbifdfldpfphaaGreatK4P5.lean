import Derived.Test.YtbbifdfldpfphaaGreatK4P3
import Derived.Test.YtbbifdfldpfphaaGreatK4P4
set_option linter.unusedSimpArgs false
set_option linter.unusedVariables false
set_option maxHeartbeats 4000000
set_option maxRecDepth 100000
namespace Go.Proofs.YtbbifdfldpfphaaGreat
open Go.Vm
def QJ (m:Nat) (p0:bG) (p1:bG):Option (Bool):=
 after (if (p0.Vol==p1.Vol)=true then (if (p0.File==p1.File)=true then (if (p0.Off==p1.Off)=true then (some (.brk (p0.Len==p1.Len))) else some (.brk false)) else some (.brk false)) else some (.brk false):Option (Lp (Bool) (Bool))) λj0=>some j0
theorem aES {u:Nat} {p0:bG} {p1:bG} {o:Bool} (h:aF) (m:QJ u p0 p1=some o):
 aL Tryz.prog 102 [.agg (aO p0),.agg (aO p1)] h (λr h'=>r= .sc (.bool o)∧h'=h):=by
 refine fQ 31 [.tmp 4] Tryz.func102 rfl rfl rfl rfl ?_
 unfold QJ at m
 refine v (gO rfl rfl λk2 K3=>gO rfl rfl λk5 K6=>vs (fL m (σ:=Bool) (λs=> [(some k5,.obj 81 (aO p1)),(some k2,.obj 81 (aO p0))]) (λs=>.c 4 (.sc (.bool s)) .nil) (λx m=> ?_) ?_))
 refine v (vl 1 _ bZ rfl rfl rfl (vl 0 _ bZ rfl rfl rfl ?_))
 apply vi m <;> intro b0 m
 rw[b0]
 refine vl 1 _ bZ rfl rfl rfl (vl 0 _ bZ rfl rfl rfl ?_)
 apply vi m <;> intro b1 m
 rw[b1]
 refine vl 1 _ bZ rfl rfl rfl (vl 0 _ bZ rfl rfl rfl ?_)
 apply vi m <;> intro b2 m
 rw[b2]
 exact vl 1 _ bZ rfl rfl rfl (vl 0 _ bZ rfl rfl rfl (iZ m))
 rw[b2]
 exact iZ m
 rw[b1]
 exact iZ m
 rw[b0]
 exact iZ m
 rintro _ j0 m
 refine v ?_
 obtain rfl:=eE m
 exact dU rfl
theorem YN:aN Tryz.prog 102=true:=by kernel_rfl
def yN (m:Nat) (p0:List bG) (p1:List bG) (q0:Int):Option (Lp (Int) (Bool)):=
 if (decide (q0 < (p0.length:Int)))=true then ((ix p0 q0).bind λx0=>(ix p1 q0).bind λx1=>(QJ m x0 x1).bind λy0=>if (!y0)=true then (some (.ret false)) else some (.go (IntKind.wrap .i64 (q0+1)))) else some (.brk q0)
def UH (m:Nat) (p0:List bG) (p1:List bG):Option (Bool):=
 if ((p0.length:Int) !=(p1.length:Int))=true then (some false) else after (aT (λs=>yN m p0 p1 s) m 0) λr0=>some true
theorem W84 {u:Nat} {p0:List bG} {p1:List bG} {o:Bool} (h:aF) (m:UH u p0 p1=some o):
 aL Tryz.prog 84 [.sl none 4 (List.map aO p0),.sl none 4 (List.map aO p1)] h (λr h'=>r= .sc (.bool o)∧h'=h):=by
 refine fQ 27 [.tmp 4] Tryz.func84 rfl rfl rfl rfl ?_
 unfold UH at m
 refine v (v (dE i9 rfl (dE i9 rfl (v ?_))))
 apply vi m <;> intro c4 m
 refine v (v ?_)
 obtain rfl:=eE m
 exact dU rfl
 refine v (v (jN m (σ:=Int) (λs=> []) (λs=>.c 0 (.sl none 4 (List.map aO p0)) (.c 1 (.sl none 4 (List.map aO p1)) (.c 5 (nZ s) .nil))) (lx (.k3 .nil)) ?_ ?_))
 rintro _ q0 x m
 replace m:yN u p0 p1 q0=some x:=m
 unfold yN at m
 refine v (dE i9 rfl (v ?_))
 apply vi m <;> intro c0 m
 refine v (v (v (vq (by kernel_rfl) (vx m jU rfl rfl λx0 _ m=>va (.agg (aO x0)) m8 rfl rfl (vx m jU rfl rfl λx1 _ m=>va (.agg (aO x1)) m8 rfl rfl (vk aES YN m rfl rfl λ_ m=>v ?_))))))
 apply vi m <;> intro c1 m
 refine v (v (fZ m λm=> ?_))
 obtain rfl:=eE m
 exact dU rfl
 exact v (v (gK m))
 exact v (z9 m)
 rintro _ r0 m
 refine v (v ?_)
 obtain rfl:=eE m
 exact dU rfl
theorem QL:aN Tryz.prog 84=true:=by kernel_rfl
def yO (m:Nat) (p0:List Int) (p1:List Int) (q0:Int):Option (Lp (Int) (Bool)):=
 if (decide (q0 < (p0.length:Int)))=true then ((ix p0 q0).bind λx0=>(ix p1 q0).bind λx1=>if (x0 !=x1)=true then (some (.ret false)) else some (.go (IntKind.wrap .i64 (q0+1)))) else some (.brk q0)
def YO (m:Nat) (p0:List Int) (p1:List Int):Option (Bool):=
 if ((p0.length:Int) !=(p1.length:Int))=true then (some false) else after (aT (λs=>yO m p0 p1 s) m 0) λr0=>some true
theorem W44 {u:Nat} {p0:List Int} {p1:List Int} {o:Bool} (h:aF) (m:YO u p0 p1=some o):
 aL Tryz.prog 44 [.sl none 1 (List.map dF p0),.sl none 1 (List.map dF p1)] h (λr h'=>r= .sc (.bool o)∧h'=h):=by
 refine fQ 26 [.tmp 4] Tryz.func44 rfl rfl rfl rfl ?_
 unfold YO at m
 refine v (v (dE kU rfl (dE kU rfl (v ?_))))
 apply vi m <;> intro c4 m
 refine v (v ?_)
 obtain rfl:=eE m
 exact dU rfl
 refine v (v (jN m (σ:=Int) (λs=> []) (λs=>.c 0 (.sl none 1 (List.map dF p0)) (.c 1 (.sl none 1 (List.map dF p1)) (.c 5 (nZ s) .nil))) (lx (.k3 .nil)) ?_ ?_))
 rintro _ q0 x m
 replace m:yO u p0 p1 q0=some x:=m
 unfold yO at m
 refine v (dE kU rfl (v ?_))
 apply vi m <;> intro c0 m
 refine v (v (v (vq (by kernel_rfl) (vx m GY rfl rfl λ_ _ m=>vx m GY rfl rfl λ_ _ m=>v ?_))))
 apply vi m <;> intro c1 m
 refine v (v (fZ m λm=> ?_))
 obtain rfl:=eE m
 exact dU rfl
 exact v (v (gK m))
 exact v (z9 m)
 rintro _ r0 m
 refine v (v ?_)
 obtain rfl:=eE m
 exact dU rfl
theorem aET:aN Tryz.prog 44=true:=by kernel_rfl
def M43 (m:Nat) (p0:aB) (p1:aB):Option (Bool):=
 after (if (decide (p0.Id=p1.Id))=true then (if (p0.Staged==p1.Staged)=true then ((YO m p0.Data p1.Data).bind λy0=>if y0=true then ((UH m p0.Locs p1.Locs).bind λy1=>some (.brk y1)) else some (.brk false)) else some (.brk false)) else some (.brk false):Option (Lp (Bool) (Bool))) λj0=>some j0
theorem W43 {u:Nat} {p0:aB} {p1:aB} {o:Bool} (h:aF) (m:M43 u p0 p1=some o):
 aL Tryz.prog 43 [.agg (aJ p0),.agg (aJ p1)] h (λr h'=>r= .sc (.bool o)∧h'=h):=by
 refine fQ 31 [.tmp 4] Tryz.func43 rfl rfl rfl rfl ?_
 unfold M43 at m
 refine v (gO rfl rfl λk2 K3=>gO rfl rfl λk5 K6=>vs (fL m (σ:=Bool) (λs=> [(some k5,.obj 44 (aJ p1)),(some k2,.obj 44 (aJ p0))]) (λs=>.c 4 (.sc (.bool s)) .nil) (λx m=> ?_) ?_))
 refine v (vl 1 (.agg (bL p0.Id)) fR rfl rfl rfl (vl 0 (.agg (bL p1.Id)) fR rfl rfl rfl (bW (vS CP P3 u5 D0 rfl rfl) ?_)))
 apply vi m <;> intro b0 m
 rw[b0]
 refine vl 1 _ CN rfl rfl rfl (vl 0 _ CN rfl rfl rfl (bW (PI u4 rfl rfl rfl) ?_))
 apply vi m <;> intro b1 m
 rw[b1]
 refine vl 1 _ lR rfl rfl rfl (vl 0 _ lR rfl rfl rfl (vk W44 aET m rfl rfl λ_ m=> ?_))
 apply vi m <;> intro b2 m
 rw[b2]
 exact vl 1 _ eZ rfl rfl rfl (vl 0 _ eZ rfl rfl rfl (vk W84 QL m rfl rfl λ_ m=>iZ m))
 rw[b2]
 exact iZ m
 rw[b1]
 exact iZ m
 rw[b0]
 exact iZ m
 rintro _ j0 m
 refine v ?_
 obtain rfl:=eE m
 exact dU rfl
theorem aEU:aN Tryz.prog 43=true:=by kernel_rfl
def yP (m:Nat) (p0:List aB) (p1:List aB) (q0:Int):Option (Lp (Int) (Bool)):=
 if (decide (q0 < (p0.length:Int)))=true then ((ix p0 q0).bind λx0=>(ix p1 q0).bind λx1=>(M43 m x0 x1).bind λy0=>if (!y0)=true then (some (.ret false)) else some (.go (IntKind.wrap .i64 (q0+1)))) else some (.brk q0)
def YP (m:Nat) (p0:List aB) (p1:List aB):Option (Bool):=
 if ((p0.length:Int) !=(p1.length:Int))=true then (some false) else after (aT (λs=>yP m p0 p1 s) m 0) λr0=>some true
theorem W47 {u:Nat} {p0:List aB} {p1:List aB} {o:Bool} (h:aF) (m:YP u p0 p1=some o):
 aL Tryz.prog 47 [.sl none 35 (List.map aJ p0),.sl none 35 (List.map aJ p1)] h (λr h'=>r= .sc (.bool o)∧h'=h):=by
 refine fQ 27 [.tmp 4] Tryz.func47 rfl rfl rfl rfl ?_
 unfold YP at m
 refine v (v (dE iX rfl (dE iX rfl (v ?_))))
 apply vi m <;> intro c4 m
 refine v (v ?_)
 obtain rfl:=eE m
 exact dU rfl
 refine v (v (jN m (σ:=Int) (λs=> []) (λs=>.c 0 (.sl none 35 (List.map aJ p0)) (.c 1 (.sl none 35 (List.map aJ p1)) (.c 5 (nZ s) .nil))) (lx (.k3 .nil)) ?_ ?_))
 rintro _ q0 x m
 replace m:yP u p0 p1 q0=some x:=m
 unfold yP at m
 refine v (dE iX rfl (v ?_))
 apply vi m <;> intro c0 m
 refine v (v (v (vq (by kernel_rfl) (vx m fJ rfl rfl λx0 _ m=>va (.agg (aJ x0)) lZ rfl rfl (vx m fJ rfl rfl λx1 _ m=>va (.agg (aJ x1)) lZ rfl rfl (vk W43 aEU m rfl rfl λ_ m=>v ?_))))))
 apply vi m <;> intro c1 m
 refine v (v (fZ m λm=> ?_))
 obtain rfl:=eE m
 exact dU rfl
 exact v (v (gK m))
 exact v (z9 m)
 rintro _ r0 m
 refine v (v ?_)
 obtain rfl:=eE m
 exact dU rfl
theorem aEV:aN Tryz.prog 47=true:=by kernel_rfl
def yQ (m:Nat) (p0:List aP) (p1:List aP) (q0:Int):Option (Lp (Int) (Bool)):=
 if (decide (q0 < (p0.length:Int)))=true then ((ix p0 q0).bind λx0=>(ix p1 q0).bind λx1=>after (if (x0.Pool !=x1.Pool)=true then (some (.brk true)) else if (x0.Epoch !=x1.Epoch)=true then (some (.brk true)) else if (x0.State !=x1.State)=true then (some (.brk true)) else some (.brk (x0.Files !=x1.Files)):Option (Lp (Bool) (Lp (Int) (Bool)))) λj0=>if j0=true then (some (.ret false)) else some (.go (IntKind.wrap .i64 (q0+1)))) else some (.brk q0)
def YQ (m:Nat) (p0:List aP) (p1:List aP):Option (Bool):=
 if ((p0.length:Int) !=(p1.length:Int))=true then (some false) else after (aT (λs=>yQ m p0 p1 s) m 0) λr0=>some true
theorem W82 {w:Nat} {p0:List aP} {p1:List aP} {o:Bool} (h:aF) (m:YQ w p0 p1=some o):
 aL Tryz.prog 82 [.sl none 4 (List.map cI p0),.sl none 4 (List.map cI p1)] h (λr h'=>r= .sc (.bool o)∧h'=h):=by
 refine fQ 53 [.tmp 4] Tryz.func82 rfl rfl rfl rfl ?_
 unfold YQ at m
 refine v (v (dE rE rfl (dE rE rfl (v ?_))))
 apply vi m <;> intro c4 m
 refine v (v ?_)
 obtain rfl:=eE m
 exact dU rfl
 refine v (v (jN m (σ:=Int) (λs=> []) (λs=>.c 0 (.sl none 4 (List.map cI p0)) (.c 1 (.sl none 4 (List.map cI p1)) (.c 5 (nZ s) .nil))) (lx (.k3 .nil)) ?_ ?_))
 rintro _ q0 x m
 replace m:yQ w p0 p1 q0=some x:=m
 unfold yQ at m
 refine v (dE rE rfl (v ?_))
 apply vi m <;> intro c0 m
 refine v (v (v (vz [] mixed (λu=>trivial) λu=>zC 0 rfl (eS (.sl _ _ _) rfl) (zI 1 rfl rfl ?_))))
 obtain⟨x0,X0,m⟩:=aC m
 refine zC 2 rfl (mI X0 lQ rfl rfl) (zC 3 rfl (mX (.agg (cI x0)) P4 rfl rfl) (zC 4 rfl (eS (.sl _ _ _) rfl) (zI 5 rfl rfl ?_)))
 obtain⟨x1,X1,m⟩:=aC m
 refine zC 6 rfl (mI X1 lQ rfl rfl) (zC 7 rfl (mX (.agg (cI x1)) P4 rfl rfl) (S1 8 9 rfl rfl (by kernel_rfl) ?_ ?_))
 refine(bH (I9) u ER rfl rfl λk173 K0=>⟨trivial, ?_⟩)
 refine zE 9 rfl (bH (I9) K0 ER rfl rfl λk176 K1=>⟨trivial, ?_⟩)
 refine zE 10 rfl (aK 1 (cI x0) K1 rfl rfl rfl rfl JX rfl rfl λK2=>⟨trivial, ?_⟩)
 refine zE 11 rfl (aK 0 (cI x1) K2 rfl rfl rfl rfl JX rfl rfl λK3=>⟨trivial, ?_⟩)
 refine zX (qk (f:=.c 7 _ (.c 6 _ (PW 26 _ _ _ _ _ _ _ _ _))) K3 rfl (vs (fL m (σ:=Bool) (λs=> [(some k176,.obj 49 (cI x1)),(some k173,.obj 49 (cI x0))]) (λs=>.c 0 (.sl none 4 (List.map cI p0)) (.c 1 (.sl none 4 (List.map cI p1)) (.c 5 (nZ q0) (.c 52 (.sc (.bool s)) .nil)))) (λx m=> ?_) ?_)))
 refine v (vl 1 _ bZ rfl rfl rfl (vl 0 _ bZ rfl rfl rfl ?_))
 apply vi m <;> intro b0 m
 rw[b0]
 exact f8 m
 rw[b0]
 refine vl 1 _ bZ rfl rfl rfl (vl 0 _ bZ rfl rfl rfl ?_)
 apply vi m <;> intro b1 m
 rw[b1]
 exact f8 m
 rw[b1]
 refine vl 1 _ bZ rfl rfl rfl (vl 0 _ bZ rfl rfl rfl ?_)
 apply vi m <;> intro b2 m
 rw[b2]
 exact f8 m
 rw[b2]
 exact vl 1 _ bZ rfl rfl rfl (vl 0 _ bZ rfl rfl rfl (f8 m))
 rintro _ j0 m
 refine v ?_
 apply vi m <;> intro c1 m
 refine v (v (fZ m λm=> ?_))
 obtain rfl:=eE m
 exact dU rfl
 exact v (v (wL m (lJ [] rfl rfl (.k3 .nil))))
 refine(bH (I9) u ER rfl rfl λk192 K4=>⟨trivial, ?_⟩)
 refine zE 8 rfl (bH (I9) K4 ER rfl rfl λk195 K5=>⟨trivial, ?_⟩)
 refine zE 10 rfl (aK 0 (cI x0) K5 rfl rfl rfl rfl JX rfl rfl λK6=>⟨trivial, ?_⟩)
 refine zE 11 rfl (aK 1 (cI x1) K6 rfl rfl rfl rfl JX rfl rfl λK7=>⟨trivial, ?_⟩)
 refine zX (qk (f:=.c 6 _ (.c 7 _ (PW 26 _ _ _ _ _ _ _ _ _))) K7 rfl (vs (fL m (σ:=Bool) (λs=> [(some k195,.obj 49 (cI x0)),(some k192,.obj 49 (cI x1))]) (λs=>.c 0 (.sl none 4 (List.map cI p0)) (.c 1 (.sl none 4 (List.map cI p1)) (.c 5 (nZ q0) (.c 52 (.sc (.bool s)) .nil)))) (λx m=> ?_) ?_)))
 refine v (vl 0 _ bZ rfl rfl rfl (vl 1 _ bZ rfl rfl rfl ?_))
 apply vi m <;> intro b3 m
 rw[b3]
 exact f8 m
 rw[b3]
 refine vl 0 _ bZ rfl rfl rfl (vl 1 _ bZ rfl rfl rfl ?_)
 apply vi m <;> intro b4 m
 rw[b4]
 exact f8 m
 rw[b4]
 refine vl 0 _ bZ rfl rfl rfl (vl 1 _ bZ rfl rfl rfl ?_)
 apply vi m <;> intro b5 m
 rw[b5]
 exact f8 m
 rw[b5]
 exact vl 0 _ bZ rfl rfl rfl (vl 1 _ bZ rfl rfl rfl (f8 m))
 rintro _ j1 m
 refine v ?_
 apply vi m <;> intro c2 m
 refine v (v (fZ m λm=> ?_))
 obtain rfl:=eE m
 exact dU rfl
 exact v (v (wL m (lJ [] rfl rfl (.k3 .nil))))
 exact v (z9 m)
 rintro _ r0 m
 refine v (v ?_)
 obtain rfl:=eE m
 exact dU rfl
theorem aEW:aN Tryz.prog 82=true:=by kernel_rfl
def s9 (m:Nat) (p0:List bO) (p1:List bO) (q0:Int):Option (Lp (Int) (Bool)):=
 if (decide (q0 < (p0.length:Int)))=true then ((ix p0 q0).bind λx0=>(ix p1 q0).bind λx1=>if (!decide (x0=x1))=true then (some (.ret false)) else some (.go (IntKind.wrap .i64 (q0+1)))) else some (.brk q0)
def MW (m:Nat) (p0:List bO) (p1:List bO):Option (Bool):=
 if ((p0.length:Int) !=(p1.length:Int))=true then (some false) else after (aT (λs=>s9 m p0 p1 s) m 0) λr0=>some true
theorem YR {u:Nat} {p0:List bO} {p1:List bO} {o:Bool} (h:aF) (m:MW u p0 p1=some o):
 aL Tryz.prog 105 [.sl none 32 (List.map bL p0),.sl none 32 (List.map bL p1)] h (λr h'=>r= .sc (.bool o)∧h'=h):=by
 refine fQ 26 [.tmp 4] Tryz.func105 rfl rfl rfl rfl ?_
 unfold MW at m
 refine v (v (dE pE rfl (dE pE rfl (v ?_))))
 apply vi m <;> intro c4 m
 refine v (v ?_)
 obtain rfl:=eE m
 exact dU rfl
 refine v (v (jN m (σ:=Int) (λs=> []) (λs=>.c 0 (.sl none 32 (List.map bL p0)) (.c 1 (.sl none 32 (List.map bL p1)) (.c 5 (nZ s) .nil))) (lx (.k3 .nil)) ?_ ?_))
 rintro _ q0 x m
 replace m:s9 u p0 p1 q0=some x:=m
 unfold s9 at m
 refine v (dE pE rfl (v ?_))
 apply vi m <;> intro c0 m
 refine v (v (v (vq (by kernel_rfl) (vx m u0 rfl rfl λx0 _ m=>va (.agg (bL x0)) fR rfl rfl (vx m u0 rfl rfl λx1 _ m=>va (.agg (bL x1)) fR rfl rfl (bW (WJ CP P3 u5 D0 rfl rfl) (v ?_)))))))
 apply vi m <;> intro c1 m
 refine v (v (fZ m λm=> ?_))
 obtain rfl:=eE m
 exact dU rfl
 exact v (v (gK m))
 exact v (z9 m)
 rintro _ r0 m
 refine v (v ?_)
 obtain rfl:=eE m
 exact dU rfl
theorem SD:aN Tryz.prog 105=true:=by kernel_rfl
def yR (m:Nat) (p0:bD) (p1:bD) (q0:Int):Option (Lp (Int) (Bool)):=
 if (decide (q0 < (p0.Parts.length:Int)))=true then ((ix p0.Parts q0).bind λx0=>(ix p1.Parts q0).bind λx1=>after (if (!(x0.Path.toList==x1.Path.toList))=true then (some (.brk true)) else if (x0.Size !=x1.Size)=true then (some (.brk true)) else (MW m x0.Ids x1.Ids).bind λy0=>some (.brk (!y0)):Option (Lp (Bool) (Lp (Int) (Bool)))) λj0=>if j0=true then (some (.ret false)) else some (.go (IntKind.wrap .i64 (q0+1)))) else some (.brk q0)
def YS (m:Nat) (p0:bD) (p1:bD):Option (Bool):=
 after (if (!(p0.Name.toList==p1.Name.toList))=true then (some (.brk true)) else some (.brk ((p0.Parts.length:Int) !=(p1.Parts.length:Int))):Option (Lp (Bool) (Bool))) λj0=>if j0=true then (some false) else after (aT (λs=>yR m p0 p1 s) m 0) λr0=>some true
theorem W48 {w:Nat} {p0:bD} {p1:bD} {o:Bool} (h:aF) (m:YS w p0 p1=some o):
 aL Tryz.prog 48 [.agg (aX p0),.agg (aX p1)] h (λr h'=>r= .sc (.bool o)∧h'=h):=by
 refine fQ 59 [.tmp 4] Tryz.func48 rfl rfl rfl rfl ?_
 unfold YS at m
 refine v (gO rfl rfl λk2 K3=>gO rfl rfl λk5 K6=>vs (vs (fL m (σ:=Bool) (λs=> [(some k5,.obj 58 (aX p1)),(some k2,.obj 58 (aX p0))]) (λs=>.c 2 (.ptr k2 0) (.c 3 (.ptr k5 0) (.c 21 (.sc (.bool s)) .nil))) (λx m=> ?_) ?_)))
 refine v (vl 1 _ uF rfl rfl rfl (vl 0 _ uF rfl rfl rfl (bW (wE rfl rfl rfl trivial) ?_)))
 apply vi m <;> intro b0 m
 rw[b0]
 exact gK m
 rw[b0]
 exact vl 1 _ lB rfl rfl rfl (dE qN rfl (vl 0 _ lB rfl rfl rfl (dE qN rfl (gK m))))
 rintro _ j0 m
 refine v ?_
 apply vi m <;> intro c0 m
 refine v (v ?_)
 obtain rfl:=eE m
 exact dU rfl
 refine v (v (jN m (σ:=Int) (λs=> [(some k5,.obj 58 (aX p1)),(some k2,.obj 58 (aX p0))]) (λs=>.c 2 (.ptr k2 0) (.c 3 (.ptr k5 0) (.c 5 (nZ s) .nil))) (lx (.k3 .nil)) ?_ ?_))
 rintro _ q0 x m
 replace m:yR w p0 p1 q0=some x:=m
 unfold yR at m
 refine v (vl 1 _ lB rfl rfl rfl (dE qN rfl (v ?_)))
 apply vi m <;> intro c1 m
 refine v (v (v (vz [(1000000,some k2,.obj 58 (aX p0)),(1000000,some k5,.obj 58 (aX p1))] mixed (λu=>⟨λ_=>aI 1 u rfl,λ_=>aI 0 u rfl,trivial⟩) λu=>zF 0 rfl rF rfl (zL 1 0 (.sl none 3 (List.map bT p0.Parts)) rfl lB rfl rfl rfl (zI 2 rfl rfl ?_)))))
 obtain⟨x0,X0,m⟩:=aC m
 refine zC 3 rfl (mI X0 pT rfl rfl) (zC 4 rfl (mX (.agg (bT x0)) xZ rfl rfl) (zF 5 rfl rF rfl (zL 6 1 (.sl none 3 (List.map bT p1.Parts)) rfl lB rfl rfl rfl (zI 7 rfl rfl ?_))))
 obtain⟨x1,X1,m⟩:=aC m
 refine zC 8 rfl (mI X1 pT rfl rfl) (zC 9 rfl (mX (.agg (bT x1)) xZ rfl rfl) (S1 10 11 rfl rfl (by kernel_rfl) ?_ ?_))
 refine(bH (OQ) u yA rfl rfl λk191 K0=>⟨⟨λ_=>aI 2 K0 rfl,λ_=>aI 1 K0 rfl,trivial⟩, ?_⟩)
 refine zE 11 rfl (bH (OQ) K0 yA rfl rfl λk194 K1=>⟨⟨λ_=>aI 3 K1 rfl,λ_=>aI 2 K1 rfl,trivial⟩, ?_⟩)
 refine zE 12 rfl (aK 1 (bT x0) K1 rfl rfl rfl rfl AH rfl rfl λK2=>⟨⟨λ_=>aI 3 K2 rfl,λ_=>aI 2 K2 rfl,trivial⟩, ?_⟩)
 refine zE 13 rfl (aK 0 (bT x1) K2 rfl rfl rfl rfl AH rfl rfl λK4=>⟨⟨λ_=>aI 3 K4 rfl,λ_=>aI 2 K4 rfl,trivial⟩, ?_⟩)
 refine zX (qk (f:=.c 7 _ (.c 6 _ (JQ 38 _ _ _ _ _ _ _ _ _ _ _))) K4 rfl (vs (fL m (σ:=Bool) (λs=> [(some k194,.obj 70 (bT x1)),(some k191,.obj 70 (bT x0)),(some k5,.obj 58 (aX p1)),(some k2,.obj 58 (aX p0))]) (λs=>.c 2 (.ptr k2 0) (.c 3 (.ptr k5 0) (.c 5 (nZ q0) (.c 58 (.sc (.bool s)) .nil)))) (λx m=> ?_) ?_)))
 refine v (vl 1 _ uF rfl rfl rfl (vl 0 _ uF rfl rfl rfl (bW (wE rfl rfl rfl trivial) ?_)))
 apply vi m <;> intro b1 m
 rw[b1]
 exact f8 m
 rw[b1]
 refine vl 1 _ bZ rfl rfl rfl (vl 0 _ bZ rfl rfl rfl ?_)
 apply vi m <;> intro b2 m
 rw[b2]
 exact f8 m
 rw[b2]
 exact vl 1 _ pU rfl rfl rfl (vl 0 _ pU rfl rfl rfl (vk YR SD m rfl rfl λ_ m=>f8 m))
 rintro _ j1 m
 refine v ?_
 apply vi m <;> intro c2 m
 refine v (v (fZ m λm=> ?_))
 obtain rfl:=eE m
 exact dU rfl
 exact v (v (wL m (lJ [2,3] rfl rfl (.k3 .nil))))
 refine(bH (OQ) u yA rfl rfl λk212 K5=>⟨⟨λ_=>aI 2 K5 rfl,λ_=>aI 1 K5 rfl,trivial⟩, ?_⟩)
 refine zE 10 rfl (bH (OQ) K5 yA rfl rfl λk215 K7=>⟨⟨λ_=>aI 3 K7 rfl,λ_=>aI 2 K7 rfl,trivial⟩, ?_⟩)
 refine zE 12 rfl (aK 0 (bT x0) K7 rfl rfl rfl rfl AH rfl rfl λK8=>⟨⟨λ_=>aI 3 K8 rfl,λ_=>aI 2 K8 rfl,trivial⟩, ?_⟩)
 refine zE 13 rfl (aK 1 (bT x1) K8 rfl rfl rfl rfl AH rfl rfl λK9=>⟨⟨λ_=>aI 3 K9 rfl,λ_=>aI 2 K9 rfl,trivial⟩, ?_⟩)
 refine zX (qk (f:=.c 6 _ (.c 7 _ (JQ 38 _ _ _ _ _ _ _ _ _ _ _))) K9 rfl (vs (fL m (σ:=Bool) (λs=> [(some k215,.obj 70 (bT x0)),(some k212,.obj 70 (bT x1)),(some k5,.obj 58 (aX p1)),(some k2,.obj 58 (aX p0))]) (λs=>.c 2 (.ptr k2 0) (.c 3 (.ptr k5 0) (.c 5 (nZ q0) (.c 58 (.sc (.bool s)) .nil)))) (λx m=> ?_) ?_)))
 refine v (vl 0 _ uF rfl rfl rfl (vl 1 _ uF rfl rfl rfl (bW (wE rfl rfl rfl trivial) ?_)))
 apply vi m <;> intro b3 m
 rw[b3]
 exact f8 m
 rw[b3]
 refine vl 0 _ bZ rfl rfl rfl (vl 1 _ bZ rfl rfl rfl ?_)
 apply vi m <;> intro b4 m
 rw[b4]
 exact f8 m
 rw[b4]
 exact vl 0 _ pU rfl rfl rfl (vl 1 _ pU rfl rfl rfl (vk YR SD m rfl rfl λ_ m=>f8 m))
 rintro _ j2 m
 refine v ?_
 apply vi m <;> intro c3 m
 refine v (v (fZ m λm=> ?_))
 obtain rfl:=eE m
 exact dU rfl
 exact v (v (wL m (lJ [2,3] rfl rfl (.k3 .nil))))
 exact v (z9 m)
 rintro _ r0 m
 refine v (v ?_)
 obtain rfl:=eE m
 exact dU rfl
theorem aEX:aN Tryz.prog 48=true:=by kernel_rfl
def M83 (m:Nat) (p0:aH) (p1:aH):Option (Bool):=
 after (if (p0.Seq==p1.Seq)=true then ((YS m p0.Man p1.Man).bind λy0=>if y0=true then ((UH m p0.Locs p1.Locs).bind λy1=>some (.brk y1)) else some (.brk false)) else some (.brk false):Option (Lp (Bool) (Bool))) λj0=>some j0
theorem W83 {u:Nat} {p0:aH} {p1:aH} {o:Bool} (h:aF) (m:M83 u p0 p1=some o):
 aL Tryz.prog 83 [.agg (bP p0),.agg (bP p1)] h (λr h'=>r= .sc (.bool o)∧h'=h):=by
 refine fQ 24 [.tmp 4] Tryz.func83 rfl rfl rfl rfl ?_
 unfold M83 at m
 refine v (gO rfl rfl λk2 K3=>gO rfl rfl λk5 K6=>vs (fL m (σ:=Bool) (λs=> [(some k5,.obj 60 (bP p1)),(some k2,.obj 60 (bP p0))]) (λs=>.c 4 (.sc (.bool s)) .nil) (λx m=> ?_) ?_))
 refine v (vl 1 _ bZ rfl rfl rfl (vl 0 _ bZ rfl rfl rfl ?_))
 apply vi m <;> intro b0 m
 rw[b0]
 refine vl 1 (.agg (aX p0.Man)) m6 rfl rfl rfl (vl 0 (.agg (aX p1.Man)) m6 rfl rfl rfl (vk W48 aEX m rfl rfl λ_ m=> ?_))
 apply vi m <;> intro b1 m
 rw[b1]
 exact vl 1 _ eZ rfl rfl rfl (vl 0 _ eZ rfl rfl rfl (vk W84 QL m rfl rfl λ_ m=>iZ m))
 rw[b1]
 exact iZ m
 rw[b0]
 exact iZ m
 rintro _ j0 m
 refine v ?_
 obtain rfl:=eE m
 exact dU rfl
theorem aEY:aN Tryz.prog 83=true:=by kernel_rfl
def yS (m:Nat) (p0:aA) (p1:aA) (q0:Int):Option (Lp (Int) (Bool)):=
 if (decide (q0 < (p0.Snaps.length:Int)))=true then ((ix p0.Snaps q0).bind λx0=>(ix p1.Snaps q0).bind λx1=>(M83 m x0 x1).bind λy0=>if (!y0)=true then (some (.ret false)) else some (.go (IntKind.wrap .i64 (q0+1)))) else some (.brk q0)
def yT (m:Nat) (p0:aA) (p1:aA) (q0:Int):Option (Lp (Int) (Bool)):=
 if (decide (q0 < (p0.Exps.length:Int)))=true then ((ix p0.Exps q0).bind λx0=>(ix p1.Exps q0).bind λx1=>after (if (x0.Seq !=x1.Seq)=true then (some (.brk true)) else if (x0.Of !=x1.Of)=true then (some (.brk true)) else (UH m x0.Locs x1.Locs).bind λy0=>some (.brk (!y0)):Option (Lp (Bool) (Lp (Int) (Bool)))) λj0=>if j0=true then (some (.ret false)) else some (.go (IntKind.wrap .i64 (q0+1)))) else some (.brk q0)
def VT (m:Nat) (p0:aA) (p1:aA):Option (Bool):=
 after (if ((p0.Snaps.length:Int) !=(p1.Snaps.length:Int))=true then (some (.brk true)) else if ((p0.Exps.length:Int) !=(p1.Exps.length:Int))=true then (some (.brk true)) else (YP m p0.Chunks p1.Chunks).bind λy0=>if (!y0)=true then (some (.brk true)) else (YQ m p0.Vols p1.Vols).bind λy1=>some (.brk (!y1)):Option (Lp (Bool) (Bool))) λj0=>if j0=true then (some false) else after (aT (λs=>yS m p0 p1 s) m 0) λr0=>after (aT (λs=>yT m p0 p1 s) m 0) λr1=>some true
theorem W34 {w:Nat} {p0:aA} {p1:aA} {o:Bool} (h:aF) (m:VT w p0 p1=some o):
 aL Tryz.prog 34 [.agg (aE p0),.agg (aE p1)] h (λr h'=>r= .sc (.bool o)∧h'=h):=by
 refine fQ 97 [.tmp 4] Tryz.func34 rfl rfl rfl rfl ?_
 unfold VT at m
 refine v (gO rfl rfl λk2 K3=>gO rfl rfl λk5 K6=>vs (vs (fL m (σ:=Bool) (λs=> [(some k5,.obj 30 (aE p1)),(some k2,.obj 30 (aE p0))]) (λs=>.c 2 (.ptr k2 0) (.c 3 (.ptr k5 0) (.c 40 (.sc (.bool s)) .nil))) (λx m=> ?_) ?_)))
 refine v (vl 1 _ fC rfl rfl rfl (dE jQ rfl (vl 0 _ fC rfl rfl rfl (dE jQ rfl ?_))))
 apply vi m <;> intro b0 m
 rw[b0]
 exact gK m
 rw[b0]
 refine vl 1 _ iF rfl rfl rfl (dE nW rfl (vl 0 _ iF rfl rfl rfl (dE nW rfl ?_)))
 apply vi m <;> intro b1 m
 rw[b1]
 exact gK m
 rw[b1]
 refine vl 1 _ eU rfl rfl rfl (vl 0 _ eU rfl rfl rfl (vk W47 aEV m rfl rfl λ_ m=> ?_))
 apply vi m <;> intro b2 m
 rw[b2]
 exact gK m
 rw[b2]
 exact vl 1 _ iP rfl rfl rfl (vl 0 _ iP rfl rfl rfl (vk W82 aEW m rfl rfl λ_ m=>gK m))
 rintro _ j0 m
 refine v ?_
 apply vi m <;> intro c0 m
 refine v (v ?_)
 obtain rfl:=eE m
 exact dU rfl
 refine v (v (jN m (σ:=Int) (λs=> [(some k5,.obj 30 (aE p1)),(some k2,.obj 30 (aE p0))]) (λs=>.c 2 (.ptr k2 0) (.c 3 (.ptr k5 0) (.c 5 (nZ s) .nil))) (lx (.k3 .nil)) ?_ ?_))
 rintro _ q0 x m
 replace m:yS w p0 p1 q0=some x:=m
 unfold yS at m
 refine v (vl 1 _ fC rfl rfl rfl (dE jQ rfl (v ?_)))
 apply vi m <;> intro c1 m
 refine v (v (v (vq (by kernel_rfl) (vl 1 _ fC rfl rfl rfl (vx m iJ rfl rfl λx0 _ m=>va (.agg (bP x0)) rG rfl rfl (vl 0 _ fC rfl rfl rfl (vx m iJ rfl rfl λx1 _ m=>va (.agg (bP x1)) rG rfl rfl (vk W83 aEY m rfl rfl λ_ m=>v ?_))))))))
 apply vi m <;> intro c2 m
 refine v (v (fZ m λm=> ?_))
 obtain rfl:=eE m
 exact dU rfl
 exact v (v (gK m))
 exact v (z9 m)
 rintro _ r0 m
 refine v (jN m (σ:=Int) (λs=> [(some k5,.obj 30 (aE p1)),(some k2,.obj 30 (aE p0))]) (λs=>.c 2 (.ptr k2 0) (.c 3 (.ptr k5 0) (.c 6 (nZ s) .nil))) (lx (.k3 .nil)) ?_ ?_)
 rintro _ q1 x m
 replace m:yT w p0 p1 q1=some x:=m
 unfold yT at m
 refine v (vl 1 _ iF rfl rfl rfl (dE nW rfl (v ?_)))
 apply vi m <;> intro c3 m
 refine v (v (v (vz [(1000000,some k2,.obj 30 (aE p0)),(1000000,some k5,.obj 30 (aE p1))] mixed (λu=>⟨λ_=>aI 1 u rfl,λ_=>aI 0 u rfl,trivial⟩) λu=>zF 0 rfl eR rfl (zL 1 0 (.sl none 3 (List.map cF p0.Exps)) rfl iF rfl rfl rfl (zI 2 rfl rfl ?_)))))
 obtain⟨x2,X0,m⟩:=aC m
 refine zC 3 rfl (mI X0 iE rfl rfl) (zC 4 rfl (mX (.agg (cF x2)) rH rfl rfl) (zF 5 rfl eR rfl (zL 6 1 (.sl none 3 (List.map cF p1.Exps)) rfl iF rfl rfl rfl (zI 7 rfl rfl ?_))))
 obtain⟨x3,X1,m⟩:=aC m
 refine zC 8 rfl (mI X1 iE rfl rfl) (zC 9 rfl (mX (.agg (cF x3)) rH rfl rfl) (S1 10 11 rfl rfl (by kernel_rfl) ?_ ?_))
 refine(bH ([nZ 0,nZ 0,sZ]) u oL rfl rfl λk247 K0=>⟨⟨λ_=>aI 2 K0 rfl,λ_=>aI 1 K0 rfl,trivial⟩, ?_⟩)
 refine zE 11 rfl (bH ([nZ 0,nZ 0,sZ]) K0 oL rfl rfl λk250 K1=>⟨⟨λ_=>aI 3 K1 rfl,λ_=>aI 2 K1 rfl,trivial⟩, ?_⟩)
 refine zE 12 rfl (aK 1 (cF x2) K1 rfl rfl rfl rfl yB rfl rfl λK2=>⟨⟨λ_=>aI 3 K2 rfl,λ_=>aI 2 K2 rfl,trivial⟩, ?_⟩)
 refine zE 13 rfl (aK 0 (cF x3) K2 rfl rfl rfl rfl yB rfl rfl λK4=>⟨⟨λ_=>aI 3 K4 rfl,λ_=>aI 2 K4 rfl,trivial⟩, ?_⟩)
 refine zX (qk (f:=.c 8 _ (.c 7 _ (JQ 76 _ _ _ _ _ _ _ _ _ _ _))) K4 rfl (vs (fL m (σ:=Bool) (λs=> [(some k250,.obj 99 (cF x3)),(some k247,.obj 99 (cF x2)),(some k5,.obj 30 (aE p1)),(some k2,.obj 30 (aE p0))]) (λs=>.c 2 (.ptr k2 0) (.c 3 (.ptr k5 0) (.c 6 (nZ q1) (.c 96 (.sc (.bool s)) .nil)))) (λx m=> ?_) ?_)))
 refine v (vl 1 _ bZ rfl rfl rfl (vl 0 _ bZ rfl rfl rfl ?_))
 apply vi m <;> intro b3 m
 rw[b3]
 exact f8 m
 rw[b3]
 refine vl 1 _ bZ rfl rfl rfl (vl 0 _ bZ rfl rfl rfl ?_)
 apply vi m <;> intro b4 m
 rw[b4]
 exact f8 m
 rw[b4]
 exact vl 1 _ eZ rfl rfl rfl (vl 0 _ eZ rfl rfl rfl (vk W84 QL m rfl rfl λ_ m=>f8 m))
 rintro _ j1 m
 refine v ?_
 apply vi m <;> intro c4 m
 refine v (v (fZ m λm=> ?_))
 obtain rfl:=eE m
 exact dU rfl
 exact v (v (wL m (lJ [2,3] rfl rfl (.k3 .nil))))
 refine(bH ([nZ 0,nZ 0,sZ]) u oL rfl rfl λk268 K5=>⟨⟨λ_=>aI 2 K5 rfl,λ_=>aI 1 K5 rfl,trivial⟩, ?_⟩)
 refine zE 10 rfl (bH ([nZ 0,nZ 0,sZ]) K5 oL rfl rfl λk271 K7=>⟨⟨λ_=>aI 3 K7 rfl,λ_=>aI 2 K7 rfl,trivial⟩, ?_⟩)
 refine zE 12 rfl (aK 0 (cF x2) K7 rfl rfl rfl rfl yB rfl rfl λK8=>⟨⟨λ_=>aI 3 K8 rfl,λ_=>aI 2 K8 rfl,trivial⟩, ?_⟩)
 refine zE 13 rfl (aK 1 (cF x3) K8 rfl rfl rfl rfl yB rfl rfl λK9=>⟨⟨λ_=>aI 3 K9 rfl,λ_=>aI 2 K9 rfl,trivial⟩, ?_⟩)
 refine zX (qk (f:=.c 7 _ (.c 8 _ (JQ 76 _ _ _ _ _ _ _ _ _ _ _))) K9 rfl (vs (fL m (σ:=Bool) (λs=> [(some k271,.obj 99 (cF x2)),(some k268,.obj 99 (cF x3)),(some k5,.obj 30 (aE p1)),(some k2,.obj 30 (aE p0))]) (λs=>.c 2 (.ptr k2 0) (.c 3 (.ptr k5 0) (.c 6 (nZ q1) (.c 96 (.sc (.bool s)) .nil)))) (λx m=> ?_) ?_)))
 refine v (vl 0 _ bZ rfl rfl rfl (vl 1 _ bZ rfl rfl rfl ?_))
 apply vi m <;> intro b5 m
 rw[b5]
 exact f8 m
 rw[b5]
 refine vl 0 _ bZ rfl rfl rfl (vl 1 _ bZ rfl rfl rfl ?_)
 apply vi m <;> intro b6 m
 rw[b6]
 exact f8 m
 rw[b6]
 exact vl 0 _ eZ rfl rfl rfl (vl 1 _ eZ rfl rfl rfl (vk W84 QL m rfl rfl λ_ m=>f8 m))
 rintro _ j2 m
 refine v ?_
 apply vi m <;> intro c5 m
 refine v (v (fZ m λm=> ?_))
 obtain rfl:=eE m
 exact dU rfl
 exact v (v (wL m (lJ [2,3] rfl rfl (.k3 .nil))))
 exact v (z9 m)
 rintro _ r1 m
 refine v (v ?_)
 obtain rfl:=eE m
 exact dU rfl
theorem YT:aN Tryz.prog 34=true:=by kernel_rfl
open Go.Vm
theorem iQ {α ρ:Type} {l:List α} {F:Nat} {body:Int→Option (Lp Int ρ)} (q:α→Bool) (r:ρ) (hF:l.length < F) (hb:∀(i:Nat) (x:α),l[i]? =some x→x∈l→i < l.length→body (i:Int)=some (if q x then .ret r else .go ((i+1:Nat):Int)))
    (he:body (l.length:Int)=some (.brk (l.length:Int))):aT body F 0=some (if l.any q then .ret r else .brk (l.length:Int)):=by
  rw[e8 (s0:=(0:Int)) (n:=l.length) (F:=F) (λi:Nat=>(i:Int)) (λi=>(l[i]?).any q) (λ_=>r) hF rfl (λi hi _=>by
    rw[hb i l[i] (List.getElem?_eq_getElem hi) (List.getElem_mem hi) hi,List.getElem?_eq_getElem hi]; rfl) (λ_=>he),hX,iA]
theorem m53 {F:Nat} {l:List bG} (hl:l.length≤1000):wQ F l=some l:=by unfold wQ; rw[cB (by simp; omega)]; simp
theorem UI {F:Nat} {l:List Int} (hl:l.length≤1000):vK F l=some l:=by unfold vK; rw[cB (by simp; omega)]; simp
theorem jX {S ρ:Type} {body:S→Option (Lp S ρ)} {n F:Nat} {s0:S} (emb:Nat→S) (hF:n < F) (h0:s0=emb 0) (hb:∀i,i < n→body (emb i)=some (.go (emb (i+1)))) (he:body (emb n)=some (.brk (emb n))):
    aT body F s0=some (.brk (emb n)):=by
  obtain⟨s',h1,h2⟩:=pW (body:=body) (I:=λi s=>s=emb i) (n:=n) (λi s hi hs=>⟨_,by rw[hs]; exact hb i hi,rfl⟩) (λs hs=>by rw[hs]; exact he) F 0 s0 (Nat.zero_le _) (by omega) h0
  rw[h2,h1]
theorem nY {α ρ:Type} {l:List α} {F:Nat} {body:List α×Int→Option (Lp (List α×Int) ρ)} (hF:l.length < F)
    (hb:∀(i:Nat) (x:α),l[i]? =some x→x∈l→i < l.length→body (l.take i,(i:Int))=some (.go (l.take i++ [x],((i+1:Nat):Int)))) (he:body (l,(l.length:Int))=some (.brk (l,(l.length:Int)))):
    aT body F ([],0)=some (.brk (l,(l.length:Int))):=by
  have:=jX (body:=body) (s0:=(([]:List α),(0:Int))) (n:=l.length) (F:=F) (λi:Nat=>(l.take i,(i:Int))) hF rfl (λi hi=>by
    rw[hb i l[i] (List.getElem?_eq_getElem hi) (List.getElem_mem hi) hi]
    simp) (by simpa using he)
  simpa using this
theorem m52 {F:Nat} {m:bD} (hF:1000≤F) (hp:m.Parts.length≤10) (hi:∀p∈m.Parts,p.Ids.length≤40):G7 F m=some m:=by
 unfold G7
 rw[nY (l:=m.Parts) (by omega) (λi x hx hm hi'=>by
  have:=hi x hm
  unfold sX
  rw[f9 (by omega)]
  simp only[bB,hx,Option.bind_some,Int.ofNat_lt,hi',decide_true,if_true]
  rw[cB (by simp; omega)]
  simp only[Option.bind_some,List.nil_append]
  rw[cB (by simp; omega)]
  rfl) (by unfold sX; simp)]
 rfl
theorem m54 {F:Nat} {l:List aB} (hF:1000≤F) (hl:l.length≤400) (hx:∀x∈l,x.Locs.length≤300∧x.Data.length≤300):J5 F l=some l:=by
 unfold J5
 rw[nY (l:=l) (by omega) (λi x hx' hm hi'=>by
  have:=hx x hm
  unfold sY
  rw[f9 (by omega)]
  simp only[bB,hx',Option.bind_some,Int.ofNat_lt,hi',decide_true,if_true,UI (F:=F) (show x.Data.length≤1000 by omega),m53 (F:=F) (show x.Locs.length≤1000 by omega)]
  rw[cB (by simp; omega)]
  rfl) (by unfold sY; simp)]
 rfl
theorem m14 {F:Nat} {c:aA} (hF:1000≤F) (h:Sm c):M90 F c=some c:=by
 have hsn:=h.sn
 have hex:=h.ex
 have hvo:=h.vo
 unfold M90
 rw[nY (l:=c.Snaps) (by omega) (λi x hx hm hi'=>by
  have h1:=h.sl x hm
  obtain⟨-,h2,h3⟩:=h.man x hm
  unfold G8
  rw[f9 (by omega)]
  simp only[bB,hx,Option.bind_some,Int.ofNat_lt,hi',decide_true,if_true,m52 hF h2 (λp hp=>(h3 p hp).2),m53 (F:=F) (show x.Locs.length≤1000 by omega)]
  rw[cB (by simp; omega)]
  rfl) (by unfold G8; simp)]
 rw[nY (l:=c.Exps) (by omega) (λi x hx hm hi'=>by
  have h1:=h.el x hm
  unfold G9
  rw[f9 (by omega)]
  simp only[bB,hx,Option.bind_some,Int.ofNat_lt,hi',decide_true,if_true,m53 (F:=F) (show x.Locs.length≤1000 by omega)]
  rw[cB (by simp; omega)]
  rfl) (by unfold G9; simp)]
 simp only[aG,m54 hF h.ch h.cl,Option.bind_some]
 rw[cB (by simp; omega)]
 rfl
theorem m58 {F:Nat} {l:List bG} (hF:1000≤F) (hl:l.length≤300):UH F l l=some true:=by
 unfold UH
 rw[if_neg (by simp),iQ (l:=l) (F:=F) (λ_=>false) false (by omega) (λi x hx _ hi=>by
  unfold yN QJ
  rw[f9 (by omega)]
  simp[bB,hx,hi,after]) (by unfold yN; simp)]
 simp[after]
theorem aE0 {F:Nat} {l:List Int} (hF:1000≤F) (hl:l.length≤300):YO F l l=some true:=by
 unfold YO
 rw[if_neg (by simp),iQ (l:=l) (F:=F) (λ_=>false) false (by omega) (λi x hx _ hi=>by
  unfold yO
  rw[f9 (by omega)]
  simp[bB,hx,hi,after]) (by unfold yO; simp)]
 simp[after]
theorem aE1 {F:Nat} {l:List bO} (hF:1000≤F) (hl:l.length≤300):MW F l l=some true:=by
 unfold MW
 rw[if_neg (by simp),iQ (l:=l) (F:=F) (λ_=>false) false (by omega) (λi x hx _ hi=>by
  unfold s9
  rw[f9 (by omega)]
  simp[bB,hx,hi,after]) (by unfold s9; simp)]
 simp[after]
theorem m55 {F:Nat} {l:List aB} (hF:1000≤F) (hl:l.length≤400) (hx:∀x∈l,x.Locs.length≤300∧x.Data.length≤300):YP F l l=some true:=by
 unfold YP
 rw[if_neg (by simp),iQ (l:=l) (F:=F) (λ_=>false) false (by omega) (λi x hx' hm hi=>by
  have:=hx x hm
  unfold yP M43
  rw[f9 (by omega)]
  simp only[bB,hx',Option.bind_some,aE0 hF this.2,m58 hF this.1]; simp[hi,after]) (by unfold yP; simp)]
 simp[after]
theorem m56 {F:Nat} {l:List aP} (hF:1000≤F) (hl:l.length≤220):YQ F l l=some true:=by
 unfold YQ
 rw[if_neg (by simp),iQ (l:=l) (F:=F) (λ_=>false) false (by omega) (λi x hx' hm hi=>by
  unfold yQ
  rw[f9 (by omega)]
  simp[bB,hx',hi,after]) (by unfold yQ; simp)]
 simp[after]
theorem aE2 {F:Nat} {m:bD} (hF:1000≤F) (hp:m.Parts.length≤10) (hi:∀p∈m.Parts,p.Ids.length≤40):YS F m m=some true:=by
 unfold YS
 rw[iQ (l:=m.Parts) (F:=F) (λ_=>false) false (by omega) (λi x hx' hm hi'=>by
  have:=hi x hm
  unfold yR
  rw[f9 (by omega)]
  simp only[bB,hx',Option.bind_some,aE1 hF (show x.Ids.length≤300 by omega)]; simp[hi',after]) (by unfold yR; simp)]
 simp[after]
theorem m17 {F:Nat} {c:aA} (hF:1000≤F) (h:Sm c):VT F c c=some true:=by
 have hsn:=h.sn
 have hex:=h.ex
 have hvo:=h.vo
 unfold VT
 rw[iQ (l:=c.Snaps) (F:=F) (λ_=>false) false (by omega) (λi x hx' hm hi'=>by
  have h1:=h.sl x hm
  obtain⟨-,h2,h3⟩:=h.man x hm
  unfold yS M83
  rw[f9 (by omega)]
  simp only[bB,hx',Option.bind_some,aE2 hF h2 (λp hp=>(h3 p hp).2),m58 hF h1]; simp[hi',after]) (by unfold yS; simp)]
 rw[iQ (l:=c.Exps) (F:=F) (λ_=>false) false (by omega) (λi x hx' hm hi'=>by
  have h1:=h.el x hm
  unfold yT
  rw[f9 (by omega)]
  simp only[bB,hx',Option.bind_some,m58 hF h1]; simp[hi',after]) (by unfold yT; simp)]
 simp[after,m55 hF h.ch h.cl,m56 hF (show c.Vols.length≤220 by omega)]
open Go.Vm
def yU (m:Nat) (p0:List Int) (q0:List aP) (q1:Int):Option (Lp ((List aP)×Int) (aA×Int)):=
 if (decide (q1 < (p0.length:Int)))=true then ((ix p0 q1).bind λx0=>(yD m x0 0 1).bind λy0=>if (!y0)=true then (some (.ret (({ Seq:=0,Snaps:= [],Chunks:= [],Exps:= [],Vols:= []}:aA),1))) else (app q0 ([({ Pool:=x0,Epoch:=0,State:=1,Files:=0}:aP)]:List aP)).bind λz0=>some (.go (z0,IntKind.wrap .i64 (q1+1)))) else some (.brk (q0,q1))
def VU (m:Nat) (p0:List Int):Option (aA×Int):=
 (yD m (p0.length:Int) 1 8).bind λy7=>if (!y7)=true then (some (({ Seq:=0,Snaps:= [],Chunks:= [],Exps:= [],Vols:= []}:aA),2)) else after (aT (λs=>yU m p0 s.1 s.2) m ([],0)) λ⟨r0,r1⟩=>some (({ Seq:=0,Snaps:= [],Chunks:= [],Exps:= [],Vols:=r0}:aA),0)
theorem W32 {w:Nat} {p0:List Int} {o:aA×Int} (h:aF) (m:VU w p0=some o):
 aL Tryz.prog 32 [.sl none 1 (List.map jI p0)] h (λr h'=>r= .tup [.agg (aE o.1),nZ o.2]∧h'=h):=by
 refine fQ 31 [.cell 2 30,.tmp 3] Tryz.func32 rfl rfl rfl rfl ?_
 unfold VU at m
 refine v (ve λu=>bH (iK) u qM rfl rfl λk2 K3=>qk K3 rfl (v (dE JS rfl (vk CX oM m rfl rfl λ_ m=>v ?_))))
 apply vi m <;> intro c9 m
 refine v (bW (fI (iK) CO rfl) (ve λu=>aK 0 (iK) u rfl rfl rfl rfl lX rfl rfl λK0=>qk K0 rfl (v ?_)))
 cases m
 exact vr λu=>dX.of2 (.inl rfl) (rA (.agg (iK)) eV rfl (bC 0 u rfl) rfl) (fT _ _ (.sc (.int _ _)) rfl) (aS (List.nil_sublist _) u).1 (bJ.agg (.cons (bJ.refl _ _) (.cons (aY _) (.cons (aY _) (.cons (aY _) (.cons (aY _) .nil)))))) (bJ.refl _ _) ⟨rfl,rfl⟩
 refine v (v (ve λu=>bH (iK) u qM rfl rfl λk13 K1=>qk K1 rfl (v (dE JS rfl (qC (WT (.tok 49 4 (([]:List aP).length*4)) 1 ([nZ 0,sZ,sZ,sZ,ow none 4 (List.map cI [])]) rfl (.k4 (.cons (jF (c:=cI) _ 4) .nil))) (nP m (σ:=(List aP)×Int) (τ:=Option cE) (λg s=> [(g,.tok 49 4 ((s.1:List aP).length*4)),(some k13,.obj 30 ([nZ 0,sZ,sZ,sZ,ow g 4 (List.map cI s.1)])),(some k2,.obj 30 (iK))]) (λg s=>(g=none→s.1= [])) (λg s=>.c 2 (.ptr k2 0) (.c 4 (.ptr k13 0) (.c 12 (.sl none 1 (List.map jI p0)) (.c 13 (nZ (p0.length:Int)) (.c 14 (nZ s.2) .nil))))) none (λ_=>rfl) (lx (.k5 .nil)) ?_ ?_))))))
 rintro tg0 ⟨q0,q1⟩ x t0 m
 replace m:yU w p0 q0 q1=some x:=m
 unfold yU at m
 refine v (v ?_)
 apply vi m <;> intro c0 m
 refine v (v (v (vx m TG rfl rfl λx0 _ m=>v (vk CX oM m rfl rfl λ_ m=>v ?_))))
 apply vi m <;> intro c1 m
 refine v (bW (fI (iK) CO rfl) (ve λu=>aK 2 (iK) u rfl rfl rfl rfl lX rfl rfl λK2=>qk K2 rfl (v (fZ m λm=> ?_))))
 cases m
 exact vr λu=>dX.of2 (.inl rfl) (rA (.agg (iK)) eV rfl (bC 2 u rfl) rfl) (fT _ _ (.sc (.int _ _)) rfl) (aS (List.nil_sublist _) u).1 (bJ.agg (.cons (bJ.refl _ _) (.cons (aY _) (.cons (aY _) (.cons (aY _) (.cons (aY _) .nil)))))) (bJ.refl _ _) ⟨rfl,rfl⟩
 refine v (v (vl 1 (ow tg0 4 (List.map cI q0)) iP rfl rfl rfl (bW (fI (cI ({ Pool:=x0,Epoch:=0,State:=1,Files:=0}:aP)) WY rfl) (bW (eL (List.map cI ([({ Pool:=x0,Epoch:=0,State:=1,Files:=0}:aP)]:List aP)) GU rfl rfl rfl rfl) ?_))))
 obtain⟨z0,Z0,m⟩:=aC m
 exact ve λu=>fE (c:=cI) 0 Z0 GU rfl rfl rfl t0 u rfl λtg1 t1 K4=>qk K4 rfl (ve λu=>aK 1 ([nZ 0,sZ,sZ,sZ,ow tg1 4 (List.map cI z0)]) u rfl rfl (jG rfl) (pM _ _ _) P1 rfl rfl λK5=>qk K5 rfl (v (eW m tg1 t1 (lx (.k5 .nil)))))
 exact v (lK m tg0 t0 (lx (.k5 .nil)))
 rintro tg2 ⟨r0,r1⟩ t2 m
 refine v (vl 1 (.agg ([nZ 0,sZ,sZ,sZ,ow tg2 4 (List.map cI r0)])) eV rfl rfl rfl (ve λu=>aK 2 ([nZ 0,sZ,sZ,sZ,ow tg2 4 (List.map cI r0)]) u rfl rfl rfl (by repeat (first | exact rfl | refine cG (iO _ _ _) ?_ | refine cG (bY _ _ _) ?_ | refine cG (gG _ _ _ _) ?_ | refine cG rfl ?_)) lX rfl rfl λK6=>qk K6 rfl ?_))
 refine v ?_
 cases m
 exact vr λu=>dX.of2 (.inl rfl) (rA (.agg ([nZ 0,sZ,sZ,sZ,ow tg2 4 (List.map cI r0)])) eV rfl (bC 2 u rfl) rfl) (fT _ _ (.sc (.int _ _)) rfl) (aS (List.nil_sublist _) u).1 (bJ.agg (.cons (bJ.refl _ _) (.cons (aY _) (.cons (aY _) (.cons (aY _) (.cons ((eY _ 0 t2 u rfl)) .nil)))))) (bJ.refl _ _) ⟨rfl,rfl⟩
theorem YU:aN Tryz.prog 32=true:=by kernel_rfl
def yV (m:Nat) (p0:List Int) (q0:List aP) (q1:Int):Option (Lp ((List aP)×Int) (aA)):=
 if (decide (q1 < (p0.length:Int)))=true then ((ix p0 q1).bind λx0=>(app q0 ([({ Pool:=x0,Epoch:=0,State:=1,Files:=0}:aP)]:List aP)).bind λz0=>some (.go (z0,IntKind.wrap .i64 (q1+1)))) else some (.brk (q0,q1))
def YV (m:Nat) (p0:List Int):Option (aA):=
 after (aT (λs=>yV m p0 s.1 s.2) m ([],0)) λ⟨r0,r1⟩=>some ({ Seq:=0,Snaps:= [],Chunks:= [],Exps:= [],Vols:=r0}:aA)
theorem W33 {w:Nat} {p0:List Int} {o:aA} (h:aF) (m:YV w p0=some o):
 aL Tryz.prog 33 [.sl none 1 (List.map jI p0)] h (λr h'=>r= .agg (aE o)∧h'=h):=by
 refine fQ 22 [.cell 2 30] Tryz.func33 rfl rfl rfl rfl ?_
 unfold YV at m
 refine v (ve λu=>bH (iK) u qM rfl rfl λk2 K3=>qk K3 rfl (v (ve λu=>bH (iK) u qM rfl rfl λk6 K7=>qk K7 rfl (v (qC (WT (.tok 49 4 (([]:List aP).length*4)) 1 ([nZ 0,sZ,sZ,sZ,ow none 4 (List.map cI [])]) rfl (.k4 (.cons (jF (c:=cI) _ 4) .nil))) (nP m (σ:=(List aP)×Int) (τ:=Option cE) (λg s=> [(g,.tok 49 4 ((s.1:List aP).length*4)),(some k6,.obj 30 ([nZ 0,sZ,sZ,sZ,ow g 4 (List.map cI s.1)])),(some k2,.obj 30 (iK))]) (λg s=>(g=none→s.1= [])) (λg s=>.c 0 (.sl none 1 (List.map jI p0)) (.c 2 (.ptr k2 0) (.c 3 (.ptr k6 0) (.c 4 (nZ s.2) .nil)))) none (λ_=>rfl) (lx (.k4 .nil)) ?_ ?_))))))
 rintro tg0 ⟨q0,q1⟩ x t0 m
 replace m:yV w p0 q0 q1=some x:=m
 unfold yV at m
 refine v (dE JS rfl (v ?_))
 apply vi m <;> intro c0 m
 refine v (v (v (vz [(10,some k6,.obj 30 ([nZ 0,sZ,sZ,sZ,ow tg0 4 (List.map cI q0)]))] mixed (λu=>⟨λ_=>aI 1 u rfl,trivial⟩) λu=>zF 0 rfl fP rfl (zL 1 0 (ow tg0 4 (List.map cI q0)) rfl iP rfl rfl rfl (zC 2 rfl (eS (.sl _ _ _) rfl) (zI 3 rfl rfl ?_))))))
 obtain⟨x0,X0,m⟩:=aC m
 refine zC 4 rfl (mI X0 TG rfl rfl) (zC 5 rfl (mX (nZ x0) bZ rfl rfl) (zC 6 rfl (fI (cI ({ Pool:=x0,Epoch:=0,State:=1,Files:=0}:aP)) WY rfl) (zC 7 rfl (eL (List.map cI ([({ Pool:=x0,Epoch:=0,State:=1,Files:=0}:aP)]:List aP)) GU rfl rfl rfl rfl) ?_)))
 obtain⟨z0,Z0,m⟩:=aC m
 refine zE 8 rfl (fE (c:=cI) 0 Z0 GU rfl rfl rfl t0 u rfl λtg1 t1 K0=>⟨⟨λ_=>aI 1 K0 rfl,trivial⟩, ?_⟩)
 refine zF 9 rfl fP rfl (zE 10 rfl (aK 1 ([nZ 0,sZ,sZ,sZ,ow tg1 4 (List.map cI z0)]) K0 rfl rfl (jG rfl) (pM _ _ _) P1 rfl rfl λK1=>⟨⟨λe=>absurd e (by decide),trivial⟩, ?_⟩))
 exact zX (qk (f:=JQ 20 _ _ _ _ _ _ _ _ _ _ _) K1 rfl (v (eW m tg1 t1 (lx (.k4 .nil)))))
 exact v (lK m tg0 t0 (lx (.k4 .nil)))
 rintro tg2 ⟨r0,r1⟩ t2 m
 refine v (vl 1 (.agg ([nZ 0,sZ,sZ,sZ,ow tg2 4 (List.map cI r0)])) eV rfl rfl rfl (ve λu=>aK 2 ([nZ 0,sZ,sZ,sZ,ow tg2 4 (List.map cI r0)]) u rfl rfl rfl (by repeat (first | exact rfl | refine cG (iO _ _ _) ?_ | refine cG (bY _ _ _) ?_ | refine cG (gG _ _ _ _) ?_ | refine cG rfl ?_)) lX rfl rfl λK2=>qk K2 rfl ?_))
 refine v ?_
 cases m
 exact vr λu=>dX.of1 (.inl rfl) (rA (.agg ([nZ 0,sZ,sZ,sZ,ow tg2 4 (List.map cI r0)])) eV rfl (bC 2 u rfl) rfl) (aS (List.nil_sublist _) u).1 (bJ.agg (.cons (bJ.refl _ _) (.cons (aY _) (.cons (aY _) (.cons (aY _) (.cons ((eY _ 0 t2 u rfl)) .nil)))))) ⟨rfl,rfl⟩
theorem aE3:aN Tryz.prog 33=true:=by kernel_rfl
open Go.Vm
def yW (m:Nat) (p0:aA) (p1:bO) (q0:Int) (q1:Int) (q2:Int):Option (Lp (Int) (Lp (Int) (Lp (Int) (Bool)))):=
 (ix p0.Snaps q0).bind λx0=>(ix x0.Man.Parts q1).bind λx1=>if (decide (q2 < (x1.Ids.length:Int)))=true then ((ix p0.Snaps q0).bind λx2=>(ix x2.Man.Parts q1).bind λx3=>(ix x3.Ids q2).bind λx4=>if (decide (x4=p1))=true then (some (.ret (.ret (.ret true)))) else some (.go (IntKind.wrap .i64 (q2+1)))) else some (.brk q2)
def yX (m:Nat) (p0:aA) (p1:bO) (q0:Int) (q1:Int):Option (Lp (Int) (Lp (Int) (Bool))):=
 (ix p0.Snaps q0).bind λx0=>if (decide (q1 < (x0.Man.Parts.length:Int)))=true then (after (aT (λs=>yW m p0 p1 q0 q1 s) m 0) λr0=>some (.go (IntKind.wrap .i64 (q1+1)))) else some (.brk q1)
def yY (m:Nat) (p0:aA) (p1:bO) (q0:Int):Option (Lp (Int) (Bool)):=
 if (decide (q0 < (p0.Snaps.length:Int)))=true then (after (aT (λs=>yX m p0 p1 q0 s) m 0) λr0=>some (.go (IntKind.wrap .i64 (q0+1)))) else some (.brk q0)
def YW (m:Nat) (p0:aA) (p1:bO):Option (Bool):=
 after (aT (λs=>yY m p0 p1 s) m 0) λr0=>some false
theorem W38 {u:Nat} {p0:aA} {p1:bO} {o:Bool} (h:aF) (m:YW u p0 p1=some o):
 aL Tryz.prog 38 [.agg (aE p0),.agg (bL p1)] h (λr h'=>r= .sc (.bool o)∧h'=h):=by
 refine fQ 59 [.tmp 4] Tryz.func38 rfl rfl rfl rfl ?_
 unfold YW at m
 refine v (gO rfl rfl λk2 K3=>gO rfl rfl λk5 K6=>v (jN m (σ:=Int) (λs=> [(some k5,.obj 36 (bL p1)),(some k2,.obj 30 (aE p0))]) (λs=>.c 2 (.ptr k2 0) (.c 3 (.ptr k5 0) (.c 5 (nZ s) .nil))) (lx (.k3 .nil)) ?_ ?_))
 rintro _ q0 x m
 replace m:yY u p0 p1 q0=some x:=m
 unfold yY at m
 refine v (vl 1 _ fC rfl rfl rfl (dE jQ rfl (v ?_)))
 apply vi m <;> intro c0 m
 refine v (v (v (jN m (σ:=Int) (λs=> [(some k5,.obj 36 (bL p1)),(some k2,.obj 30 (aE p0))]) (λs=>.c 2 (.ptr k2 0) (.c 3 (.ptr k5 0) (.c 5 (nZ q0) (.c 6 (nZ s) .nil)))) (lx (.k4 .nil)) ?_ ?_)))
 rintro _ q1 x m
 replace m:yX u p0 p1 q0 q1=some x:=m
 unfold yX at m
 refine v (vl 1 _ fC rfl rfl rfl (vx m iJ rfl rfl λ_ _ m=>dE qN rfl (v ?_)))
 apply vi m <;> intro c1 m
 refine v (v (v (jN m (σ:=Int) (λs=> [(some k5,.obj 36 (bL p1)),(some k2,.obj 30 (aE p0))]) (λs=>.c 2 (.ptr k2 0) (.c 3 (.ptr k5 0) (.c 5 (nZ q0) (.c 6 (nZ q1) (.c 7 (nZ s) .nil))))) (lx (.k5 .nil)) ?_ ?_)))
 rintro _ q2 x m
 replace m:yW u p0 p1 q0 q1 q2=some x:=m
 unfold yW at m
 refine v (vl 1 _ fC rfl rfl rfl (vx m iJ rfl rfl λ_ _ m=>vx m pT rfl rfl λ_ _ m=>dE pE rfl (v ?_)))
 apply vi m <;> intro c2 m
 refine v (v (v (vq (by kernel_rfl) (vl 1 _ fC rfl rfl rfl (vx m iJ rfl rfl λ_ _ m=>vx m pT rfl rfl λ_ _ m=>vx m u0 rfl rfl λx0 _ m=>va (.agg (bL x0)) fR rfl rfl (vl 0 (.agg (bL p1)) fR rfl rfl rfl (bW (vS CP P3 u5 D0 rfl rfl) (v ?_))))))))
 apply vi m <;> intro c3 m
 refine v (v (fZ m λm=>fZ m λm=>fZ m λm=> ?_))
 obtain rfl:=eE m
 exact dU rfl
 exact v (v (nJ m))
 exact v (WU m)
 rintro _ r0 m
 exact v (f8 m)
 exact v (wS m)
 rintro _ r1 m
 exact v (gK m)
 exact v (z9 m)
 rintro _ r2 m
 refine v (v ?_)
 obtain rfl:=eE m
 exact dU rfl
theorem aE4:aN Tryz.prog 38=true:=by kernel_rfl
open Go.Vm
def onV (v:Int) (l:List bG):Bool:=l.any λy=>y.Vol==v
def it1 (x:aB):aU:= { Kind:=1,Id:=x.Id,Seq:=0,Of:=0,Off:=0,Len:=0}
def it2 (x:aH):aU:= { Kind:=2,Id:=kG,Seq:=x.Seq,Of:=0,Off:=0,Len:=0}
def it3 (x:aQ):aU:= { Kind:=3,Id:=kG,Seq:=x.Seq,Of:=x.Of,Off:=0,Len:=0}
def onL (c:aA) (v:Int):List aU:=(c.Chunks.filter λx=>onV v x.Locs).map it1++(c.Snaps.filter λx=>onV v x.Locs).map it2++(c.Exps.filter λx=>onV v x.Locs).map it3
theorem mQ {α β ρ:Type} {l:List α} {F:Nat} (acc0:List β) (q:α→Bool) (it:α→β) {body:List β×Int→Option (Lp (List β×Int) ρ)} (hF:l.length < F)
    (hb:∀(i:Nat) (x:α),l[i]? =some x→x∈l→i < l.length→∀acc:List β,acc.length≤acc0.length+i→body (acc,(i:Int))=some (.go (if q x then acc++ [it x] else acc,((i+1:Nat):Int))))
    (he:∀acc,body (acc,(l.length:Int))=some (.brk (acc,(l.length:Int)))):aT body F (acc0,0)=some (.brk (acc0++(l.filter q).map it,(l.length:Int))):=by
  have:=jX (body:=body) (s0:=(acc0,(0:Int))) (n:=l.length) (F:=F) (λi:Nat=>(acc0++((l.take i).filter q).map it,(i:Int))) hF (by simp) (λi hi=>by
    have hlen:((l.take i).filter q).length≤i:=Nat.le_trans (List.length_filter_le _ _) (by rw[List.length_take]; omega)
    rw[hb i l[i] (List.getElem?_eq_getElem hi) (List.getElem_mem hi) hi _ (by rw[List.length_append,List.length_map]; omega)]
    rw[List.take_succ_eq_append_getElem hi,List.filter_append,List.map_append]
    cases hq:q l[i] <;> simp[List.filter,hq]) (he _)
  simpa using this
def aJQ (c:aA) (v:Int):Nat:=((onL c v).filter λx=>x.Kind !=1 || o8 c x.Id).length
theorem QM {c:aA} {l:List bG} (h:h9 c l=true):∀x∈l,0≤x.Vol∧x.Vol.toNat < c.Vols.length:=by
 intro x hx
 obtain⟨i,hi,rfl⟩:=List.getElem_of_mem hx
 unfold h9 at h
 simp only[Bool.and_eq_true,Bool.not_eq_true',List.any_eq_false,List.mem_range] at h
 have this:EY c l i=true:=by simpa using h.2 i hi
 unfold EY at this
 rw[List.getElem?_eq_getElem hi] at this
 simp only[Bool.and_eq_true,gN,decide_eq_true_eq] at this
 obtain⟨⟨⟨⟨⟨k1,k2⟩, -⟩, -⟩, -⟩, -⟩:=this
 omega
theorem J6 {c:aA} (hg:iB c=true):(∀x∈c.Chunks,h9 c x.Locs=true)∧(∀x∈c.Snaps,h9 c x.Locs=true)∧(∀x∈c.Exps,h9 c x.Locs=true):=by
 unfold iB vI CZ AM at hg
 simp only[Bool.and_eq_true,Bool.not_eq_true',List.any_eq_false,List.mem_range] at hg
 obtain⟨⟨⟨⟨-, -⟩,h1, -⟩,h2, -⟩,h3, -⟩:=hg
 refine⟨λx hx=> ?_,λx hx=> ?_,λx hx=> ?_⟩
 ·obtain⟨i,hi,rfl⟩:=List.getElem_of_mem hx
  have this:IK c i=true:=by simpa using h1 i hi
  unfold IK at this
  rw[List.getElem?_eq_getElem hi] at this
  simp only[Bool.and_eq_true] at this
  exact this.1.2
 ·obtain⟨i,hi,rfl⟩:=List.getElem_of_mem hx
  have this:D1 c i=true∧F0 c i=true:=by simpa using h2 i hi
  replace this:=this.1
  unfold D1 at this
  rw[List.getElem?_eq_getElem hi] at this
  simp only[Bool.and_eq_true] at this
  exact this.2
 ·obtain⟨i,hi,rfl⟩:=List.getElem_of_mem hx
  have this:z8 c i=true∧J4 c i=true:=by simpa using h3 i hi
  replace this:=this.1
  unfold z8 at this
  rw[List.getElem?_eq_getElem hi] at this
  simp only[Bool.and_eq_true] at this
  exact this.2
theorem m65 {F:Nat} {c:aA} {d:bO} (hF:1000≤F) (h:Sm c):YW F c d=some (o8 c d):=by
 have hsn:=h.sn
 unfold YW
 rw[iQ (l:=c.Snaps) (F:=F) (λs=>s.Man.Parts.any λp=>p.Ids.any λx=>decide (d=x)) true (by omega) (λi s hs hm hi=>by
  obtain⟨-,k2,k3⟩:=h.man s hm
  unfold yY
  rw[f9 (by omega),iQ (l:=s.Man.Parts) (F:=F) (λp=>p.Ids.any λx=>decide (d=x)) (Lp.ret true) (by omega) (λj p hp hm' hj=>by
   have k4:=(k3 p hm').2
   unfold yX
   rw[f9 (by omega),iQ (l:=p.Ids) (F:=F) (λx=>decide (d=x)) (Lp.ret (Lp.ret true)) (by omega) (λk x hx _ hk=>by
    unfold yW
    rw[f9 (by omega)]
    simp only[bB,hs,hp,hx,Option.bind_some,Int.ofNat_lt,hk,decide_true,if_true,decide_eq_true_eq,eq_comm (a:=x)]
    split <;> rfl) (by unfold yW; simp[bB,hs,hp])]
   simp only[bB,hs,Option.bind_some,Int.ofNat_lt,hj,decide_true,if_true]
   cases p.Ids.any λx=>decide (d=x) <;> rfl) (by unfold yX; simp[bB,hs])]
  simp only[Int.ofNat_lt,hi,decide_true,if_true]
  cases s.Man.Parts.any λp=>p.Ids.any λx=>decide (d=x) <;> rfl) (by unfold yY; simp)]
 unfold o8
 cases c.Snaps.any λs=>s.Man.Parts.any λp=>p.Ids.any λx=>decide (d=x) <;> rfl
open Go.Vm
def SW (c:aA) (p need:Int) (r:List Int) (nt st:Int) (i:Nat):Bool:=match c.Vols[i]?,r[i]? with
 | some x,some z=>x.Pool==p && (i:Int) !=nt && x.State==st && decide (need≤z)
 | _,_=>false
open Go.Vm
def n3 {α:Type} (l:List α) (q:α→Bool):Int:=match (List.range l.length).find? λi=>(l[i]?).any q with
 | none=> -1
 | some i=>(i:Int)
theorem iC {α:Type} {l:List α} (q:α→Bool) {F:Nat} {body:Int→Option (Lp Int Int)} (hF:l.length < F)
    (hb:∀(i:Nat) (x:α),l[i]? =some x→x∈l→i < l.length→body (i:Int)=some (if q x then .ret (i:Int) else .go ((i+1:Nat):Int))) (he:body (l.length:Int)=some (.brk (l.length:Int))):
    (after (aT body F 0) λ_=>some (-1))=some (n3 l q):=by
  rw[e8 (s0:=(0:Int)) (n:=l.length) (F:=F) (λi:Nat=>(i:Int)) (λi=>(l[i]?).any q) (λi=>(i:Int)) hF rfl (λi hi _=>by
    rw[hb i l[i] (List.getElem?_eq_getElem hi) (List.getElem_mem hi) hi,List.getElem?_eq_getElem hi]; rfl) (λ_=>he)]
  unfold LF n3
  cases (List.range l.length).find? λi=>(l[i]?).any q <;> rfl
theorem m96 {F:Nat} {l:List aH} {f:aH→Option Bool} (q:aH→Bool) (hF:l.length < F) (hl:l.length < 1000) (hf:∀x∈l,f x=some (q x)):G0 F l f=some (n3 l q):=by
 unfold G0
 refine iC q hF (λi x hx hm hi=> ?_) (by unfold oN; simp)
 unfold oN
 rw[f9 (by omega)]
 simp only[bB,hx,hf x hm,Option.bind_some,Int.ofNat_lt,hi,decide_true,if_true]
 cases q x <;> simp
theorem m47 {F:Nat} {c:aA} {nm:ByteArray} (hF:1000≤F) (hl:c.Snaps.length < 1000):YA F c nm=some (n3 c.Snaps λs=>s.Man.Name.toList==nm.toList):=by
 unfold YA
 rw[m96 (f:=λx0=>QF F x0 nm) (λs=>s.Man.Name.toList==nm.toList) (by omega) hl (λx _=>rfl)]
 rfl
theorem aE6 {F:Nat} {c:aA} {nm:ByteArray} (hF:1000≤F) (hl:c.Snaps.length < 1000):yJ F c nm=some (n3 c.Snaps λs=>s.Man.Name.toList==nm.toList):=by
 unfold yJ
 refine iC _ (by omega) (λi x hx hm hi=> ?_) (by unfold oP; simp)
 unfold oP
 rw[f9 (by omega)]
 simp only[bB,hx,Option.bind_some,Int.ofNat_lt,hi,decide_true,if_true]
 cases x.Man.Name.toList==nm.toList <;> simp
theorem m98 {F:Nat} {l:List aB} {f:aB→Option Bool} (q:aB→Bool) (hF:l.length < F) (hl:l.length < 1000) (hf:∀x∈l,f x=some (q x)):YB F l f=some (n3 l q):=by
 unfold YB
 refine iC q hF (λi x hx hm hi=> ?_) (by unfold yK; simp)
 unfold yK
 rw[f9 (by omega)]
 simp only[bB,hx,hf x hm,Option.bind_some,Int.ofNat_lt,hi,decide_true,if_true]
 cases q x <;> simp
def inP (c:aA) (p:Int) (x:bG):Bool:=gN x.Vol 0 ((c.Vols.length:Int) - 1) && (c.Vols[x.Vol.toNat]?).any λv=>v.Pool==p
def l4 (l:List Int):aA:= { Seq:=0,Snaps:= [],Chunks:= [],Exps:= [],Vols:=l.map λp=> { Pool:=p,Epoch:=0,State:=1,Files:=0}}
theorem m32 {F:Nat} {l:List Int} (hF:1000≤F) (hl:l.length≤100):YV F l=some (l4 l):=by
  unfold YV
  rw[jX (s0:=(([]:List aP),(0:Int))) (n:=l.length) (F:=F) (λi:Nat=>((l.take i).map λp=>({ Pool:=p,Epoch:=0,State:=1,Files:=0}:aP),(i:Int))) (by omega) (by simp) (λi hi=>by
      unfold yV
      have hx:l[i]? =some l[i]:=List.getElem?_eq_getElem hi
      rw[f9 (by omega)]
      simp only[bB,hx,Option.bind_some,Int.ofNat_lt,hi,decide_true,if_true]
      rw[cB (by simp; omega),List.take_succ_eq_append_getElem hi,List.map_append]; rfl) (by unfold yV; simp)]
  simp[l4,after]
def vV (p:Int):Bool:=gN p 0 1
theorem m30 {F:Nat} {l:List Int} (hF:1000≤F) (hl:l.length≤100):VU F l=some (if gN l.length 1 8 then (if l.all vV then (l4 l,0) else (l4 [],1)) else (l4 [],2)):=by
 unfold VU
 rw[QG]
 simp only[Option.bind_some]
 cases h:gN (l.length:Int) 1 8
 ·rfl
 ·simp only[Bool.not_true,Bool.false_eq_true,if_false]
  rw[e8 (s0:=(([]:List aP),(0:Int))) (n:=l.length) (F:=F) (λi:Nat=>((l.take i).map λp=>({ Pool:=p,Epoch:=0,State:=1,Files:=0}:aP),(i:Int))) (λi=>(l[i]?).any λp=> !vV p) (λ_=>(l4 [],1)) (by omega) (by simp) (λi hi _=>by
   unfold yU
   have hx:l[i]? =some l[i]:=List.getElem?_eq_getElem hi
   rw[f9 (by omega)]
   simp only[bB,hx,QG,Option.bind_some,Int.ofNat_lt,hi,decide_true,if_true,Option.any_some,vV]
   cases gN l[i] 0 1
   ·rfl
   ·simp only[Bool.not_true,Bool.false_eq_true,if_false]
    rw[cB (by simp; omega),List.take_succ_eq_append_getElem hi,List.map_append]; rfl) (λ_=>by unfold yU; simp),hX,iA,qF]
  cases l.all vV <;> simp[after,l4]
theorem QN {l:List Int} (hl:l.length≤8) (hg:gL gI l):Sm (l4 l) where
 g:=by
  refine⟨by simp[l4,gI],λ_ h=>by simp[l4] at h,λ_ h=>by simp[l4] at h,λ_ h=>by simp[l4] at h,λx hx=> ?_⟩
  obtain⟨p,hp,rfl⟩:=List.mem_map.1 hx
  exact⟨hg p hp,by simp[gI],by simp[gI],by simp[gI]⟩
 sn:=by simp[l4]
 ch:=by simp[l4]
 ex:=by simp[l4]
 vo:=by simp[l4]; omega
 sl:=by simp[l4]
 man:=by simp[l4]
 cl:=by simp[l4]
 el:=by simp[l4]
theorem J7 {l:List Int} (hl:gN l.length 1 8=true) (hp:l.all vV=true):iB (l4 l)=true:=by
 have h1:(l4 l).Vols.all nE=true:=by
  rw[List.all_eq_true]
  intro x hx
  obtain⟨p,hq,rfl⟩:=List.mem_map.1 hx
  have:=List.all_eq_true.1 hp p hq
  simp only[vV,gN,Bool.and_eq_true,decide_eq_true_eq] at this
  simp[nE,gN,this.1,this.2]
 have h2:(l4 l).Vols.length=l.length:=by simp[l4]
 unfold iB
 rw[h1,h2,hl]
 simp[l4,vI,CZ,AM,gN]
theorem UJ {c:aA} (hg:iB c=true) {i:Nat} {s:aH} (hs:c.Snaps[i]? =some s):D1 c i=true∧OW c s.Man=true:=by
 unfold iB CZ at hg
 simp only[Bool.and_eq_true,Bool.not_eq_true',List.any_eq_false,List.mem_range] at hg
 obtain⟨⟨⟨⟨-, -⟩, -, -⟩,h2, -⟩, -, -⟩:=hg
 have h:=h2 i (List.getElem?_eq_some_iff.1 hs).1
 have h:D1 c i=true∧F0 c i=true:=by simpa using h
 refine⟨h.1, ?_⟩
 have:=h.2
 unfold F0 at this
 rw[hs] at this
 exact this
theorem UK {c:aA} (hg:iB c=true) {i:Nat} {x:aB} (hs:c.Chunks[i]? =some x):IK c i=true:=by
 unfold iB vI at hg
 simp only[Bool.and_eq_true,Bool.not_eq_true',List.any_eq_false,List.mem_range] at hg
 obtain⟨⟨⟨⟨-, -⟩,h1, -⟩, -, -⟩, -, -⟩:=hg
 have h:=h1 i (List.getElem?_eq_some_iff.1 hs).1
 simpa using h
theorem J8 {c:aA} (hg:iB c=true):c.Vols.all nE=true:=by
 unfold iB at hg
 simp only[Bool.and_eq_true] at hg
 exact hg.1.1.1.2.1
theorem VV {c:aA} (hg:iB c=true) {l:List bG} (hl:h9 c l=true) (hne:l≠ []):l.any (inP c 0)=true∨l.any (inP c 1)=true:=by
 cases l with
 | nil=>exact absurd rfl hne
 | cons x l=>
  obtain⟨h1,h2⟩:=QM hl x (by simp)
  have hv:c.Vols[x.Vol.toNat]? =some c.Vols[x.Vol.toNat]:=List.getElem?_eq_getElem h2
  have hb:=List.all_eq_true.1 (J8 hg) _ (List.getElem_mem h2)
  unfold nE gN at hb
  simp only[Bool.and_eq_true,decide_eq_true_eq] at hb
  have hr:gN x.Vol 0 ((c.Vols.length:Int) - 1)=true:=by
   simp only[gN,Bool.and_eq_true,decide_eq_true_eq]; omega
  have:c.Vols[x.Vol.toNat].Pool=0∨c.Vols[x.Vol.toNat].Pool=1:=by omega
  rcases this with e | e
  ·left; simp only[List.any_cons,inP,hr,hv,Option.any_some,e]; simp
  ·right; simp only[List.any_cons,inP,hr,hv,Option.any_some,e]; simp
open Go.Vm
structure Rng (c:aA):Prop where
 seq:0≤c.Seq∧c.Seq≤1073741824
 sn:c.Snaps.length≤8
 ch:c.Chunks.length≤200
 ex:c.Exps.length≤200
 vo:c.Vols.length≤8
 s:∀s∈c.Snaps,0≤s.Seq∧s.Seq < c.Seq∧vJ s.Man=true∧h9 c s.Locs=true
 k:∀x∈c.Chunks,x.Data.length≤64∧h9 c x.Locs=true
 e:∀x∈c.Exps,0≤x.Seq∧x.Seq < c.Seq∧0≤x.Of∧x.Of < c.Seq∧h9 c x.Locs=true
 v:∀x∈c.Vols,0≤x.Pool∧x.Pool≤1∧0≤x.Epoch∧x.Epoch≤1048576∧1≤x.State∧x.State≤3∧0≤x.Files∧x.Files≤65535
theorem rng {c:aA} (hg:iB c=true):Rng c:=by
 obtain⟨q1,q2,q3⟩:=J6 hg
 have hg0:=hg
 unfold iB at hg0
 simp only[Bool.and_eq_true,gN,decide_eq_true_eq] at hg0
 obtain⟨⟨⟨⟨g1,g2,g3⟩,g4,g5⟩,g6,g7⟩,g8,g9⟩:=hg0
 refine⟨g1,g7,g5,g9,by omega,λs hs=> ?_,λx hx=>⟨?_,q1 x hx⟩,λx hx=> ?_,λx hx=> ?_⟩
 ·obtain⟨i,hi,rfl⟩:=List.getElem_of_mem hs
  have:=(UJ hg (List.getElem?_eq_getElem hi)).1
  unfold D1 at this
  rw[List.getElem?_eq_getElem hi] at this
  simp only[Bool.and_eq_true,gN,decide_eq_true_eq] at this
  obtain⟨⟨⟨⟨h1,h2⟩,h3⟩,h4⟩,h5⟩:=this
  exact⟨h1.1,by omega,h4,h5⟩
 ·obtain⟨i,hi,rfl⟩:=List.getElem_of_mem hx
  have:=UK hg (List.getElem?_eq_getElem hi)
  unfold IK at this
  rw[List.getElem?_eq_getElem hi] at this
  simp only[Bool.and_eq_true] at this
  have:=this.2
  split at this
  ·simp only[gN,Bool.and_eq_true,decide_eq_true_eq] at this; omega
  ·simp only[Bool.and_eq_true,Bool.not_eq_true',decide_eq_false_iff_not] at this; omega
 ·obtain⟨i,hi,rfl⟩:=List.getElem_of_mem hx
  unfold AM at g8
  simp only[Bool.not_eq_true',List.any_eq_false,List.mem_range] at g8
  have:=g8 i hi
  have this:z8 c i=true∧J4 c i=true:=by simpa using this
  have:=this.1
  unfold z8 at this
  rw[List.getElem?_eq_getElem hi] at this
  simp only[Bool.and_eq_true,gN,decide_eq_true_eq] at this
  obtain⟨⟨⟨⟨h1,h2⟩,h3⟩,h4⟩,h5⟩:=this
  exact⟨h1.1,by omega,h3.1,by omega,h5⟩
 ·have hb:=List.all_eq_true.1 g2 x hx
  unfold nE gN at hb
  simp only[Bool.and_eq_true,Bool.or_eq_true,decide_eq_true_eq,beq_iff_eq] at hb
  omega
theorem i1:((1:Nat):Int)=1:=rfl
theorem i2:((2:Nat):Int)=2:=rfl
theorem i4:((4:Nat):Int)=4:=rfl
open Go.Vm
theorem MX {α:Type} {R:α→α→Prop} (tr:∀a b c,R a b→R b c→R a c):∀ {l:List α},(∀(i:Nat) (x y:α),l[i]? =some y→l[i+1]? =some x→R y x)→l.Pairwise R
 | [],_=>.nil
 | [a],_=>List.pairwise_singleton _ _
 | a::b::t,h=>by
  have ih:(b::t).Pairwise R:=MX tr λi x y h1 h2=>h (i+1) x y (by simpa using h1) (by simpa using h2)
  have ab:R a b:=h 0 b a rfl rfl
  refine List.pairwise_cons.2 ⟨λz hz=> ?_,ih⟩
  rcases List.mem_cons.1 hz with rfl | hz
  ·exact ab
  ·exact tr _ _ _ ab ((List.pairwise_cons.1 ih).1 z hz)
theorem UL {α:Type} {R:α→α→Prop} {l:List α} (h:l.Pairwise R) {i:Nat} {x y:α} (hy:l[i]? =some y) (hx:l[i+1]? =some x):R y x:=by
 obtain⟨h1,e1⟩:=List.getElem?_eq_some_iff.1 hy
 obtain⟨h2,e2⟩:=List.getElem?_eq_some_iff.1 hx
 have:=List.pairwise_iff_getElem.1 h i (i+1) h1 h2 (by omega)
 rwa [e1,e2] at this
theorem pX {α:Type} {q:α→α→Bool} (tr:∀a b c,q b a=true→q c b=true→q c a=true) (l:List α):
    (∀(i:Nat) (x:α),l[i]? =some x→(i==0 || ((l[i - 1]?).all (q x)))=true)↔l.Pairwise λy x=>q x y=true:=by
  constructor
  · intro h
    refine MX (λa b c h1 h2=>tr a b c h1 h2) λi x y hy hx=> ?_
    have:=h (i+1) x hx
    simpa [hy] using this
  · intro h i x hx
    cases i with
    | zero=>rfl
    | succ i=>
      obtain⟨h1,e1⟩:=List.getElem?_eq_some_iff.1 hx
      have hy:l[i]? =some l[i]:=List.getElem?_eq_getElem (by omega)
      have:=UL h hy hx
      simp[hy,this]
theorem C0 (a b:bG):kA a b=true↔b.Vol < a.Vol∨(a.Vol=b.Vol∧(b.File < a.File∨(a.File=b.File∧b.Off < a.Off))):=by
 unfold kA
 by_cases e1:a.Vol=b.Vol <;> by_cases f1:a.File=b.File <;> simp[e1,f1]
theorem C1 (a b c:bG) (h1:kA b a=true) (h2:kA c b=true):kA c a=true:=by
 rw[C0] at*
 omega
def E6 (vs:List aP) (x:bG):Bool:=gN x.Vol 0 ((vs.length:Int) - 1) && (match vs[x.Vol.toNat]? with | none=>false | some v=>v.State==2 && gN x.File 1 v.Files) && gN x.Off 0 16777215 && gN x.Len 13 8013
structure Lk (vs:List aP) (l:List bG):Prop where
 n:l.length≤200
 a:∀x∈l,E6 vs x=true
 o:l.Pairwise λy x=>kA x y=true
theorem m9 {α:Type} {l:List α} {P:α→Prop}:(∀x∈l,P x)↔∀(i:Nat) (x:α),l[i]? =some x→P x:=by
 constructor
 ·exact λh i x hx=>h x (List.mem_of_getElem? hx)
 ·intro h x hx
  obtain⟨i,hi,rfl⟩:=List.getElem_of_mem hx
  exact h i _ (List.getElem?_eq_getElem hi)
theorem oR {α:Type} {l:List α} {q:Nat→Bool} {P:Nat→α→Prop} (h:∀(i:Nat) (x:α),l[i]? =some x→(q i=true↔P i x)):(!(List.range l.length).any λi=> !q i)=true↔∀(i:Nat) (x:α),l[i]? =some x→P i x:=by
 simp only[Bool.not_eq_true',List.any_eq_false,List.mem_range,Bool.not_eq_true,Bool.not_eq_false']
 constructor
 ·intro k i x hx
  exact(h i x hx).1 (by simpa using k i (List.getElem?_eq_some_iff.1 hx).1)
 ·intro k i hi
  have:=(h i _ (List.getElem?_eq_getElem hi)).2 (k i _ (List.getElem?_eq_getElem hi))
  simpa using this
theorem n4 {c:aA} {l:List bG}:h9 c l=true↔Lk c.Vols l:=by
 unfold h9
 rw[Bool.and_eq_true,oR (P:=λi x=>E6 c.Vols x=true∧(i==0 || ((l[i - 1]?).all (kA x)))=true) (λi x hx=>by
  unfold EY E6
  rw[hx]
  cases l[i - 1]? <;> simp only[Bool.and_eq_true,Option.all_none,Option.all_some] <;> exact Iff.rfl)]
 constructor
 ·rintro⟨h1,h2⟩
  exact⟨of_decide_eq_true h1,m9.2 λi x hx=>(h2 i x hx).1,(pX C1 l).1 λi x hx=>(h2 i x hx).2⟩
 ·intro h
  exact⟨decide_eq_true h.n,λi x hx=>⟨h.a x (List.mem_of_getElem? hx),(pX C1 l).2 h.o i x hx⟩⟩
structure Gd (c:aA):Prop where
 q:gN c.Seq 0 1073741824=true
 v:∀v∈c.Vols,nE v=true
 vn:gN c.Vols.length 1 8=true
 cn:c.Chunks.length≤200
 co:c.Chunks.Pairwise λy x=>ky y.Id < ky x.Id
 cl:∀x∈c.Chunks,Lk c.Vols x.Locs
 cs:∀x∈c.Chunks,if x.Staged=true then gN x.Data.length 1 64=true else x.Data= []∧x.Locs≠ []
 sn:c.Snaps.length≤8
 so:c.Snaps.Pairwise λy x=>y.Seq < x.Seq
 sq:∀s∈c.Snaps,gN s.Seq 0 (c.Seq - 1)=true
 sm:c.Snaps.Pairwise λy x=>(x.Man.Name==y.Man.Name)=false
 sb:∀s∈c.Snaps,vJ s.Man=true
 sl:∀s∈c.Snaps,Lk c.Vols s.Locs
 sp:∀s∈c.Snaps,OW c s.Man=true
 en:c.Exps.length≤200
 eo:c.Exps.Pairwise λy x=>y.Seq < x.Seq
 eq:∀x∈c.Exps,gN x.Seq 0 (c.Seq - 1)=true∧gN x.Of 0 (x.Seq - 1)=true
 el:∀x∈c.Exps,Lk c.Vols x.Locs
 ee:∀x∈c.Exps,x.Locs≠ []
 ex:∀x∈c.Exps,∀s∈c.Snaps,s.Seq≠x.Of
theorem IM {β:Type} {f:β→β→Bool} (l:List β):(∀(i:Nat) (x:β),l[i]? =some x→(!((l.take i).any λy=>f x y))=true)↔l.Pairwise λy x=>f x y=false:=by
 rw[List.pairwise_iff_getElem]
 constructor
 ·intro h i j hi hj hij
  have:=h j _ (List.getElem?_eq_getElem hj)
  simp only[Bool.not_eq_true',List.any_eq_false,Bool.not_eq_true] at this
  exact this l[i] (List.mem_of_getElem? (i:=i) (by rw[List.getElem?_take_of_lt hij]; exact List.getElem?_eq_getElem hi))
 ·intro h j x hx
  obtain⟨hj,rfl⟩:=List.getElem?_eq_some_iff.1 hx
  simp only[Bool.not_eq_true',List.any_eq_false,Bool.not_eq_true]
  intro y hy
  obtain⟨i,hi,rfl⟩:=List.getElem_of_mem hy
  simp only[List.length_take] at hi
  rw[List.getElem_take]
  exact h i j (by omega) hj (by omega)
theorem jV {c:aA}:iB c=true↔Gd c:=by
  have trS:∀a b d:aH,decide (a.Seq < b.Seq)=true→decide (b.Seq < d.Seq)=true→decide (a.Seq < d.Seq)=true:=λa b d h1 h2=>decide_eq_true (by have:=of_decide_eq_true h1; have:=of_decide_eq_true h2; omega)
  have trE:∀a b d:aQ,decide (a.Seq < b.Seq)=true→decide (b.Seq < d.Seq)=true→decide (a.Seq < d.Seq)=true:=λa b d h1 h2=>decide_eq_true (by have:=of_decide_eq_true h1; have:=of_decide_eq_true h2; omega)
  have trC:∀a b d:aB,decide (ky a.Id < ky b.Id)=true→decide (ky b.Id < ky d.Id)=true→decide (ky a.Id < ky d.Id)=true:=λa b d h1 h2=>decide_eq_true (by have:=of_decide_eq_true h1; have:=of_decide_eq_true h2; omega)
  unfold iB vI CZ AM
  simp only[Bool.and_eq_true]
  rw[oR (l:=c.Chunks) (P:=λi x=>((i==0 || ((c.Chunks[i - 1]?).all λy=>decide (ky y.Id < ky x.Id)))=true∧h9 c x.Locs=true)∧(if x.Staged then gN x.Data.length 1 64 else (!decide (0 < x.Data.length) && !(x.Locs.length==0)))=true) (λi x hx=>by
      unfold IK; rw[hx]; cases c.Chunks[i - 1]? <;> simp only[Bool.and_eq_true,Option.all_none,Option.all_some] <;> exact Iff.rfl),
    oR (l:=c.Snaps) (P:=λi s=>((((gN s.Seq 0 (c.Seq - 1)=true∧(i==0 || ((c.Snaps[i - 1]?).all λy=>decide (y.Seq < s.Seq)))=true)∧(!((c.Snaps.take i).any λy=>s.Man.Name==y.Man.Name))=true)∧vJ s.Man=true)∧h9 c s.Locs=true)∧OW c s.Man=true) (λi x hx=>by
      unfold D1 F0; rw[hx]; cases c.Snaps[i - 1]? <;> simp only[Bool.and_eq_true,Option.all_none,Option.all_some] <;> exact Iff.rfl),
    oR (l:=c.Exps) (P:=λi x=>((((gN x.Seq 0 (c.Seq - 1)=true∧(i==0 || ((c.Exps[i - 1]?).all λy=>decide (y.Seq < x.Seq)))=true)∧gN x.Of 0 (x.Seq - 1)=true)∧(!(x.Locs.length==0))=true)∧h9 c x.Locs=true)∧(!c.Snaps.any λs=>s.Seq==x.Of)=true) (λi x hx=>by
      unfold z8 J4; rw[hx]; cases c.Exps[i - 1]? <;> simp only[Bool.and_eq_true,Option.all_none,Option.all_some] <;> exact Iff.rfl)]
  constructor
  · rintro⟨⟨⟨⟨h1,h2,h3⟩,hc,h4⟩,hs,h5⟩,he,h6⟩
    refine⟨h1,List.all_eq_true.1 h2,h3,of_decide_eq_true h4, ?_,m9.2 λi x hx=>n4.1 (hc i x hx).1.2,m9.2 λi x hx=> ?_,of_decide_eq_true h5, ?_,m9.2 λi x hx=>(hs i x hx).1.1.1.1.1,(IM (f:=λs y:aH=>s.Man.Name==y.Man.Name) c.Snaps).1 λi x hx=>(hs i x hx).1.1.1.2,m9.2 λi x hx=>(hs i x hx).1.1.2,m9.2 λi x hx=>n4.1 (hs i x hx).1.2,m9.2 λi x hx=>(hs i x hx).2,of_decide_eq_true h6, ?_,m9.2 λi x hx=>⟨(he i x hx).1.1.1.1.1,(he i x hx).1.1.1.2⟩,m9.2 λi x hx=>n4.1 (he i x hx).1.2,m9.2 λi x hx=> ?_,m9.2 λi x hx=> ?_⟩
    · exact((pX (q:=λx y:aB=>decide (ky y.Id < ky x.Id)) trC c.Chunks).1 λi x hx=>(hc i x hx).1.1).imp λh=>of_decide_eq_true h
    · have:=(hc i x hx).2
      cases hst:x.Staged <;> rw[hst] at this
      · simp only[Bool.false_eq_true,if_false,Bool.and_eq_true] at this ⊢
        obtain⟨t1,t2⟩:=this
        refine⟨?_, ?_⟩
        · cases hd:x.Data with
          | nil=>rfl
          | cons a b=>rw[hd] at t1; simp at t1
        · intro e; rw[e] at t2; simp at t2
      · simpa using this
    · exact((pX (q:=λx y:aH=>decide (y.Seq < x.Seq)) trS c.Snaps).1 λi x hx=>(hs i x hx).1.1.1.1.2).imp λh=>of_decide_eq_true h
    · exact((pX (q:=λx y:aQ=>decide (y.Seq < x.Seq)) trE c.Exps).1 λi x hx=>(he i x hx).1.1.1.1.2).imp λh=>of_decide_eq_true h
    · intro e
      have:=(he i x hx).1.1.2
      rw[e] at this
      simp at this
    · have:=(he i x hx).2
      simp only[Bool.not_eq_true',List.any_eq_false,beq_iff_eq] at this
      exact this
  · intro h
    refine⟨⟨⟨⟨h.q,List.all_eq_true.2 h.v,h.vn⟩,λi x hx=> ?_,decide_eq_true h.cn⟩,λi x hx=> ?_,decide_eq_true h.sn⟩,λi x hx=> ?_,decide_eq_true h.en⟩
    · have hm:=List.mem_of_getElem? hx
      refine⟨⟨(pX (q:=λx y:aB=>decide (ky y.Id < ky x.Id)) trC c.Chunks).2 (h.co.imp λh=>decide_eq_true h) i x hx,n4.2 (h.cl x hm)⟩, ?_⟩
      have:=h.cs x hm
      cases hst:x.Staged <;> rw[hst] at this
      · simp only[Bool.false_eq_true,if_false] at this ⊢
        obtain⟨t1,t2⟩:=this
        rw[t1]
        simp[t2]
      · simpa using this
    · have hm:=List.mem_of_getElem? hx
      exact⟨⟨⟨⟨⟨h.sq x hm,(pX (q:=λx y:aH=>decide (y.Seq < x.Seq)) trS c.Snaps).2 (h.so.imp λh=>decide_eq_true h) i x hx⟩,(IM (f:=λs y:aH=>s.Man.Name==y.Man.Name) c.Snaps).2 h.sm i x hx⟩,h.sb x hm⟩,n4.2 (h.sl x hm)⟩,h.sp x hm⟩
    · have hm:=List.mem_of_getElem? hx
      refine⟨⟨⟨⟨⟨(h.eq x hm).1,(pX (q:=λx y:aQ=>decide (y.Seq < x.Seq)) trE c.Exps).2 (h.eo.imp λh=>decide_eq_true h) i x hx⟩,(h.eq x hm).2⟩,by simp[h.ee x hm]⟩,n4.2 (h.el x hm)⟩, ?_⟩
      simp only[Bool.not_eq_true',List.any_eq_false,beq_iff_eq]
      exact h.ex x hm
open Go.Vm
def E7 (m:Nat) (p0:List bG):Option (List bG):=app [] p0
theorem UM {w:Nat} {p0:List bG} {o:List bG} (h:aF) (m:E7 w p0=some o):
 aL Tryz.prog 67 [.sl none 4 (List.map aO p0)] h (λr h'=>∃g:cU,bK g 4 o.length∧bV h [(g.t,.obj 81 (fl aO o g.sp))]∧r=aZ g∧h'=hp h [(g.t,.obj 81 (fl aO o g.sp))]):=by
 refine jL 8 [.tmp 2] Tryz.func67 rfl rfl rfl rfl ?_
 unfold E7 at m
 refine gY λK1 H1=>eI (rT (iI (.sc (.slice _ _ _)) rfl) (fS (H1 _ _ (gY λK1 H1=>gY λK2 H2=>eI (vE rfl (lN (kF rfl (by rw[jU]; rfl) (by rw[bN]; exact rfl) (.inl ⟨_,_,_,rfl,λb hb=> ?_⟩))))))))
 refine fS (H2 _ _ (nM rfl (λhc=> ?_) (λhc=> ?_)))
 have h0:p0= []:=by
   cases p0 with
   | nil=>rfl
   | cons x l=>have:=hb (by simp); rw[this] at hc; cases hc
 subst h0
 obtain⟨rfl, -⟩:=jE m
 exact gY λK1 H1=>eI (rT (iI (.sc (.slice _ _ _)) rfl) (fS (H1 _ _ (iU (dX.one (.inl rfl) (iG.refl _) (fY _) ⟨g0,bK.g0 _,bV.none (bV.nil _),rfl,rfl⟩)))))
 exact mF (H1 _ _ (gY λK1 H1=>eI (lN (qD (c:=aO) (bV.nil _) pC λu=>vE rfl (lN (gD (c:=aO) 0 m pC rfl ES rfl eQ rfl rfl (bK.g0 _) u rfl λg ok u=>rT (iI (aw _ _ _) rfl) (fS (H1 _ _ (iU (dX.one (.inl rfl) (iG.refl _) (bJ.refl _ _) ⟨g,ok,u,rfl,rfl⟩))))))))))
theorem UN:aN Tryz.prog 67=true:=by kernel_rfl
def pY (m:Nat) (p0:List bG) (p1:bG→Option Bool) (q0:Int):Option (Lp (Int) (Int)):=
 if (decide (q0 < (p0.length:Int)))=true then ((ix p0 q0).bind λx0=>(p1 x0).bind λy0=>if y0=true then (some (.ret q0)) else some (.go (IntKind.wrap .i64 (q0+1)))) else some (.brk q0)
def E8 (m:Nat) (p0:List bG) (p1:bG→Option Bool):Option (Int):=
 after (aT (λs=>pY m p0 p1 s) m 0) λr0=>some (-1)
theorem YX {w:Nat} {p0:List bG} {p1:bG→Option Bool} {o:Int} (h:aF) {g_p0:cU} (ok_p0:bK g_p0 4 p0.length) (K0:bV h [(eG g_p0 p0)]) {p1F:Nat} {p1C:List AV} (p1B:aN Tryz.prog p1F=true) (p1H:∀x0 o h0,iG h h0→p1 x0=some o→aL Tryz.prog p1F ([.agg (aO x0)]++p1C) h0 (λr h'=>r= .sc (.bool o)∧h'=h0)) (m:E8 w p0 p1=some o):
 aL Tryz.prog 108 [aZ g_p0,.fn (.func p1F) p1C] (hp h [(eG g_p0 p0)]) (λr h'=>r=nZ o∧h'=hp h [(eG g_p0 p0)]):=by
 refine uE K0 19 [.tmp 4] Tryz.func108 rfl rfl rfl rfl ?_
 unfold E8 at m
 refine vs (v0 (vs (vs (v0 (bW (dQ i9 ok_p0 rfl) (jN m (σ:=Int) (λs=> [(eG g_p0 p0)]) (λs=>.c 0 (aZ g_p0) (.c 1 (.fn (.func p1F) p1C) (.c 7 (nZ (p0.length:Int)) (.c 8 (nZ s) .nil)))) (lx (.k4 .nil)) ?_ ?_))))))
 rintro _ q0 x m
 replace m:pY w p0 p1 q0=some x:=m
 unfold pY at m
 refine vs (v0 (vs (v0 ?_)))
 apply vi m <;> intro c0 m
 refine v0 (vs (v0 (vs (v0 (vs (v0 ?_))))))
 obtain⟨x1,X0,m⟩:=aC m
 refine bW (cP X0 jU ok_p0 rfl rfl) (vn (λu=>dW (fo:=0) (.agg (aO x1)) X0 eQ ok_p0 m8 rfl (aI 0 u rfl) (λ_=>rfl)) ?_)
 obtain⟨_,Y0,m⟩:=aC m
 refine vn (λu=>cC (p1H _ _ _ (aS (List.nil_sublist _) u).1 Y0) rfl p1B rfl) (v0 ?_)
 apply vi m <;> intro c1 m
 refine vs (v0 (v0 (fZ m λm=> ?_)))
 obtain rfl:=eE m
 exact vr λu=>dX.of1 (.inl rfl) (fT _ _ (.sc (.int _ _)) rfl) (bI u [0] rfl).2 (bJ.refl _ _) ⟨rfl,rfl⟩
 exact v0 (v0 (f8 m))
 exact v0 (wS m)
 rintro _ r0 m
 refine vs (v0 (v0 ?_))
 cases m
 exact vr λu=>dX.of1 (.inl rfl) (fT _ _ (.sc (.int _ _)) rfl) (bI u [0] rfl).2 (bJ.refl _ _) ⟨rfl,rfl⟩
def qG (m:Nat) (p1:bG→Option Bool) (q0:List bG) (q1:Int) (q2:Int):Option (Lp ((List bG)×Int×Int) ((List bG))):=
 if (decide (q2 < (q0.length:Int)))=true then ((ix q0 q2).bind λx0=>(p1 x0).bind λy0=>after (if (!y0)=true then ((ix q0 q1).bind λ_=>some (.brk (q0.set q1.toNat (x0),IntKind.wrap .i64 (q1+1)))) else some (.brk (q0,q1)):Option (Lp ((List bG)×Int) (Lp ((List bG)×Int×Int) ((List bG))))) λ⟨j0,j1⟩=>some (.go (j0,j1,IntKind.wrap .i64 (q2+1)))) else some (.brk (q0,q1,q2))
def MY (m:Nat) (p0:List bG) (p1:bG→Option Bool):Option ((List bG)):=
 (E8 m p0 p1).bind λy3=>if (y3==(-1))=true then (some p0) else after (aT (λs=>qG m p1 s.1 s.2.1 s.2.2) m (p0,y3,IntKind.wrap .i64 (y3+1))) λ⟨r0,r1,r2⟩=>grd (decide (0≤r1) && decide (r1 < (r0.length:Int))) <| grd (decide (0≤r1) && decide (r1≤(r0.length:Int))) <| some (r0.take r1.toNat)
theorem aE7 {w:Nat} {p0:List bG} {p1:bG→Option Bool} {o:(List bG)} (h:aF) {g_p0:cU} (ok_p0:bK g_p0 4 p0.length) (K0:bV h [(eG g_p0 p0)]) {p1F:Nat} {p1C:List AV} (p1B:aN Tryz.prog p1F=true) (p1H:∀x0 o h0,iG h h0→p1 x0=some o→aL Tryz.prog p1F ([.agg (aO x0)]++p1C) h0 (λr h'=>r= .sc (.bool o)∧h'=h0)) (m:MY w p0 p1=some o):
 aL Tryz.prog 66 [aZ g_p0,.fn (.func p1F) p1C] (hp h [(eG g_p0 p0)]) (λr h'=>∃g:cU,bK g 4 o.length∧bV h [(g.t,.obj 81 (fl aO o g.sp))]∧r=aZ g∧h'=hp h [(g.t,.obj 81 (fl aO o g.sp))]):=by
 refine uE K0 42 [.tmp 4] Tryz.func66 rfl rfl rfl rfl ?_
 unfold MY at m
 refine vs (v0 (vs (v0 ?_)))
 obtain⟨_,Y4,m⟩:=aC m
 refine ve λu=>dC ((bE u [0] rfl rfl).1.trans (cW h [(eG g_p0 p0)] []).symm) (cM (YX (hp h []) ok_p0 (cL [(eG g_p0 p0)] [] (bE u [0] rfl rfl).2).2 p1B (λx0 o h0 hs ho=>p1H x0 o h0 ((aS (List.nil_sublist _) (cL [(eG g_p0 p0)] [] (bE u [0] rfl rfl).2).1).1.trans hs) ho) Y4) rfl XY rfl ?_)
 rintro x h' ⟨rfl,rfl⟩
 refine qk u ((cW h [(eG g_p0 p0)] []).trans (bE u [0] rfl rfl).1.symm) (vs (vs (v0 (v0 ?_))))
 apply vi m <;> intro c7 m
 refine vs (v0 (v0 ?_))
 obtain rfl:=eE m
 exact vr λu=>dX.one (.inl rfl) (aS (h0:=h) (L':= [(eG g_p0 p0)]) (.refl _) u).1 (bJ.refl _ _) ⟨g_p0,ok_p0,(aS (h0:=h) (L':= [(eG g_p0 p0)]) (.refl _) u).2,rfl,rfl⟩
 refine v0 (vs (vs (v0 (nP m (σ:=(List bG)×Int×Int) (τ:=cU) (λg s=> [(eG g s.1)]) (λg s=>bK g 4 (s.1:List bG).length) (λg s=>.c 0 (aZ g) (.c 1 (.fn (.func p1F) p1C) (.c 5 (nZ s.2.1) (.c 6 (nZ s.2.2) .nil)))) g_p0 ok_p0 (lx (.k4 .nil)) ?_ ?_))))
 rintro ag0 ⟨q0,q1,q2⟩ x O0 m
 replace m:qG w p1 q0 q1 q2=some x:=m
 unfold qG at m
 refine vs (vs (v0 (bW (dQ i9 O0 rfl) (v0 ?_))))
 apply vi m <;> intro c0 m
 refine v0 (vs (v0 (vs (v0 ?_))))
 obtain⟨x1,X0,m⟩:=aC m
 refine bW (cP X0 jU O0 rfl rfl) (vn (λu=>dW (fo:=0) (.agg (aO x1)) X0 eQ O0 m8 rfl (aI 0 u rfl) (λ_=>rfl)) (ve λu=>bH (I9) u ES rfl rfl λk86 K1=>qk K1 rfl (ve λu=>aK 0 (aO x1) u rfl rfl rfl rfl L6 rfl rfl λK2=>qk K2 rfl (vs (v0 (vl 0 (.agg (aO x1)) m8 rfl rfl rfl ?_))))))
 obtain⟨_,Y0,m⟩:=aC m
 refine vn (λu=>cC (p1H _ _ _ (aS (List.nil_sublist _) u).1 Y0) rfl p1B rfl) (pJ m (σ:=(List bG)×Int) (τ:=cU) (λg s=> [(some k86,.obj 81 (aO x1)),(eG g s.1)]) (λg s=>bK g 4 (s.1:List bG).length) (λg s=>.c 0 (aZ g) (.c 1 (.fn (.func p1F) p1C) (.c 5 (nZ s.2) (.c 6 (nZ q2) .nil)))) (λx m=> ?_) ?_)
 refine v0 ?_
 apply vi m <;> intro c1 m
 refine vs (v0 (vl 0 (.agg (aO x1)) m8 rfl rfl rfl ?_))
 obtain⟨_,X1,m⟩:=aC m
 exact bW (cP X1 jU O0 rfl rfl) (ve λu=>cK (fo:=0) (x1:bG) 1 u X1 eQ O0 rfl rfl rfl rfl (cX.refl _ _) L6 rfl rfl λK3=>qk K3 rfl (v0 (eW m ag0 (bK.set O0) (lx (.k4 .nil)))))
 exact v0 (eW m ag0 O0 (lx (.k4 .nil)))
 rintro ag1 ⟨j0,j1⟩ O1 m
 exact v0 (eW m ag1 O1 (lJ [1] rfl rfl (.k4 .nil)))
 exact v0 (lK m ag0 O0 (lx (.k4 .nil)))
 rintro ag2 ⟨r0,r1,r2⟩ t0 m
 refine vs (v0 ?_)
 obtain⟨Z0,m⟩:=m0 m
 refine bW (CL Z0 jU t0 rfl rfl) (ve λu=>BA 0 u Z0 eQ t0 u42 ES rfl rfl rfl rfl λsp0 O2 K4=>qk K4 rfl (vs (v0 ?_)))
 obtain⟨Z1,m⟩:=m0 m
 refine bW (CM Z1 t0 jU rfl rfl) (v0 ?_)
 cases m
 exact vr λu=>dX.one (.inl rfl) (aS (h0:=h) (L':= [((⟨ag2.t,r1.toNat,ag2.cap,sp0⟩:cU).t,.obj 81 (fl aO (r0.take r1.toNat:List bG) (⟨ag2.t,r1.toNat,ag2.cap,sp0⟩:cU).sp))]) (.refl _) u).1 (bJ.refl _ _) ⟨(⟨ag2.t,r1.toNat,ag2.cap,sp0⟩:cU),O2,(aS (h0:=h) (L':= [((⟨ag2.t,r1.toNat,ag2.cap,sp0⟩:cU).t,.obj 81 (fl aO (r0.take r1.toNat:List bG) (⟨ag2.t,r1.toNat,ag2.cap,sp0⟩:cU).sp))]) (.refl _) u).2,rfl,rfl⟩
theorem aE8:aN Tryz.prog 66=true:=by kernel_rfl
open Go.Vm
theorem gH {α:Type} {l:List α} {q:α→Bool} (h:l.any q=true):∃(i:Nat) (x:α),n3 l q=(i:Int)∧l[i]? =some x∧q x=true∧∀y∈l.take i,q y=false:=by
 unfold n3
 cases e:(List.range l.length).find? λi=>(l[i]?).any q with
 | none=>
  exfalso
  obtain⟨x,hx,hq⟩:=List.any_eq_true.1 h
  obtain⟨i,hi,rfl⟩:=List.getElem_of_mem hx
  have:=List.find?_eq_none.1 e i (List.mem_range.2 hi)
  simp[hi,hq] at this
 | some i=>
  obtain⟨h1,h2,h3⟩:=List.find?_range_eq_some.1 e
  cases e2:l[i]? with
  | none=>rw[e2] at h1; cases h1
  | some x=>
   refine⟨i,x,rfl,e2,by rw[e2] at h1; simpa using h1,λy hy=> ?_⟩
   obtain⟨j,hj,rfl⟩:=List.getElem_of_mem hy
   rw[List.length_take] at hj
   have h4:=h3 j (by omega)
   have:l[j]? =some l[j]:=List.getElem?_eq_getElem (by omega)
   rw[this] at h4
   rw[List.getElem_take]
   simpa using h4
theorem gP {α:Type} {l:List α} {q:α→Bool} (h:l.any q=false):n3 l q= -1:=by
 unfold n3
 have:(List.range l.length).find? (λi=>(l[i]?).any q)=none:=by
  rw[List.find?_eq_none]
  intro i hi
  have hi:=List.mem_range.1 hi
  rw[List.getElem?_eq_getElem hi]
  have:=List.any_eq_false.1 h l[i] (List.getElem_mem hi)
  simpa using this
 rw[this]
theorem tA {α ρ:Type} {l:List α} {q:α→Bool} {F:Nat} {body:List α×Int×Int→Option (Lp (List α×Int×Int) ρ)} {i0:Nat} {x0:α} (hF:l.length < F) (h0:l[i0]? =some x0) (hq:q x0=true) (hn:∀y∈l.take i0,q y=false)
    (hb:∀(cur:List α) (w r:Nat) (x:α),cur.length=l.length→w < r→r < l.length→cur[r]? =some x→x∈l→body (cur,(w:Int),(r:Int))=some (.go (if q x then (cur,(w:Int),((r+1:Nat):Int)) else (cur.set w x,((w+1:Nat):Int),((r+1:Nat):Int)))))
    (he:∀(cur:List α) (w:Nat),cur.length=l.length→body (cur,(w:Int),(l.length:Int))=some (.brk (cur,(w:Int),(l.length:Int)))):
    ∃(cur:List α) (w:Nat),aT body F (l,(i0:Int),((i0+1:Nat):Int))=some (.brk (cur,(w:Int),(l.length:Int)))∧w < l.length∧cur.length=l.length∧cur.take w=l.filter λx=> !q x:=by
  have hi0:=(List.getElem?_eq_some_iff.1 h0).1
  have hx0:=(List.getElem?_eq_some_iff.1 h0).2
  obtain⟨s,⟨cur,w,e1,e2,e3,e4,e5⟩,h3⟩:=pW (body:=body) (I:=λk s=>∃(cur:List α) (w:Nat),s=(cur,(w:Int),(k:Int))∧w < k∧cur.length=l.length∧cur.take w=((l.take k).filter λx=> !q x)∧cur.drop k=l.drop k) (n:=l.length) (λk s hk hI=>by
    obtain⟨cur,w,rfl,i2,i3,i4,i5⟩:=hI
    have hx:cur[k]? =l[k]? :=by
      have:=congrArg (λz=>z[0]?) i5
      simpa [List.getElem?_drop] using this
    have hlk:l[k]? =some l[k]:=List.getElem?_eq_getElem hk
    rw[hlk] at hx
    have htk:=List.take_succ_eq_append_getElem hk
    have hmem:=List.getElem_mem hk
    generalize l[k]=x at hx htk hmem
    have hd:cur.drop (k+1)=l.drop (k+1):=by
      have:=congrArg (List.drop 1) i5
      simpa [List.drop_drop,Nat.add_comm] using this
    refine⟨_,hb cur w k x i3 i2 hk hx hmem, ?_⟩
    cases hqx:q x
    · refine⟨cur.set w x,w+1,by simp,by omega,by simpa using i3, ?_, ?_⟩
      · rw[htk,List.filter_append,← i4]
        have hw:w < (cur.set w x).length:=by rw[List.length_set]; omega
        rw[List.take_succ_eq_append_getElem hw,List.getElem_set_self,List.take_set_of_le (Nat.le_refl _)]
        simp[List.filter,hqx]
      · rw[List.drop_set_of_lt (by omega)]
        exact hd
    · refine⟨cur,w,by simp,by omega,i3, ?_,hd⟩
      rw[htk,List.filter_append,← i4]
      simp[List.filter,hqx]) (λs hI=>by
    obtain⟨cur,w,rfl,i2,i3, -⟩:=hI
    exact he cur w i3) F (i0+1) (l,(i0:Int),((i0+1:Nat):Int)) hi0 (by omega) ⟨l,i0,rfl,by omega,rfl,by
      rw[List.take_succ_eq_append_getElem hi0,List.filter_append,hx0]
      have:(l.take i0).filter (λx=> !q x)=l.take i0:=List.filter_eq_self.2 λy hy=>by simp[hn y hy]
      rw[this]
      simp[List.filter,hq],rfl⟩
  subst e1
  refine⟨cur,w,h3,by omega,e3, ?_⟩
  rw[e4,List.take_length]
theorem m83 {F:Nat} {l:List bG} {f:bG→Option Bool} (q:bG→Bool) (hF:1000≤F) (hl:l.length≤300) (hf:∀x∈l,f x=some (q x)):MY F l f=some (l.filter λx=> !q x):=by
 have h119:E8 F l f=some (n3 l q):=by
  unfold E8
  refine iC q (by omega) (λi x hx hm hi=> ?_) (by unfold pY; simp)
  unfold pY
  rw[f9 (by omega)]
  simp only[bB,hx,hf x hm,Option.bind_some,Int.ofNat_lt,hi,decide_true,if_true]
  split <;> rfl
 unfold MY
 rw[h119]
 simp only[Option.bind_some]
 cases ha:l.any q with
 | false=>
  rw[gP ha]
  simp only[beq_self_eq_true,if_true]
  rw[List.filter_eq_self.2 λx hx=>by simpa using List.any_eq_false.1 ha x hx]
 | true=>
  obtain⟨i,x,h1,h2,h3,h4⟩:=gH ha
  rw[h1]
  have hn:((i:Int)== -1)=false:=by simp
  have hil:=(List.getElem?_eq_some_iff.1 h2).1
  rw[hn,f9 (by omega)]
  simp only[Bool.false_eq_true,if_false]
  obtain⟨cur,w,e1,e2,e3,e4⟩:=tA (l:=l) (q:=q) (F:=F) (body:=λs=>qG F f s.1 s.2.1 s.2.2) (by omega) h2 h3 h4 (λcur w r x hc hw hr hx hm=>by
   unfold qG
   simp only
   rw[f9 (i:=r) (by omega),f9 (i:=w) (by omega)]
   have hcw:cur[w]? =some cur[w]:=List.getElem?_eq_getElem (by omega)
   simp only[bB,hx,hf x hm,Option.bind_some,hc,Int.ofNat_lt,hr,decide_true,if_true,hcw,Int.toNat_natCast]
   cases q x <;> rfl) (λcur w hc=>by unfold qG; simp[hc])
  rw[e1]
  simp only[aG]
  have g1:(decide ((0:Int)≤(w:Int)) && decide ((w:Int) < (cur.length:Int)))=true:=by simp; omega
  have g2:(decide ((0:Int)≤(w:Int)) && decide ((w:Int)≤(cur.length:Int)))=true:=by simp; omega
  simp only[grd,g1,g2,if_true,Int.toNat_natCast,e4]
end Go.Proofs.YtbbifdfldpfphaaGreat
namespace Go.Vm
abbrev OG:=Option cU
def oT (og:OG):Option cE:=og.bind (·.t)
def oS (og:OG):List AV:=og.elim [] (·.sp)
def awO {β:Type} (ci:β→List AV) (szi:Nat) (og:OG) (l:List β):AV:=match og with
 | some g=>aw g.t g.n g.cap
 | none=>.sl none szi (l.map ci)
structure dH where
 a:cU
 gs:List OG
def gx (gs:List OG) (i:Nat):OG:=(gs[i]?).getD none
def zg {α:Type} (xs:List α) (gs:List OG):List (α×OG):=xs.zip gs
def nl {α β:Type} (l:α→List β) (ys:List (α×OG)):List (List β×OG):=ys.map λy=>(l y.1,y.2)
def kK {β:Type} (ty:TypeId) (ci:β→List AV) (zs:List (List β×OG)):HL:=zs.map λz=>(oT z.2,.obj ty (fl ci z.1 (oS z.2)))
structure tB {α β:Type} (l:α→List β) (sz szi:Nat) (g:dH) (xs:List α):Prop where
 a:bK g.a sz xs.length
 len:g.gs.length=xs.length
 el:∀z∈nl l (zg xs g.gs),∀g',z.2=some g'→bK g' szi z.1.length
section
variable {α β:Type} {l:α→List β} {sz szi:Nat}
theorem vL {xs:List α} {gs:List OG} (h:gs.length=xs.length):(zg xs gs).length=xs.length:=by simp[zg,List.length_zip,h]
theorem tB.z {g:dH} {xs:List α} (ok:tB l sz szi g xs):bK g.a sz (zg xs g.gs).length:=by rw[vL ok.len]; exact ok.a
theorem HA {xs:List α} {gs:List OG} (h:gs.length=xs.length) {k:Nat} {x:α} (hx:xs[k]? =some x):(zg xs gs)[k]? =some (x,gx gs k):=by
 obtain⟨hk,rfl⟩:=List.getElem?_eq_some_iff.1 hx
 have hk':k < gs.length:=by omega
 simp[zg,gx,List.getElem?_zip_eq_some,hk,hk']
theorem YY {xs:List α} {gs:List OG} (h:gs.length=xs.length) {i:Int} {x:α} (hx:ix xs i=some x):ix (zg xs gs) i=some (x,gx gs i.toNat):=by
 obtain⟨h1,h2,h3⟩:=gA hx
 unfold ix
 rw[if_pos h1]
 exact HA h h3
theorem MZ {xs:List α} {gs:List OG} (k:Nat) (x:α) (og:OG):(zg xs gs).set k (x,og)=zg (xs.set k x) (gs.set k og):=by
 unfold zg
 induction xs generalizing gs k with
 | nil=>simp
 | cons y ys ih=>cases gs with
  | nil=>simp
  | cons g gs=>cases k with
   | zero=>simp
   | succ k=>simp[ih]
theorem QO {gs:List OG} (k:Nat) (h:k < gs.length):gs.set k (gx gs k)=gs:=by
 apply List.ext_getElem?
 intro i
 rw[List.getElem?_set]
 split
 ·rename_i e; subst e; simp[gx,h]
 ·rfl
theorem tB.ix {g:dH} {xs:List α} (ok:tB l sz szi g xs) {i:Int} {x:α} (hx:ix xs i=some x):Vm.ix (zg xs g.gs) i=some (x,gx g.gs i.toNat):=YY ok.len hx
theorem tB.set {g:dH} {xs:List α} {i:Int} {x x':α} (ok:tB l sz szi g xs) (hx:Vm.ix xs i=some x) (e:l x'=l x):
    tB l sz szi g (xs.set i.toNat x')∧(zg xs g.gs).set i.toNat (x',gx g.gs i.toNat)=zg (xs.set i.toNat x') g.gs∧nl l (zg (xs.set i.toNat x') g.gs)=nl l (zg xs g.gs):=by
  obtain⟨h1,h2,h3⟩:=gA hx
  have hk:i.toNat < xs.length:=(List.getElem?_eq_some_iff.1 h3).1
  have e1:(zg xs g.gs).set i.toNat (x',gx g.gs i.toNat)=zg (xs.set i.toNat x') g.gs:=by rw[MZ,QO _ (by have:=ok.len; omega)]
  have e2:nl l (zg (xs.set i.toNat x') g.gs)=nl l (zg xs g.gs):=by
    rw[← e1]
    unfold nl
    rw[List.map_set]
    apply List.ext_getElem?
    intro j
    rw[List.getElem?_set]
    split
    · rename_i q; subst q
      have h5:=HA ok.len h3
      rw[List.getElem?_map,h5]
      simp[e,vL ok.len,hk]
    · rfl
  exact⟨⟨by rw[List.length_set]; exact ok.a,by rw[List.length_set]; exact ok.len,by rw[e2]; exact ok.el⟩,e1,e2⟩
theorem tB.setL {g:dH} {xs:List α} {i:Int} {x x':α} (ok:tB l sz szi g xs) (hx:Vm.ix xs i=some x) (g':cU) (hg:bK g' szi (l x').length):
    tB l sz szi ⟨g.a,g.gs.set i.toNat (some g')⟩ (xs.set i.toNat x')∧(zg xs g.gs).set i.toNat (x',some g')=zg (xs.set i.toNat x') (g.gs.set i.toNat (some g'))∧
      nl l (zg (xs.set i.toNat x') (g.gs.set i.toNat (some g')))=(nl l (zg xs g.gs)).set i.toNat (l x',some g'):=by
  obtain⟨h1,h2,h3⟩:=gA hx
  have e1:(zg xs g.gs).set i.toNat (x',some g')=zg (xs.set i.toNat x') (g.gs.set i.toNat (some g')):=MZ _ _ _
  have e2:nl l (zg (xs.set i.toNat x') (g.gs.set i.toNat (some g')))=(nl l (zg xs g.gs)).set i.toNat (l x',some g'):=by
    rw[← e1]; unfold nl; rw[List.map_set]
  refine⟨⟨by rw[List.length_set]; exact ok.a,by simp[ok.len], ?_⟩,e1,e2⟩
  show ∀z∈nl l (zg (xs.set i.toNat x') (g.gs.set i.toNat (some g'))),_
  rw[e2]
  intro z hz g2 hg2
  rcases List.mem_or_eq_of_mem_set hz with hz | rfl
  · exact ok.el z hz g2 hg2
  · cases hg2; exact hg
theorem tB.nlat {g:dH} {xs:List α} {i:Int} {x:α} (ok:tB l sz szi g xs) (hx:Vm.ix xs i=some x):(nl l (zg xs g.gs))[i.toNat]? =some (l x,gx g.gs i.toNat):=by
 obtain⟨h1,h2,h3⟩:=gA hx
 unfold nl
 rw[List.getElem?_map,HA ok.len h3]
 rfl
theorem tB.plain {a:cU} {xs:List α} (ok:bK a sz xs.length):tB l sz szi ⟨a,List.replicate xs.length none⟩ xs:=⟨ok,by simp,λz hz g' e=>by
 unfold nl zg at hz
 obtain⟨y,hy,rfl⟩:=List.mem_map.1 hz
 have:=(List.of_mem_zip hy).2
 rw[List.mem_replicate] at this
 simp only at e
 rw[this.2] at e
 cases e⟩
variable {ty:TypeId} {ci:β→List AV} {h0:aF}
theorem yZ {γ:Type}:∀ {zs:List γ} {j:Nat} {z:γ},zs[j]? =some z→zs.Perm (z::zs.eraseIdx j)
 | [],_,_,h=>by simp at h
 | y::ys,0,z,h=>by
  simp only[List.getElem?_cons_zero,Option.some.injEq] at h
  subst h
  exact .refl _
 | y::ys,j+1,z,h=>by
  have:=yZ (zs:=ys) (j:=j) (z:=z) (by simpa using h)
  simp only[List.eraseIdx_cons_succ]
  exact(this.cons y).trans (.swap z y _)
theorem IN {zs:List (List β×OG)} {j:Nat} {z:List β×OG} (hz:zs[j]? =some z):(kK ty ci zs).Perm ((oT z.2,.obj ty (fl ci z.1 (oS z.2)))::kK ty ci (zs.eraseIdx j)):=by
 exact(yZ hz).map _
theorem QP {zs:List (List β×OG)} {j:Nat} (z:List β×OG) (hj:j < zs.length):(kK ty ci (zs.set j z)).Perm ((oT z.2,.obj ty (fl ci z.1 (oS z.2)))::kK ty ci (zs.eraseIdx j)):=by
 have:=IN (ty:=ty) (ci:=ci) (zs:=zs.set j z) (j:=j) (z:=z) (by simp[hj])
 rwa [List.eraseIdx_set_eq] at this
theorem vM {k:cE} {e:iL}:∀ {L:HL},bV h0 L→(some k,e)∈L→hp h0 L k=some e
 | [],_,h=>by cases h
 | (t,e')::r,ok,h=>by
  rcases List.mem_cons.1 h with h | h
  ·cases h; simp only[hp,dM]
  ·have ih:=vM (L:=r) ok.1 h
   cases t with
   | none=>exact ih
   | some k'=>
    have hne:k≠k':=λq=>by
     have:=ok.2 k' rfl
     rw[← q,ih] at this
     cases this
    simp only[hp]
    rw[cT _ _ hne,ih]
theorem HB {k:cE} {e:iL}:∀ {L:HL},bV h0 L→(some k,e)∈L→h0 k=none
 | [],_,h=>by cases h
 | (t,e')::r,ok,h=>by
  rcases List.mem_cons.1 h with h | h
  ·cases h
   have:=ok.2 k rfl
   exact mY (aS (List.nil_sublist r) ok.1).1 this
  ·exact HB ok.1 h
theorem HC {k:cE}:∀ {L:HL},h0 k=none→(∀e,(some k,e) ∉ L)→hp h0 L k=none
 | [],h,_=>h
 | (t,e')::r,h,hn=>by
  have ih:=HC (L:=r) h λe q=>hn e (List.mem_cons_of_mem _ q)
  cases t with
  | none=>exact ih
  | some k'=>
   have hne:k≠k':=λq=>hn e' (by rw[q]; exact List.mem_cons_self)
   simp only[hp]
   rw[cT _ _ hne,ih]
theorem C2 {k:cE} {e e':iL}:∀ {A F:HL},bV h0 (A++F)→(some k,e)∈F→(some k,e') ∉ A
 | [],_,_,_=>nofun
 | (t,e2)::A,F,ok,h=>λq=>by
  rcases List.mem_cons.1 q with q | q
  ·cases q
   have:=ok.2 k rfl
   rw[vM ok.1 (List.mem_append_right _ h)] at this
   cases this
  ·exact C2 ok.1 h q
theorem uD.append {H:aF} {xs ys:List AV} (h:uD H xs ys) {us vs:List AV} (h2:uD H us vs):uD H (xs++us) (ys++vs):=by
 induction h with
 | nil=>exact h2
 | cons a _ ih=>exact .cons a ih
theorem uD.flat {γ:Type} {H:aF} {c c':γ→List AV}:∀ {ys:List γ},(∀y∈ys,uD H (c y) (c' y))→uD H (ys.map c).flatten (ys.map c').flatten
 | [],_=>.nil
 | y::ys,h=>by
  simp only[List.map_cons,List.flatten_cons]
  exact(h y List.mem_cons_self).append (uD.flat λz hz=>h z (List.mem_cons_of_mem _ hz))
theorem Br.vwN {γ:Type} {c c':γ→List AV} {ys:List γ} {H:aF} {k:cE} {ty:TypeId} {sp:List AV} {sz cap:Nat} (hc:∀y,(c' y).length=sz) (hk:H k=some (.obj ty (fl c ys sp))) (hb:∀y∈ys,uD H (c y) (c' y)):Br H (.vw k ys.length cap) (.sl none sz (ys.map c')):=by
 intro E w v r hv
 simp only[VR] at hv ⊢
 obtain⟨g,hg,rfl,h1,h2⟩:=hv
 obtain⟨g',cur,e1,e2,e3,e4⟩:=r.obj _ _ _ hk
 rw[hg] at e1; cases e1
 refine⟨_,cap,by rw[List.length_map],by rw[List.length_map]; exact h1,h2, ?_, ?_,nofun⟩
 ·refine .inr ⟨g,0,rfl,jB.2 ?_⟩
  have htake:cZ E w (ys.map c).flatten (cur.toList.take ((ys.map c).flatten.length)):=by
   have:=fN ((ys.map c).flatten.length) e3
   rwa [fl,List.take_left' rfl] at this
  refine eB ((uD.flat hb).spec r htake) (λu hu=>e4 u (List.mem_of_mem_take hu)) ?_
  intro j u hj
  rw[List.getElem?_take] at hj
  split at hj
  ·have hcell:w.cell? ⟨g,0+j,none⟩=some u:=by
    simp only[World.cell?,e2,Nat.zero_add]
    simpa using hj
   exact⟨hcell,.inl (.inr ⟨⟨k,.inl ⟨_,rfl,hk,hg⟩⟩,u,hcell⟩)⟩
  ·cases hj
 ·intro x hx
  obtain⟨y,_,rfl⟩:=List.mem_map.1 hx
  exact hc y
theorem zA {γ:Type} {xs:List α} {gs:List OG} (h:gs.length=xs.length) (c:α→γ):(zg xs gs).map (λy=>c y.1)=xs.map c:=by
 unfold zg
 have:(xs.zip gs).map Prod.fst=xs:=List.map_fst_zip (by omega)
 conv=>rhs; rw[← this,List.map_map]
 rfl
theorem Br.awO {H:aF} {og:OG} {xs:List β} (hc:∀y,(ci y).length=szi) (ok:∀g,og=some g→bK g szi xs.length) (hk:∀k,oT og=some k→H k=some (.obj ty (fl ci xs (oS og)))):Br H (Vm.awO ci szi og xs) (.sl none szi (xs.map ci)):=by
 cases og with
 | none=>exact Br.refl _ _
 | some g=>
  have ok:=ok g rfl
  show Br H (Vm.aw g.t g.n g.cap) _
  rw[ok.eqn]
  cases ht:g.t with
  | none=>
   have h0:xs= []:=List.length_eq_zero_iff.1 (ok.nil ht)
   subst h0
   exact Br.ale (uU _ szi)
  | some k=>exact Br.vw hc (hk k ht)
theorem Br.awN {cN:α×OG→List AV} {c:α→List AV} {L:HL} {tyo:TypeId} {g:dH} {xs:List α} (i:Nat) (hc:∀y,(c y).length=sz) (hci:∀y,(ci y).length=szi) (hb:∀(H:aF) (y:α×OG),Br H (Vm.awO ci szi y.2 (l y.1)) (.sl none szi ((l y.1).map ci))→uD H (cN y) (c y.1))
    (ok:tB l sz szi g xs) (hk:bV h0 L) (hi:L[i]? =some (g.a.t,.obj tyo (fl cN (zg xs g.gs) g.a.sp))) (hm:∀e∈kK ty ci (nl l (zg xs g.gs)),e∈L):Br (hp h0 L) (Vm.aw g.a.t g.a.n g.a.cap) (.sl none sz (xs.map c)):=by
  rw[ok.a.eqn]
  cases ht:g.a.t with
  | none=>
    have h0:xs= []:=List.length_eq_zero_iff.1 (ok.a.nil ht)
    subst h0
    exact Br.ale (uU _ sz)
  | some k=>
    rw[ht] at hi
    have:=Br.vwN (c':=λy:α×OG=>c y.1) (sz:=sz) (cap:=g.a.cap) (λy=>hc y.1) (bC i hk hi) λy hy=>hb _ y (Br.awO (ty:=ty) hci (ok.el (l y.1,y.2) (List.mem_map.2 ⟨y,hy,rfl⟩)) λk' hk'=>by
      refine vM hk (hm _ ?_)
      rw[← hk']
      exact List.mem_map.2 ⟨(l y.1,y.2),List.mem_map.2 ⟨y,hy,rfl⟩,rfl⟩)
    rwa [vL ok.len,zA ok.len] at this
theorem pI.append {H H':aF} {xs ys:List AV} (h:pI H H' xs ys) {us vs:List AV} (h2:pI H H' us vs):pI H H' (xs++us) (ys++vs):=by
 induction h with
 | nil=>exact h2
 | cons a _ ih=>exact .cons a ih
theorem pI.flat {γ:Type} {H H':aF} {c c':γ→List AV}:∀ {ys:List γ},(∀y∈ys,pI H H' (c y) (c' y))→pI H H' (ys.map c).flatten (ys.map c').flatten
 | [],_=>.nil
 | y::ys,h=>by
  simp only[List.map_cons,List.flatten_cons]
  exact(h y List.mem_cons_self).append (pI.flat λz hz=>h z (List.mem_cons_of_mem _ hz))
theorem Fz.vwN {γ:Type} {c c':γ→List AV} {ys:List γ} {H H':aF} {k:cE} {ty:TypeId} {sp:List AV} {sz cap:Nat} (hc:∀y,(c' y).length=sz) (hk:H k=some (.obj ty (fl c ys sp))) (hn:H' k=none) (hb:∀y∈ys,pI H H' (c y) (c' y)):Fz H H' (.vw k ys.length cap) (.sl none sz (ys.map c')):=by
 intro E w v r hv
 simp only[VR] at hv ⊢
 obtain⟨g,hg,rfl,h1,h2⟩:=hv
 obtain⟨g',cur,e1,e2,e3,e4⟩:=r.obj _ _ _ hk
 rw[hg] at e1; cases e1
 refine⟨_,cap,by rw[List.length_map],by rw[List.length_map]; exact h1,h2, ?_, ?_,nofun⟩
 ·refine .inr ⟨g,0,rfl,jB.2 ?_⟩
  have htake:cZ E w (ys.map c).flatten (cur.toList.take ((ys.map c).flatten.length)):=by
   have:=fN ((ys.map c).flatten.length) e3
   rwa [fl,List.take_left' rfl] at this
  refine eB ((pI.flat hb).spec r htake) (λu hu=>e4 u (List.mem_of_mem_take hu)) ?_
  intro j u hj
  rw[List.getElem?_take] at hj
  split at hj
  ·have hcell:w.cell? ⟨g,0+j,none⟩=some u:=by
    simp only[World.cell?,e2,Nat.zero_add]
    simpa using hj
   exact⟨hcell,.inl (.inr ⟨⟨k,.inl ⟨_,rfl,hk,hg⟩,hn⟩,u,hcell⟩)⟩
  ·cases hj
 ·intro x hx
  obtain⟨y,_,rfl⟩:=List.mem_map.1 hx
  exact hc y
theorem Fz.awO {H H':aF} (hs:iG H' H) {og:OG} {xs:List β} (hc:∀y,(ci y).length=szi) (ok:∀g,og=some g→bK g szi xs.length) (hk:∀k,oT og=some k→H k=some (.obj ty (fl ci xs (oS og)))∧H' k=none):Fz H H' (Vm.awO ci szi og xs) (.sl none szi (xs.map ci)):=by
 cases og with
 | none=>exact Fz.refl _ _ _
 | some g=>
  have ok:=ok g rfl
  show Fz H H' (Vm.aw g.t g.n g.cap) _
  rw[ok.eqn]
  cases ht:g.t with
  | none=>
   have h0:xs= []:=List.length_eq_zero_iff.1 (ok.nil ht)
   subst h0
   exact Fz.ale hs (uU _ szi)
  | some k=>exact Fz.vw hc (hk k ht).1 (hk k ht).2
theorem Fz.awN {cN:α×OG→List AV} {c:α→List AV} {A A' F:HL} {tyo:TypeId} {g:dH} {xs:List α} (i:Nat) (hc:∀y,(c y).length=sz) (hci:∀y,(ci y).length=szi) (hb:∀(H H':aF) (y:α×OG),Fz H H' (Vm.awO ci szi y.2 (l y.1)) (.sl none szi ((l y.1).map ci))→pI H H' (cN y) (c y.1))
    (ok:tB l sz szi g xs) (hk:bV h0 (A++F)) (hi:A[i]? =some (g.a.t,.obj tyo (fl cN (zg xs g.gs) g.a.sp))) (hm:∀e∈kK ty ci (nl l (zg xs g.gs)),e∈F) (hs:A'.Sublist (A.eraseIdx i)):Fz (hp h0 (A++F)) (hp h0 A') (Vm.aw g.a.t g.a.n g.a.cap) (.sl none sz (xs.map c)):=by
  have hA:A'.Sublist (A++F):=(hs.trans (List.eraseIdx_sublist A i)).trans (List.sublist_append_left A F)
  have hsub:=(aS hA hk).1
  rw[ok.a.eqn]
  cases ht:g.a.t with
  | none=>
    have h0:xs= []:=List.length_eq_zero_iff.1 (ok.a.nil ht)
    subst h0
    exact Fz.ale hsub (uU _ sz)
  | some k=>
    rw[ht] at hi
    have hil:i < A.length:=(List.getElem?_eq_some_iff.1 hi).1
    have hi2:(A++F)[i]? =some (some k,.obj tyo (fl cN (zg xs g.gs) g.a.sp)):=by rw[List.getElem?_append_left hil]; exact hi
    have hs2:A'.Sublist ((A++F).eraseIdx i):=by
      rw[List.eraseIdx_append_of_lt_length hil]
      exact hs.trans (List.sublist_append_left _ F)
    have:=Fz.vwN (c':=λy:α×OG=>c y.1) (sz:=sz) (cap:=g.a.cap) (H':=hp h0 A') (λy=>hc y.1) (bC i hk hi2) (mY (aS hs2 (aS (List.eraseIdx_sublist _ i) hk).2).1 (nT i hk hi2)) λy hy=>hb _ _ y (Fz.awO (ty:=ty) hsub hci (ok.el (l y.1,y.2) (List.mem_map.2 ⟨y,hy,rfl⟩)) λk' hk'=>by
      have hmF:(some k',iL.obj ty (fl ci (l y.1) (oS y.2)))∈F:=hm _ (by rw[← hk']; exact List.mem_map.2 ⟨(l y.1,y.2),List.mem_map.2 ⟨y,hy,rfl⟩,rfl⟩)
      refine⟨vM hk (List.mem_append_right _ hmF),HC (HB hk (List.mem_append_right _ hmF)) λe q=> ?_⟩
      exact C2 hk hmF ((hs.trans (List.eraseIdx_sublist A i)).subset q))
    rwa [vL ok.len,zA ok.len] at this
end
def iD:List HL→HL
 | []=> []
 | [x]=>x
 | x::y::r=>x++iD (y::r)
theorem gJ:∀b:List HL,iD b=b.flatten
 | []=>rfl
 | [x]=>by simp[iD]
 | x::y::r=>by rw[iD,gJ (y::r)]; rfl
theorem qH {bl bl':List HL} (p:bl.Perm bl'):(iD bl).Perm (iD bl'):=by rw[gJ,gJ]; exact p.flatten
theorem oU {bl:List HL} {b:Nat} {F:HL} (h:bl[b]? =some F):(iD bl).Perm (F++(bl.eraseIdx b).flatten):=by
 rw[gJ]
 exact(yZ h).flatten
theorem pZ {bl:List HL} {b:Nat} {F:HL} (F':HL) (h:bl[b]? =some F):(iD (bl.set b F')).Perm (F'++(bl.eraseIdx b).flatten):=by
 have hb:b < bl.length:=(List.getElem?_eq_some_iff.1 h).1
 have:=oU (bl:=bl.set b F') (b:=b) (F:=F') (by simp[hb])
 rwa [List.eraseIdx_set_eq] at this
section
variable {h0:aF} {L L' R:HL}
theorem tC (hk:bV h0 L) (bl:List HL) (hL:iD bl=L) (σ:List Nat) (hL':iD (pick σ bl)=L') (ho:σ.isPerm (List.range bl.length)=true):hp h0 L=hp h0 L'∧bV h0 L':=by
 subst hL hL'
 exact gZ (qH (mO ho)) hk
theorem tD (hk:bV h0 L) (bl:List HL) (hL:iD bl=L) (σ:List Nat) (hL':iD (pick σ bl)=L') (ho:(σ++sI σ bl.length).isPerm (List.range bl.length)=true):bV h0 L'∧iG (hp h0 L') (hp h0 L):=by
 subst hL hL'
 have p:=qH (mO ho)
 have e2:pick (σ++sI σ bl.length) bl=pick σ bl++pick (sI σ bl.length) bl:=List.filterMap_append
 rw[e2,gJ (_++_),List.flatten_append,← gJ (pick σ bl)] at p
 obtain⟨e,k⟩:=gZ p hk
 have:=aS (List.sublist_append_left (iD (pick σ bl)) (pick (sI σ bl.length) bl).flatten) k
 exact⟨this.2,by rw[e]; exact this.1⟩
theorem lxB {n:Nat} {f g:FR} (bl:List HL) (hL:iD bl=L) (σ:List Nat) (hL':iD (pick σ bl)=L') (ho:(σ++sI σ bl.length).isPerm (List.range bl.length)=true) (hf:FT (hp h0 L') n f.k g.k):LX h0 n f L g L':=λhk=>
 let ⟨h1,h2⟩:=tD hk bl hL σ hL' ho; ⟨h1,i8.fm h2 hf⟩
variable {β:Type} {ty:TypeId} {ci:β→List AV}
theorem qI (hk:bV h0 L) (bl:List HL) (hL:iD bl=L) (b:Nat) {zs:List (List β×OG)} {j:Nat} {z:List β×OG} (hb:bl[b]? =some (kK ty ci zs)) (hz:zs[j]? =some z) (hR:iD (bl.set b (kK ty ci (zs.eraseIdx j)))=R):
    hp h0 L=hp h0 ((oT z.2,.obj ty (fl ci z.1 (oS z.2)))::R)∧bV h0 ((oT z.2,.obj ty (fl ci z.1 (oS z.2)))::R):=by
  subst hL hR
  refine gZ ?_ hk
  refine(oU hb).trans (((IN hz).append_right _).trans ?_)
  exact((pZ (kK ty ci (zs.eraseIdx j)) hb).symm.cons _)
theorem oW (bl:List HL) (hR:iD bl=R) (b:Nat) {zs:List (List β×OG)} {j:Nat} (z:List β×OG) (hj:j < zs.length) (hb:bl[b]? =some (kK ty ci (zs.eraseIdx j))) (hk:bV h0 ((oT z.2,.obj ty (fl ci z.1 (oS z.2)))::R)) (hL':iD (bl.set b (kK ty ci (zs.set j z)))=L'):
    hp h0 ((oT z.2,.obj ty (fl ci z.1 (oS z.2)))::R)=hp h0 L'∧bV h0 L':=by
  subst hR hL'
  refine gZ ?_ hk
  refine((oU hb).cons _).trans ?_
  refine(((QP z hj).symm.append_right _).trans ?_)
  exact(pZ _ hb).symm
theorem E9 (a b:List HL):iD (a++b)=iD a++iD b:=by rw[gJ,gJ,gJ,List.flatten_append]
theorem M0 {γ:Type} (σ τ:List Nat) (l:List γ):pick (σ++τ) l=pick σ l++pick τ l:=List.filterMap_append
theorem mB {A:HL} (hk:bV h0 L) (bl:List HL) (hL:iD bl=L) (σ τ:List Nat) (hA:iD (pick σ bl)=A) (hR:iD (pick τ bl)=R) (ho:(σ++τ).isPerm (List.range bl.length)=true):hp h0 L=hp (hp h0 R) A∧bV h0 R∧bV (hp h0 R) A:=by
 subst hL hA hR
 obtain⟨e,k⟩:=gZ (qH (mO ho)) hk
 rw[M0,E9] at e k
 obtain⟨k1,k2⟩:=cL _ _ k
 exact⟨e.trans (cW h0 _ _).symm,k1,k2⟩
theorem mC {A:HL} (hR:bV h0 R) (hA:bV (hp h0 R) A) (ba br:List HL) (hA':iD ba=A) (hR':iD br=R) (σ:List Nat) (hL':iD (pick σ (ba++br))=L') (ho:σ.isPerm (List.range (ba++br).length)=true):hp (hp h0 R) A=hp h0 L'∧bV h0 L':=by
 subst hA' hR' hL'
 have k:=dI hR hA
 rw[cW]
 rw[← E9] at k ⊢
 exact gZ (qH (mO ho)) k
end
structure mD {α β:Type} (l:α→List β) (sz szi:Nat) (g:dH) (xs:List α):Prop where
 k:tB l sz szi g xs
 own:∀og∈g.gs,og≠none
section
variable {α β:Type} {l:α→List β} {sz szi:Nat} {g:dH} {xs:List α} {i:Int} {x x':α}
theorem mD.gx (ok:mD l sz szi g xs) (hx:Vm.ix xs i=some x):∃gv,Vm.gx g.gs i.toNat=some gv∧bK gv szi (l x).length∧(nl l (zg xs g.gs))[i.toNat]? =some (l x,some gv):=by
 have h1:=ok.k.nlat hx
 obtain⟨_,_,h3⟩:=gA hx
 have hk:i.toNat < xs.length:=(List.getElem?_eq_some_iff.1 h3).1
 have hk':i.toNat < g.gs.length:=by have:=ok.k.len; omega
 cases hg:Vm.gx g.gs i.toNat with
 | none=>
  have:g.gs[i.toNat]=none:=by unfold Vm.gx at hg; rw[List.getElem?_eq_getElem hk'] at hg; exact hg
  exact absurd this (ok.own _ (List.getElem_mem hk'))
 | some gv=>
  rw[hg] at h1
  exact⟨gv,rfl,ok.k.el _ (List.mem_of_getElem? h1) gv rfl,h1⟩
theorem mD.set (ok:mD l sz szi g xs) (hx:Vm.ix xs i=some x) (e:l x'=l x):mD l sz szi g (xs.set i.toNat x'):=⟨(ok.k.set hx e).1,ok.own⟩
theorem mD.setL (ok:mD l sz szi g xs) (hx:Vm.ix xs i=some x) (g':cU) (hg:bK g' szi (l x').length):mD l sz szi ⟨g.a,g.gs.set i.toNat (some g')⟩ (xs.set i.toNat x'):=
 ⟨(ok.k.setL hx g' hg).1,λog h=>by rcases List.mem_or_eq_of_mem_set h with h | rfl; exact ok.own og h; exact nofun⟩
end
theorem jO {γ:Type} {l:List γ} {j:Nat} {z:γ} (h:l[j]? =some z):j < l.length:=(List.getElem?_eq_some_iff.1 h).1
theorem eqN {h0:aF} {L L':HL} (hk:bV h0 L) (e:L=L'):hp h0 L=hp h0 L'∧bV h0 L':=by subst e; exact⟨rfl,hk⟩
theorem tB.br {α β:Type} {l:α→List β} {sz szi:Nat} {ty:TypeId} {ci:β→List AV} {h0:aF} {L:HL} {g:dH} {xs:List α} {i:Int} {x:α} (ok:tB l sz szi g xs) (hx:Vm.ix xs i=some x) (hci:∀y,(ci y).length=szi) (hk:bV h0 L)
    (hm:∀e∈kK ty ci (nl l (zg xs g.gs)),e∈L):Br (hp h0 L) (awO ci szi (Vm.gx g.gs i.toNat) (l x)) (.sl none szi ((l x).map ci)):=by
  have hn:=List.mem_of_getElem? (ok.nlat hx)
  refine Br.awO (ty:=ty) hci (ok.el _ hn) λk hk'=>vM hk (hm _ ?_)
  rw[← hk']
  exact List.mem_map.2 ⟨_,hn,rfl⟩
theorem QR {xs r:List AV} {m:Nat} (h:xs.length=m):DZ true m ((xs++r).drop 0)=some (.agg xs):=by
 subst h
 simp[DZ]
theorem gG {β:Type} (ci:β→List AV) (szi:Nat) (og:OG) (l:List β):gQ (awO ci szi og l)=true:=by
 cases og with
 | none=>rfl
 | some g=>exact bY _ _ _
theorem UO {α β:Type} (f:α→β) (xs:List α) (i:Int):ix (xs.map f) i=(ix xs i).map f:=by
 unfold ix
 split
 ·rw[List.getElem?_map]
 ·rfl
theorem UP {α ρ:Type} {xs:List α} {gs:List OG} (hl:gs.length=xs.length) {F:List α→Option ρ} {G:Option ρ} (e:F ((zg xs gs).map Prod.fst)=G) {o:ρ} (h:F xs=some o):G=some o:=by
 rw[← e,show (zg xs gs).map Prod.fst=xs from by simpa using zA hl (λx=>x)]
 exact h
theorem UQ {F L:HL} (bl:List HL) (hL:iD bl=L) (b:Nat) (hb:bl[b]? =some F):∀e∈F,e∈L:=λe he=>by
 subst hL
 rw[gJ]
 exact List.mem_flatten.2 ⟨F,List.mem_of_getElem? hb,he⟩
section
variable {α β:Type} {l:α→List β} {sz szi:Nat} {ty:TypeId} {ci:β→List AV} {h0:aF} {L L':HL}
theorem D2 {n:Nat} {f:FR} {cN:α×OG→List AV} {c:α→List AV} {tyo:TypeId} {g:dH} {xs:List α} (bl:List HL) (hL:iD bl=L) (i b:Nat) (hci:∀y,(ci y).length=szi)
    (hb:∀(H H':aF) (y:α×OG),Fz H H' (awO ci szi y.2 (l y.1)) (.sl none szi ((l y.1).map ci))→pI H H' (cN y) (c y.1))
    (ok:tB l sz szi g xs) (hi:bl[i]? =some [(g.a.t,.obj tyo (fl cN (zg xs g.gs) g.a.sp))]) (hbf:bl[b]? =some (kK ty ci (nl l (zg xs g.gs)))) (hib:i < b)
    (hL':iD ((bl.eraseIdx b).set i [(g.a.t,.obj tyo (fl c xs g.a.sp))])=L') (hk:bV h0 L):bV h0 L'∧i8 (fm n f.k) (hp h0 L') (fm n f.k) (hp h0 L):=by
  subst hL hL'
  -- the array's block and the family's block, ahead of the rest
  have hi':(bl.eraseIdx b)[i]? =some [(g.a.t,.obj tyo (fl cN (zg xs g.gs) g.a.sp))]:=by
    rw[List.getElem?_eraseIdx]; simp[hib,hi]
  generalize hR:((bl.eraseIdx b).eraseIdx i).flatten=R
  have p1:(iD bl).Perm (kK ty ci (nl l (zg xs g.gs))++((g.a.t,.obj tyo (fl cN (zg xs g.gs) g.a.sp))::R)):=by
    refine(oU hbf).trans (List.Perm.append_left _ ?_)
    have:=oU hi'
    rw[gJ,hR] at this
    exact this
  have p2:(iD ((bl.eraseIdx b).set i [(g.a.t,.obj tyo (fl c xs g.a.sp))])).Perm ((g.a.t,.obj tyo (fl c xs g.a.sp))::R):=by
    have:=pZ [(g.a.t,iL.obj tyo (fl c xs g.a.sp))] hi'
    rw[hR] at this
    exact this
  obtain⟨e1,k1⟩:=gZ p1 hk
  have k2:bV h0 ((g.a.t,.obj tyo (fl cN (zg xs g.gs) g.a.sp))::R):=(cL _ _ k1).1
  have k3:bV h0 ((g.a.t,.obj tyo (fl c xs g.a.sp))::R):=⟨k2.1,k2.2⟩
  obtain⟨e2,k4⟩:=gZ p2.symm k3
  refine⟨k4, ?_⟩
  rw[e1,← e2]
  have hs:iG (hp h0 ((g.a.t,.obj tyo (fl cN (zg xs g.gs) g.a.sp))::R)) (hp h0 (kK ty ci (nl l (zg xs g.gs))++((g.a.t,.obj tyo (fl cN (zg xs g.gs) g.a.sp))::R))):=(aS (List.sublist_append_right _ _) k1).1
  intro E w vs r v
  have r1:=sF r hs
  have kk:eP E w (FX E _ (hp h0 ((g.a.t,.obj tyo (fl cN (zg xs g.gs) g.a.sp))::R)) w) w:=hH r
  cases ht:g.a.t with
  | none=>rw[ht] at r1 kk; exact⟨_,kk,r1,cS kk _ _ v⟩
  | some k=>
    rw[ht] at r1 kk k2 k1 hs r
    have hg1:hp h0 ((some k,iL.obj tyo (fl cN (zg xs g.gs) g.a.sp))::R) k=some (.obj tyo (fl cN (zg xs g.gs) g.a.sp)):=bC 0 k2 rfl
    obtain⟨gg,cur,f1,f2,f3,f4⟩:=r.obj k tyo _ (hs _ _ hg1)
    have hfz:pI (hp h0 (kK ty ci (nl l (zg xs g.gs))++((some k,.obj tyo (fl cN (zg xs g.gs) g.a.sp))::R))) (hp h0 ((some k,.obj tyo (fl cN (zg xs g.gs) g.a.sp))::R)) (fl cN (zg xs g.gs) g.a.sp) (fl c xs g.a.sp):=by
      unfold fl
      refine pI.append ?_ (pI.refl _ _ _)
      rw[← zA ok.len c]
      refine pI.flat λy hy=>hb _ _ y (Fz.awO (ty:=ty) hs hci (ok.el (l y.1,y.2) (List.mem_map.2 ⟨y,hy,rfl⟩)) λk' hk'=> ?_)
      have hm:(some k',iL.obj ty (fl ci (l y.1) (oS y.2)))∈kK ty ci (nl l (zg xs g.gs)):=by rw[← hk']; exact List.mem_map.2 ⟨(l y.1,y.2),List.mem_map.2 ⟨y,hy,rfl⟩,rfl⟩
      refine⟨vM k1 (List.mem_append_left _ hm),HC (HB k1 (List.mem_append_left _ hm)) λe q=> ?_⟩
      have p3:=List.perm_append_comm (l₁:=kK ty ci (nl l (zg xs g.gs))) (l₂:=(some k,iL.obj tyo (fl cN (zg xs g.gs) g.a.sp))::R)
      exact C2 (gZ p3 k1).2 hm q
    obtain⟨q1,q2⟩:=r1.set_obj hg1 (show (FX E _ (hp h0 ((some k,.obj tyo (fl cN (zg xs g.gs) g.a.sp))::R)) w).ob k=some gg from f1) (w':=w) f2 (λ_ _=>rfl) (Nat.le_refl _) rfl rfl rfl (hfz.spec r f3) f4
    have e3:upd (hp h0 ((some k,iL.obj tyo (fl cN (zg xs g.gs) g.a.sp))::R)) k (some (.obj tyo (fl c xs g.a.sp)))=hp h0 ((some k,.obj tyo (fl c xs g.a.sp))::R):=by
      funext z
      simp only[hp,upd]
      split <;> rfl
    rw[e3] at q2
    exact⟨_,kk.trans q1,q2,cS (kk.trans q1) _ _ v⟩
end
theorem C3 {P:Program} {h:aF} {n:Nat} {rs:List ResultVar} {Q:AV→aF→Prop} {e:Exit} {f g:FR} {L L':HL} (le:bV h L→bV h L'∧i8 (fm n g.k) (hp h L') (fm n f.k) (hp h L)) (k:RV P rs Q h n e g L'):RV P rs Q h n e f L:=
 ⟨λhk=>let ⟨h1,h2⟩:=le hk; let ⟨fr,hh,l2,q⟩:=k.r h1; ⟨fr,hh,h2.trans l2,q⟩⟩
structure C4 {α β:Type} (l:α→List β) (sz szi:Nat) (g:dH) (xs:List α) (m N:Nat):Prop where
 k:tB l sz szi g xs
 len:xs.length=N
 pre:∀j,j < m→j < xs.length→gx g.gs j≠none
 post:∀j,m≤j→gx g.gs j=none
section
variable {α β:Type} {l:α→List β} {sz szi:Nat} {g:dH} {xs:List α} {q:Int} {x x':α} {ty:TypeId} {ci:β→List AV} {h0:aF} {L L':HL}
theorem UR (n j:Nat):gx (List.replicate n none) j=none:=by
 unfold gx
 rw[List.getElem?_replicate]
 split <;> rfl
theorem C4.zero {a:cU} (ok:bK a sz xs.length):C4 l sz szi ⟨a,List.replicate xs.length none⟩ xs 0 xs.length:=⟨tB.plain ok,rfl,λj h=>absurd h (Nat.not_lt_zero _),λj _=>UR _ _⟩
theorem M1 {gs:List OG} {i j:Nat} {og:OG}:gx (gs.set i og) j=if i=j∧j < gs.length then og else gx gs j:=by
 unfold gx
 rw[List.getElem?_set]
 by_cases e:i=j
 ·subst e
  by_cases h:i < gs.length
  ·simp[h]
  ·simp[h]
 ·simp[e]
theorem C4.step {N:Nat} (ok:C4 l sz szi g xs q.toNat N) (hx:Vm.ix xs q=some x) (g':cU) (hg:bK g' szi (l x').length):C4 l sz szi ⟨g.a,g.gs.set q.toNat (some g')⟩ (xs.set q.toNat x') (IntKind.wrap .i64 (q+1)).toNat N:=by
 obtain⟨h1,h2,h3⟩:=gA hx
 have hm:=ok.k.a.mx
 have hl:=ok.k.a.le
 have hw:(IntKind.wrap .i64 (q+1)).toNat=q.toNat+1:=by
  rw[IntKind.wrap_i64]; simp only[maxLen] at hm; omega
 have hk:q.toNat < g.gs.length:=by have:=ok.k.len; omega
 rw[hw]
 refine⟨(ok.k.setL hx g' hg).1,by rw[List.length_set]; exact ok.len,λj hj hj2=> ?_,λj hj=> ?_⟩
 ·simp only[M1]
  rw[List.length_set] at hj2
  split
  ·exact nofun
  ·rename_i q1
   exact ok.pre j (by have:=ok.k.len; by_cases e:q.toNat=j <;> omega) hj2
 ·simp only[M1]
  rw[if_neg (by omega)]
  exact ok.post j (by omega)
theorem C4.set {N:Nat} (ok:C4 l sz szi g xs q.toNat N) (hx:Vm.ix xs q=some x) (e:l x'=l x):C4 l sz szi g (xs.set q.toNat x') q.toNat N:=⟨(ok.k.set hx e).1,by rw[List.length_set]; exact ok.len,λj hj hj2=>ok.pre j hj (by rwa [List.length_set] at hj2),ok.post⟩
theorem C4.all {N:Nat} (ok:C4 l sz szi g xs q.toNat N) (hq:decide (q < (N:Int))=false):mD l sz szi g xs:=by
 have hq:=of_decide_eq_false hq
 have hN:=ok.len
 refine⟨ok.k,λog ho=> ?_⟩
 obtain⟨j,hj,rfl⟩:=List.getElem_of_mem ho
 have hl:=ok.k.len
 have:=ok.pre j (by omega) (by omega)
 unfold gx at this
 rwa [List.getElem?_eq_getElem hj] at this
theorem toN {n:Nat} {f:FR} {cN:α×OG→List AV} {c:α→List AV} {tyo:TypeId} {a:cU} (hc:∀x,cN (x,none)=c x) (bl:List HL) (hL:iD bl=L) (i:Nat) (hi:bl[i]? =some [(a.t,.obj tyo (fl c xs a.sp))])
    (hL':iD (bl.set i [(a.t,.obj tyo (fl cN (zg xs (List.replicate xs.length none)) a.sp))]++ [kK ty ci (nl l (zg xs (List.replicate xs.length none)))])=L') (hk:bV h0 L):bV h0 L'∧i8 (fm n f.k) (hp h0 L') (fm n f.k) (hp h0 L):=by
  have e1:fl cN (zg xs (List.replicate xs.length none)) a.sp=fl c xs a.sp:=by
    unfold fl
    have:(zg xs (List.replicate xs.length none)).map cN=xs.map c:=by
      have h1:(zg xs (List.replicate xs.length none)).map cN=(zg xs (List.replicate xs.length none)).map (λy=>c y.1):=by
        refine List.map_congr_left λy hy=> ?_
        have h2:=(List.of_mem_zip hy).2
        rw[List.mem_replicate] at h2
        obtain⟨y1,y2⟩:=y
        simp only at h2
        rw[h2.2,hc]
      rw[h1,zA (by simp)]
    rw[this]
  have e2:bl.set i [(a.t,iL.obj tyo (fl c xs a.sp))]=bl:=by
    obtain⟨hi',he⟩:=List.getElem?_eq_some_iff.1 hi
    rw[← he]
    exact List.set_getElem_self hi'
  rw[e1,e2] at hL'
  subst hL hL'
  have key:∀zs:List (List β×OG),(∀z∈zs,z.2=none)→∀ {L:HL},bV h0 L→bV h0 (kK ty ci zs++L)∧hp h0 (kK ty ci zs++L)=hp h0 L:=by
    intro zs
    induction zs with
    | nil=>intro _ L hk; exact⟨hk,rfl⟩
    | cons z zs ih=>
      intro hz L hk
      obtain⟨k1,k2⟩:=ih (λz hz'=>hz z (List.mem_cons_of_mem _ hz')) hk
      have h1:oT z.2=none:=by rw[hz z List.mem_cons_self]; rfl
      show bV h0 ((oT z.2,_)::(kK ty ci zs++L))∧hp h0 ((oT z.2,_)::(kK ty ci zs++L))=_
      rw[h1]
      exact⟨⟨k1,nofun⟩,k2⟩
  have hz:∀z∈nl l (zg xs (List.replicate xs.length none)),z.2=none:=by
    intro z hz
    obtain⟨y,hy,rfl⟩:=List.mem_map.1 hz
    have h2:=(List.of_mem_zip hy).2
    rw[List.mem_replicate] at h2
    exact h2.2
  obtain⟨k1,k2⟩:=key _ hz hk
  have p:(kK ty ci (nl l (zg xs (List.replicate xs.length none)))++iD bl).Perm (iD (bl++ [kK ty ci (nl l (zg xs (List.replicate xs.length none)))])):=by
    rw[gJ,gJ,List.flatten_append]
    simp only[List.flatten_cons,List.flatten_nil,List.append_nil]
    exact List.perm_append_comm
  obtain⟨k3,k4⟩:=gZ p k1
  exact⟨k4,i8.eqh (k2.symm.trans k3)⟩
theorem M2 {n:Nat} {f:FR} (bl:List HL) (hL:iD bl=L) (b:Nat) {zs:List (List β×OG)} (j:Nat) (hb:bl[b]? =some (kK ty ci zs)) (hL':iD (bl.set b (kK ty ci (zs.eraseIdx j)))=L') (hk:bV h0 L):bV h0 L'∧i8 (fm n f.k) (hp h0 L') (fm n f.k) (hp h0 L):=by
 subst hL hL'
 obtain⟨e1,k1⟩:=gZ (oU hb) hk
 have hs:(kK ty ci (zs.eraseIdx j)++(bl.eraseIdx b).flatten).Sublist (kK ty ci zs++(bl.eraseIdx b).flatten):=((List.eraseIdx_sublist zs j).map _).append_right _
 obtain⟨s1,k2⟩:=aS hs k1
 obtain⟨e2,k3⟩:=gZ (pZ (kK ty ci (zs.eraseIdx j)) hb).symm k2
 refine⟨k3,i8.of ?_ (cX.refl _ _)⟩
 rw[e1,← e2]
 exact s1
end
theorem US {P:Program} {h:aF} {n:Nat} {τ σ ρ:Type} {id:Nat} {c:Code} {kn:FR→HL→Prop} {ke:Exit→FR→HL→Prop} {f:FR} {L:HL} {step:σ→Option (Lp σ ρ)} {fuel:Nat} {s0:σ} {k:σ→Option ρ} {o:ρ} (hm:after (aT step fuel s0) k=some o)
    (Lg:τ→σ→HL) (J JB:τ→σ→Prop) (sl:τ→σ→FR) (g0:τ) (i0:J g0 s0) (h0:LX h n f L (sl g0 s0) (Lg g0 s0))
    (round:∀g s x,J g s→step s=some x→VC P h n c (GN h n J sl Lg .go x) (GE h n JB sl Lg (some id) ke o x) (sl g s) (Lg g s))
    (next:∀g s,JB g s→k s=some o→kn (sl g s) (Lg g s)):VC P h n (.block id (.loop c)) kn ke f L:=by
  refine⟨λhkL=>xG ?_⟩
  obtain⟨out,hout,hk⟩:∃out,aT step fuel s0=some out∧((∃s,out= .brk s∧k s=some o)∨∃r,out= .ret r∧r=o):=by
    cases e:aT step fuel s0 with
    | none=>rw[e] at hm; cases hm
    | some out=>
      rw[e] at hm
      cases out with
      | go s=>cases hm
      | brk s=>exact⟨_,rfl,.inl ⟨s,rfl,hm⟩⟩
      | ret r=>exact⟨_,rfl,.inr ⟨r,rfl,Option.some.inj hm⟩⟩
  obtain⟨hk1,le1⟩:=h0 hkL
  refine H3 (λm fr' h'=>∃s,aT step m s=some out∧∃g,J g s∧bV h (Lg g s)∧i8 (fm n (sl g s).k) (hp h (Lg g s)) fr' h') fuel ⟨s0,hout,g0,i0,hk1,le1⟩ ?_
  rintro m fr' h' ⟨s,hs,g,hj,hk2,hle⟩
  cases m with
  | zero=>cases hs
  | succ m=>
    simp only[aT] at hs
    cases e:step s with
    | none=>rw[e] at hs; cases hs
    | some x=>
      rw[e] at hs
      refine hle.aw (((round g s x hj e).r hk2).mono ?_)
      rintro ex fr'' h'' ⟨f1,L1,hk3,le3,q⟩
      have fin:∀ {ex:Exit},GE h n JB sl Lg (some id) ke o x ex f1 L1→ex≠ .normal→(∃s',x= .brk s'∧ex= .exit id∧∃g',JB g' s'∧LX h n f1 L1 (sl g' s') (Lg g' s'))∨(ke ex f1 L1∧ex≠ .exit id):=by
        intro ex q hne
        cases q with
        | b i' hi he q=>
          cases hi
          obtain⟨s',g',e1,j',le4⟩:=q.g
          exact .inl ⟨s',e1,he,g',j',le4⟩
        | r y hx h1 h2 k2=>
          subst hx; cases hs
          rcases hk with⟨s2,e2,_⟩ | ⟨r',e2,e3⟩
          · cases e2
          · cases e2; exact .inr ⟨k2 e3,h2 id rfl⟩
      cases ex with
      | normal=>
        obtain⟨s',g',rfl,j',le4⟩:=q.g
        obtain⟨hk5,le5⟩:=le4.le hk3 le3
        exact⟨m,Nat.lt_succ_self m,s',hs,g',j',hk5,le5⟩
      | exit i=>
        rcases fin q nofun with⟨s',rfl,he,g',j',le4⟩ | ⟨hke,hne⟩
        · cases he
          obtain⟨hk5,le5⟩:=le4.le hk3 le3
          cases hs
          simp only[Seq,KW,if_true]
          rcases hk with⟨s2,e2,hk⟩ | ⟨r,e2,_⟩
          · cases e2; exact⟨_,_,hk5,le5,next _ _ j' hk⟩
          · cases e2
        · have:i≠id:=λe=>hne (by rw[e])
          simp only[Seq,KW,this,if_false]
          exact⟨_,_,hk3,le3,hke⟩
      | goto l=>
        rcases fin q nofun with⟨_,_,he,_⟩ | ⟨hke,_⟩
        · cases he
        · exact⟨_,_,hk3,le3,hke⟩
      | ret=>
        rcases fin q nofun with⟨_,_,he,_⟩ | ⟨hke,_⟩
        · cases he
        · exact⟨_,_,hk3,le3,hke⟩
      | panic c=>
        rcases fin q nofun with⟨_,_,he,_⟩ | ⟨hke,_⟩
        · cases he
        · exact⟨_,_,hk3,le3,hke⟩
      | outgrown=>
        rcases fin q nofun with⟨_,_,he,_⟩ | ⟨hke,_⟩
        · cases he
        · exact⟨_,_,hk3,le3,hke⟩
end Go.Vm
