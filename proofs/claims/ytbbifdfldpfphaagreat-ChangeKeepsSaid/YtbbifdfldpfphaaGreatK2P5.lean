import Derived.Test.YtbbifdfldpfphaaGreatK2P3
import Derived.Test.YtbbifdfldpfphaaGreatK2P4
import Derived.Laws.Externs
set_option linter.unusedSimpArgs false
set_option linter.unusedVariables false
set_option maxHeartbeats 4000000
set_option maxRecDepth 100000
namespace Go.Proofs.YtbbifdfldpfphaaGreat
open Go.Vm
def GS (m:Nat) (p0:bI) (p1:bI):Option (Bool):=
 after (if (p0.Vol==p1.Vol)=true then (if (p0.File==p1.File)=true then (if (p0.Off==p1.Off)=true then (some (.brk (p0.Len==p1.Len))) else some (.brk false)) else some (.brk false)) else some (.brk false):Option (Lp (Bool) (Bool))) λj0=>some j0
theorem YS {u:Nat} {p0:bI} {p1:bI} {o:Bool} (h:aF) (m:GS u p0 p1=some o):
 aL Tryz.prog 102 [.agg (aM p0),.agg (aM p1)] h (λr h'=>r= .sc (.bool o)∧h'=h):=by
 refine fN 31 [.tmp 4] Tryz.func102 rfl rfl rfl rfl ?_
 unfold GS at m
 refine v (gG rfl rfl λk2 K3=>gG rfl rfl λk5 K6=>vs (fB m (σ:=Bool) (λs=> [(some k5,.obj 81 (aM p1)),(some k2,.obj 81 (aM p0))]) (λs=>.c 4 (.sc (.bool s)) .nil) (λx m=> ?_) ?_))
 refine v (vl 1 _ bX rfl rfl rfl (vl 0 _ bX rfl rfl rfl ?_))
 apply vi m <;> intro b0 m
 rw[b0]
 refine vl 1 _ bX rfl rfl rfl (vl 0 _ bX rfl rfl rfl ?_)
 apply vi m <;> intro b1 m
 rw[b1]
 refine vl 1 _ bX rfl rfl rfl (vl 0 _ bX rfl rfl rfl ?_)
 apply vi m <;> intro b2 m
 rw[b2]
 exact vl 1 _ bX rfl rfl rfl (vl 0 _ bX rfl rfl rfl (iN m))
 rw[b2]
 exact iN m
 rw[b1]
 exact iN m
 rw[b0]
 exact iN m
 rintro _ j0 m
 refine v ?_
 obtain rfl:=eB m
 exact dQ rfl
theorem RS:aO Tryz.prog 102=true:=by kernel_rfl
def GT (m:Nat) (p0:List bI) (p1:List bI) (q0:Int):Option (Lp (Int) (Bool)):=
 if (decide (q0 < (p0.length:Int)))=true then ((ix p0 q0).bind λx0=>(ix p1 q0).bind λx1=>(GS m x0 x1).bind λy0=>if (!y0)=true then (some (.ret false)) else some (.go (IntKind.wrap .i64 (q0+1)))) else some (.brk q0)
def YT (m:Nat) (p0:List bI) (p1:List bI):Option (Bool):=
 if ((p0.length:Int) !=(p1.length:Int))=true then (some false) else after (aT (λs=>GT m p0 p1 s) m 0) λr0=>some true
theorem W84 {u:Nat} {p0:List bI} {p1:List bI} {o:Bool} (h:aF) (m:YT u p0 p1=some o):
 aL Tryz.prog 84 [.sl none 4 (List.map aM p0),.sl none 4 (List.map aM p1)] h (λr h'=>r= .sc (.bool o)∧h'=h):=by
 refine fN 27 [.tmp 4] Tryz.func84 rfl rfl rfl rfl ?_
 unfold YT at m
 refine v (v (cZ iC rfl (cZ iC rfl (v ?_))))
 apply vi m <;> intro c4 m
 refine v (v ?_)
 obtain rfl:=eB m
 exact dQ rfl
 refine v (v (iI m (σ:=Int) (λs=> []) (λs=>.c 0 (.sl none 4 (List.map aM p0)) (.c 1 (.sl none 4 (List.map aM p1)) (.c 5 (nZ s) .nil))) (lx (.k3 .nil)) ?_ ?_))
 rintro _ q0 x m
 replace m:GT u p0 p1 q0=some x:=m
 unfold GT at m
 refine v (cZ iC rfl (v ?_))
 apply vi m <;> intro c0 m
 refine v (v (v (vq (by kernel_rfl) (vx m i8 rfl rfl λx0 _ m=>va (.agg (aM x0)) kL rfl rfl (vx m i8 rfl rfl λx1 _ m=>va (.agg (aM x1)) kL rfl rfl (vk YS RS m rfl rfl λ_ m=>v ?_))))))
 apply vi m <;> intro c1 m
 refine v (v (fO m λm=> ?_))
 obtain rfl:=eB m
 exact dQ rfl
 exact v (v (gH m))
 exact v (xC m)
 rintro _ r0 m
 refine v (v ?_)
 obtain rfl:=eB m
 exact dQ rfl
theorem QC:aO Tryz.prog 84=true:=by kernel_rfl
def GU (m:Nat) (p0:List Int) (p1:List Int) (q0:Int):Option (Lp (Int) (Bool)):=
 if (decide (q0 < (p0.length:Int)))=true then ((ix p0 q0).bind λx0=>(ix p1 q0).bind λx1=>if (x0 !=x1)=true then (some (.ret false)) else some (.go (IntKind.wrap .i64 (q0+1)))) else some (.brk q0)
def M44 (m:Nat) (p0:List Int) (p1:List Int):Option (Bool):=
 if ((p0.length:Int) !=(p1.length:Int))=true then (some false) else after (aT (λs=>GU m p0 p1 s) m 0) λr0=>some true
theorem W44 {u:Nat} {p0:List Int} {p1:List Int} {o:Bool} (h:aF) (m:M44 u p0 p1=some o):
 aL Tryz.prog 44 [.sl none 1 (List.map dD p0),.sl none 1 (List.map dD p1)] h (λr h'=>r= .sc (.bool o)∧h'=h):=by
 refine fN 26 [.tmp 4] Tryz.func44 rfl rfl rfl rfl ?_
 unfold M44 at m
 refine v (v (cZ kK rfl (cZ kK rfl (v ?_))))
 apply vi m <;> intro c4 m
 refine v (v ?_)
 obtain rfl:=eB m
 exact dQ rfl
 refine v (v (iI m (σ:=Int) (λs=> []) (λs=>.c 0 (.sl none 1 (List.map dD p0)) (.c 1 (.sl none 1 (List.map dD p1)) (.c 5 (nZ s) .nil))) (lx (.k3 .nil)) ?_ ?_))
 rintro _ q0 x m
 replace m:GU u p0 p1 q0=some x:=m
 unfold GU at m
 refine v (cZ kK rfl (v ?_))
 apply vi m <;> intro c0 m
 refine v (v (v (vq (by kernel_rfl) (vx m GD rfl rfl λ_ _ m=>vx m GD rfl rfl λ_ _ m=>v ?_))))
 apply vi m <;> intro c1 m
 refine v (v (fO m λm=> ?_))
 obtain rfl:=eB m
 exact dQ rfl
 exact v (v (gH m))
 exact v (xC m)
 rintro _ r0 m
 refine v (v ?_)
 obtain rfl:=eB m
 exact dQ rfl
theorem aEO:aO Tryz.prog 44=true:=by kernel_rfl
def M43 (m:Nat) (p0:aA) (p1:aA):Option (Bool):=
 after (if (decide (p0.Id=p1.Id))=true then (if (p0.Staged==p1.Staged)=true then ((M44 m p0.Data p1.Data).bind λy0=>if y0=true then ((YT m p0.Locs p1.Locs).bind λy1=>some (.brk y1)) else some (.brk false)) else some (.brk false)) else some (.brk false):Option (Lp (Bool) (Bool))) λj0=>some j0
theorem W43 {u:Nat} {p0:aA} {p1:aA} {o:Bool} (h:aF) (m:M43 u p0 p1=some o):
 aL Tryz.prog 43 [.agg (aH p0),.agg (aH p1)] h (λr h'=>r= .sc (.bool o)∧h'=h):=by
 refine fN 31 [.tmp 4] Tryz.func43 rfl rfl rfl rfl ?_
 unfold M43 at m
 refine v (gG rfl rfl λk2 K3=>gG rfl rfl λk5 K6=>vs (fB m (σ:=Bool) (λs=> [(some k5,.obj 44 (aH p1)),(some k2,.obj 44 (aH p0))]) (λs=>.c 4 (.sc (.bool s)) .nil) (λx m=> ?_) ?_))
 refine v (vl 1 (.agg (bJ p0.Id)) fK rfl rfl rfl (vl 0 (.agg (bJ p1.Id)) fK rfl rfl rfl (bU (rM yZ OQ u5 BX rfl rfl) ?_)))
 apply vi m <;> intro b0 m
 rw[b0]
 refine vl 1 _ BW rfl rfl rfl (vl 0 _ BW rfl rfl rfl (bU (PE u4 rfl rfl rfl) ?_))
 apply vi m <;> intro b1 m
 rw[b1]
 refine vl 1 _ lH rfl rfl rfl (vl 0 _ lH rfl rfl rfl (vk W44 aEO m rfl rfl λ_ m=> ?_))
 apply vi m <;> intro b2 m
 rw[b2]
 exact vl 1 _ e8 rfl rfl rfl (vl 0 _ e8 rfl rfl rfl (vk W84 QC m rfl rfl λ_ m=>iN m))
 rw[b2]
 exact iN m
 rw[b1]
 exact iN m
 rw[b0]
 exact iN m
 rintro _ j0 m
 refine v ?_
 obtain rfl:=eB m
 exact dQ rfl
theorem aEQ:aO Tryz.prog 43=true:=by kernel_rfl
def GV (m:Nat) (p0:List aA) (p1:List aA) (q0:Int):Option (Lp (Int) (Bool)):=
 if (decide (q0 < (p0.length:Int)))=true then ((ix p0 q0).bind λx0=>(ix p1 q0).bind λx1=>(M43 m x0 x1).bind λy0=>if (!y0)=true then (some (.ret false)) else some (.go (IntKind.wrap .i64 (q0+1)))) else some (.brk q0)
def M47 (m:Nat) (p0:List aA) (p1:List aA):Option (Bool):=
 if ((p0.length:Int) !=(p1.length:Int))=true then (some false) else after (aT (λs=>GV m p0 p1 s) m 0) λr0=>some true
theorem W47 {u:Nat} {p0:List aA} {p1:List aA} {o:Bool} (h:aF) (m:M47 u p0 p1=some o):
 aL Tryz.prog 47 [.sl none 35 (List.map aH p0),.sl none 35 (List.map aH p1)] h (λr h'=>r= .sc (.bool o)∧h'=h):=by
 refine fN 27 [.tmp 4] Tryz.func47 rfl rfl rfl rfl ?_
 unfold M47 at m
 refine v (v (cZ hM rfl (cZ hM rfl (v ?_))))
 apply vi m <;> intro c4 m
 refine v (v ?_)
 obtain rfl:=eB m
 exact dQ rfl
 refine v (v (iI m (σ:=Int) (λs=> []) (λs=>.c 0 (.sl none 35 (List.map aH p0)) (.c 1 (.sl none 35 (List.map aH p1)) (.c 5 (nZ s) .nil))) (lx (.k3 .nil)) ?_ ?_))
 rintro _ q0 x m
 replace m:GV u p0 p1 q0=some x:=m
 unfold GV at m
 refine v (cZ hM rfl (v ?_))
 apply vi m <;> intro c0 m
 refine v (v (v (vq (by kernel_rfl) (vx m eU rfl rfl λx0 _ m=>va (.agg (aH x0)) lS rfl rfl (vx m eU rfl rfl λx1 _ m=>va (.agg (aH x1)) lS rfl rfl (vk W43 aEQ m rfl rfl λ_ m=>v ?_))))))
 apply vi m <;> intro c1 m
 refine v (v (fO m λm=> ?_))
 obtain rfl:=eB m
 exact dQ rfl
 exact v (v (gH m))
 exact v (xC m)
 rintro _ r0 m
 refine v (v ?_)
 obtain rfl:=eB m
 exact dQ rfl
theorem aES:aO Tryz.prog 47=true:=by kernel_rfl
def GW (m:Nat) (p0:List aR) (p1:List aR) (q0:Int):Option (Lp (Int) (Bool)):=
 if (decide (q0 < (p0.length:Int)))=true then ((ix p0 q0).bind λx0=>(ix p1 q0).bind λx1=>after (if (x0.Pool !=x1.Pool)=true then (some (.brk true)) else if (x0.Epoch !=x1.Epoch)=true then (some (.brk true)) else if (x0.State !=x1.State)=true then (some (.brk true)) else some (.brk (x0.Files !=x1.Files)):Option (Lp (Bool) (Lp (Int) (Bool)))) λj0=>if j0=true then (some (.ret false)) else some (.go (IntKind.wrap .i64 (q0+1)))) else some (.brk q0)
def M82 (m:Nat) (p0:List aR) (p1:List aR):Option (Bool):=
 if ((p0.length:Int) !=(p1.length:Int))=true then (some false) else after (aT (λs=>GW m p0 p1 s) m 0) λr0=>some true
theorem W82 {w:Nat} {p0:List aR} {p1:List aR} {o:Bool} (h:aF) (m:M82 w p0 p1=some o):
 aL Tryz.prog 82 [.sl none 4 (List.map cG p0),.sl none 4 (List.map cG p1)] h (λr h'=>r= .sc (.bool o)∧h'=h):=by
 refine fN 53 [.tmp 4] Tryz.func82 rfl rfl rfl rfl ?_
 unfold M82 at m
 refine v (v (cZ qP rfl (cZ qP rfl (v ?_))))
 apply vi m <;> intro c4 m
 refine v (v ?_)
 obtain rfl:=eB m
 exact dQ rfl
 refine v (v (iI m (σ:=Int) (λs=> []) (λs=>.c 0 (.sl none 4 (List.map cG p0)) (.c 1 (.sl none 4 (List.map cG p1)) (.c 5 (nZ s) .nil))) (lx (.k3 .nil)) ?_ ?_))
 rintro _ q0 x m
 replace m:GW w p0 p1 q0=some x:=m
 unfold GW at m
 refine v (cZ qP rfl (v ?_))
 apply vi m <;> intro c0 m
 refine v (v (v (vz [] mixed (λu=>trivial) λu=>zC 0 rfl (eW (.sl _ _ _) rfl) (zI 1 rfl rfl ?_))))
 obtain⟨x0,X0,m⟩:=aC m
 refine zC 2 rfl (l8 X0 lG rfl rfl) (zC 3 rfl (mN (.agg (cG x0)) PY rfl rfl) (zC 4 rfl (eW (.sl _ _ _) rfl) (zI 5 rfl rfl ?_)))
 obtain⟨x1,X1,m⟩:=aC m
 refine zC 6 rfl (l8 X1 lG rfl rfl) (zC 7 rfl (mN (.agg (cG x1)) PY rfl rfl) (SN 8 9 rfl rfl (by kernel_rfl) ?_ ?_))
 refine(bD (HP) u D5 rfl rfl λk173 K0=>⟨trivial, ?_⟩)
 refine zE 9 rfl (bD (HP) K0 D5 rfl rfl λk176 K1=>⟨trivial, ?_⟩)
 refine zE 10 rfl (aK 1 (cG x0) K1 rfl rfl rfl rfl JJ rfl rfl λK2=>⟨trivial, ?_⟩)
 refine zE 11 rfl (aK 0 (cG x1) K2 rfl rfl rfl rfl JJ rfl rfl λK3=>⟨trivial, ?_⟩)
 refine zX (qk (f:=.c 7 _ (.c 6 _ (PQ 26 _ _ _ _ _ _ _ _ _))) K3 rfl (vs (fB m (σ:=Bool) (λs=> [(some k176,.obj 49 (cG x1)),(some k173,.obj 49 (cG x0))]) (λs=>.c 0 (.sl none 4 (List.map cG p0)) (.c 1 (.sl none 4 (List.map cG p1)) (.c 5 (nZ q0) (.c 52 (.sc (.bool s)) .nil)))) (λx m=> ?_) ?_)))
 refine v (vl 1 _ bX rfl rfl rfl (vl 0 _ bX rfl rfl rfl ?_))
 apply vi m <;> intro b0 m
 rw[b0]
 exact fR m
 rw[b0]
 refine vl 1 _ bX rfl rfl rfl (vl 0 _ bX rfl rfl rfl ?_)
 apply vi m <;> intro b1 m
 rw[b1]
 exact fR m
 rw[b1]
 refine vl 1 _ bX rfl rfl rfl (vl 0 _ bX rfl rfl rfl ?_)
 apply vi m <;> intro b2 m
 rw[b2]
 exact fR m
 rw[b2]
 exact vl 1 _ bX rfl rfl rfl (vl 0 _ bX rfl rfl rfl (fR m))
 rintro _ j0 m
 refine v ?_
 apply vi m <;> intro c1 m
 refine v (v (fO m λm=> ?_))
 obtain rfl:=eB m
 exact dQ rfl
 exact v (v (uZ m (kP [] rfl rfl (.k3 .nil))))
 refine(bD (HP) u D5 rfl rfl λk192 K4=>⟨trivial, ?_⟩)
 refine zE 8 rfl (bD (HP) K4 D5 rfl rfl λk195 K5=>⟨trivial, ?_⟩)
 refine zE 10 rfl (aK 0 (cG x0) K5 rfl rfl rfl rfl JJ rfl rfl λK6=>⟨trivial, ?_⟩)
 refine zE 11 rfl (aK 1 (cG x1) K6 rfl rfl rfl rfl JJ rfl rfl λK7=>⟨trivial, ?_⟩)
 refine zX (qk (f:=.c 6 _ (.c 7 _ (PQ 26 _ _ _ _ _ _ _ _ _))) K7 rfl (vs (fB m (σ:=Bool) (λs=> [(some k195,.obj 49 (cG x0)),(some k192,.obj 49 (cG x1))]) (λs=>.c 0 (.sl none 4 (List.map cG p0)) (.c 1 (.sl none 4 (List.map cG p1)) (.c 5 (nZ q0) (.c 52 (.sc (.bool s)) .nil)))) (λx m=> ?_) ?_)))
 refine v (vl 0 _ bX rfl rfl rfl (vl 1 _ bX rfl rfl rfl ?_))
 apply vi m <;> intro b3 m
 rw[b3]
 exact fR m
 rw[b3]
 refine vl 0 _ bX rfl rfl rfl (vl 1 _ bX rfl rfl rfl ?_)
 apply vi m <;> intro b4 m
 rw[b4]
 exact fR m
 rw[b4]
 refine vl 0 _ bX rfl rfl rfl (vl 1 _ bX rfl rfl rfl ?_)
 apply vi m <;> intro b5 m
 rw[b5]
 exact fR m
 rw[b5]
 exact vl 0 _ bX rfl rfl rfl (vl 1 _ bX rfl rfl rfl (fR m))
 rintro _ j1 m
 refine v ?_
 apply vi m <;> intro c2 m
 refine v (v (fO m λm=> ?_))
 obtain rfl:=eB m
 exact dQ rfl
 exact v (v (uZ m (kP [] rfl rfl (.k3 .nil))))
 exact v (xC m)
 rintro _ r0 m
 refine v (v ?_)
 obtain rfl:=eB m
 exact dQ rfl
theorem aEU:aO Tryz.prog 82=true:=by kernel_rfl
def sM (m:Nat) (p0:List bL) (p1:List bL) (q0:Int):Option (Lp (Int) (Bool)):=
 if (decide (q0 < (p0.length:Int)))=true then ((ix p0 q0).bind λx0=>(ix p1 q0).bind λx1=>if (!decide (x0=x1))=true then (some (.ret false)) else some (.go (IntKind.wrap .i64 (q0+1)))) else some (.brk q0)
def ML (m:Nat) (p0:List bL) (p1:List bL):Option (Bool):=
 if ((p0.length:Int) !=(p1.length:Int))=true then (some false) else after (aT (λs=>sM m p0 p1 s) m 0) λr0=>some true
theorem YU {u:Nat} {p0:List bL} {p1:List bL} {o:Bool} (h:aF) (m:ML u p0 p1=some o):
 aL Tryz.prog 105 [.sl none 32 (List.map bJ p0),.sl none 32 (List.map bJ p1)] h (λr h'=>r= .sc (.bool o)∧h'=h):=by
 refine fN 26 [.tmp 4] Tryz.func105 rfl rfl rfl rfl ?_
 unfold ML at m
 refine v (v (cZ n8 rfl (cZ n8 rfl (v ?_))))
 apply vi m <;> intro c4 m
 refine v (v ?_)
 obtain rfl:=eB m
 exact dQ rfl
 refine v (v (iI m (σ:=Int) (λs=> []) (λs=>.c 0 (.sl none 32 (List.map bJ p0)) (.c 1 (.sl none 32 (List.map bJ p1)) (.c 5 (nZ s) .nil))) (lx (.k3 .nil)) ?_ ?_))
 rintro _ q0 x m
 replace m:sM u p0 p1 q0=some x:=m
 unfold sM at m
 refine v (cZ n8 rfl (v ?_))
 apply vi m <;> intro c0 m
 refine v (v (v (vq (by kernel_rfl) (vx m rV rfl rfl λx0 _ m=>va (.agg (bJ x0)) fK rfl rfl (vx m rV rfl rfl λx1 _ m=>va (.agg (bJ x1)) fK rfl rfl (bU (WN yZ OQ u5 BX rfl rfl) (v ?_)))))))
 apply vi m <;> intro c1 m
 refine v (v (fO m λm=> ?_))
 obtain rfl:=eB m
 exact dQ rfl
 exact v (v (gH m))
 exact v (xC m)
 rintro _ r0 m
 refine v (v ?_)
 obtain rfl:=eB m
 exact dQ rfl
theorem RT:aO Tryz.prog 105=true:=by kernel_rfl
def xS (m:Nat) (p0:bB) (p1:bB) (q0:Int):Option (Lp (Int) (Bool)):=
 if (decide (q0 < (p0.Parts.length:Int)))=true then ((ix p0.Parts q0).bind λx0=>(ix p1.Parts q0).bind λx1=>after (if (!(x0.Path.toList==x1.Path.toList))=true then (some (.brk true)) else if (x0.Size !=x1.Size)=true then (some (.brk true)) else (ML m x0.Ids x1.Ids).bind λy0=>some (.brk (!y0)):Option (Lp (Bool) (Lp (Int) (Bool)))) λj0=>if j0=true then (some (.ret false)) else some (.go (IntKind.wrap .i64 (q0+1)))) else some (.brk q0)
def VU (m:Nat) (p0:bB) (p1:bB):Option (Bool):=
 after (if (!(p0.Name.toList==p1.Name.toList))=true then (some (.brk true)) else some (.brk ((p0.Parts.length:Int) !=(p1.Parts.length:Int))):Option (Lp (Bool) (Bool))) λj0=>if j0=true then (some false) else after (aT (λs=>xS m p0 p1 s) m 0) λr0=>some true
theorem W48 {w:Nat} {p0:bB} {p1:bB} {o:Bool} (h:aF) (m:VU w p0 p1=some o):
 aL Tryz.prog 48 [.agg (aU p0),.agg (aU p1)] h (λr h'=>r= .sc (.bool o)∧h'=h):=by
 refine fN 59 [.tmp 4] Tryz.func48 rfl rfl rfl rfl ?_
 unfold VU at m
 refine v (gG rfl rfl λk2 K3=>gG rfl rfl λk5 K6=>vs (vs (fB m (σ:=Bool) (λs=> [(some k5,.obj 58 (aU p1)),(some k2,.obj 58 (aU p0))]) (λs=>.c 2 (.ptr k2 0) (.c 3 (.ptr k5 0) (.c 21 (.sc (.bool s)) .nil))) (λx m=> ?_) ?_)))
 refine v (vl 1 _ tI rfl rfl rfl (vl 0 _ tI rfl rfl rfl (bU (vI rfl rfl rfl trivial) ?_)))
 apply vi m <;> intro b0 m
 rw[b0]
 exact gH m
 rw[b0]
 exact vl 1 _ kR rfl rfl rfl (cZ p9 rfl (vl 0 _ kR rfl rfl rfl (cZ p9 rfl (gH m))))
 rintro _ j0 m
 refine v ?_
 apply vi m <;> intro c0 m
 refine v (v ?_)
 obtain rfl:=eB m
 exact dQ rfl
 refine v (v (iI m (σ:=Int) (λs=> [(some k5,.obj 58 (aU p1)),(some k2,.obj 58 (aU p0))]) (λs=>.c 2 (.ptr k2 0) (.c 3 (.ptr k5 0) (.c 5 (nZ s) .nil))) (lx (.k3 .nil)) ?_ ?_))
 rintro _ q0 x m
 replace m:xS w p0 p1 q0=some x:=m
 unfold xS at m
 refine v (vl 1 _ kR rfl rfl rfl (cZ p9 rfl (v ?_)))
 apply vi m <;> intro c1 m
 refine v (v (v (vz [(1000000,some k2,.obj 58 (aU p0)),(1000000,some k5,.obj 58 (aU p1))] mixed (λu=>⟨λ_=>aI 1 u rfl,λ_=>aI 0 u rfl,trivial⟩) λu=>zF 0 rfl qQ rfl (zL 1 0 (.sl none 3 (List.map bT p0.Parts)) rfl kR rfl rfl rfl (zI 2 rfl rfl ?_)))))
 obtain⟨x0,X0,m⟩:=aC m
 refine zC 3 rfl (l8 X0 pG rfl rfl) (zC 4 rfl (mN (.agg (bT x0)) xE rfl rfl) (zF 5 rfl qQ rfl (zL 6 1 (.sl none 3 (List.map bT p1.Parts)) rfl kR rfl rfl rfl (zI 7 rfl rfl ?_))))
 obtain⟨x1,X1,m⟩:=aC m
 refine zC 8 rfl (l8 X1 pG rfl rfl) (zC 9 rfl (mN (.agg (bT x1)) xE rfl rfl) (SN 10 11 rfl rfl (by kernel_rfl) ?_ ?_))
 refine(bD (OL) u xF rfl rfl λk191 K0=>⟨⟨λ_=>aI 2 K0 rfl,λ_=>aI 1 K0 rfl,trivial⟩, ?_⟩)
 refine zE 11 rfl (bD (OL) K0 xF rfl rfl λk194 K1=>⟨⟨λ_=>aI 3 K1 rfl,λ_=>aI 2 K1 rfl,trivial⟩, ?_⟩)
 refine zE 12 rfl (aK 1 (bT x0) K1 rfl rfl rfl rfl zD rfl rfl λK2=>⟨⟨λ_=>aI 3 K2 rfl,λ_=>aI 2 K2 rfl,trivial⟩, ?_⟩)
 refine zE 13 rfl (aK 0 (bT x1) K2 rfl rfl rfl rfl zD rfl rfl λK4=>⟨⟨λ_=>aI 3 K4 rfl,λ_=>aI 2 K4 rfl,trivial⟩, ?_⟩)
 refine zX (qk (f:=.c 7 _ (.c 6 _ (JC 38 _ _ _ _ _ _ _ _ _ _ _))) K4 rfl (vs (fB m (σ:=Bool) (λs=> [(some k194,.obj 70 (bT x1)),(some k191,.obj 70 (bT x0)),(some k5,.obj 58 (aU p1)),(some k2,.obj 58 (aU p0))]) (λs=>.c 2 (.ptr k2 0) (.c 3 (.ptr k5 0) (.c 5 (nZ q0) (.c 58 (.sc (.bool s)) .nil)))) (λx m=> ?_) ?_)))
 refine v (vl 1 _ tI rfl rfl rfl (vl 0 _ tI rfl rfl rfl (bU (vI rfl rfl rfl trivial) ?_)))
 apply vi m <;> intro b1 m
 rw[b1]
 exact fR m
 rw[b1]
 refine vl 1 _ bX rfl rfl rfl (vl 0 _ bX rfl rfl rfl ?_)
 apply vi m <;> intro b2 m
 rw[b2]
 exact fR m
 rw[b2]
 exact vl 1 _ pH rfl rfl rfl (vl 0 _ pH rfl rfl rfl (vk YU RT m rfl rfl λ_ m=>fR m))
 rintro _ j1 m
 refine v ?_
 apply vi m <;> intro c2 m
 refine v (v (fO m λm=> ?_))
 obtain rfl:=eB m
 exact dQ rfl
 exact v (v (uZ m (kP [2,3] rfl rfl (.k3 .nil))))
 refine(bD (OL) u xF rfl rfl λk212 K5=>⟨⟨λ_=>aI 2 K5 rfl,λ_=>aI 1 K5 rfl,trivial⟩, ?_⟩)
 refine zE 10 rfl (bD (OL) K5 xF rfl rfl λk215 K7=>⟨⟨λ_=>aI 3 K7 rfl,λ_=>aI 2 K7 rfl,trivial⟩, ?_⟩)
 refine zE 12 rfl (aK 0 (bT x0) K7 rfl rfl rfl rfl zD rfl rfl λK8=>⟨⟨λ_=>aI 3 K8 rfl,λ_=>aI 2 K8 rfl,trivial⟩, ?_⟩)
 refine zE 13 rfl (aK 1 (bT x1) K8 rfl rfl rfl rfl zD rfl rfl λK9=>⟨⟨λ_=>aI 3 K9 rfl,λ_=>aI 2 K9 rfl,trivial⟩, ?_⟩)
 refine zX (qk (f:=.c 6 _ (.c 7 _ (JC 38 _ _ _ _ _ _ _ _ _ _ _))) K9 rfl (vs (fB m (σ:=Bool) (λs=> [(some k215,.obj 70 (bT x0)),(some k212,.obj 70 (bT x1)),(some k5,.obj 58 (aU p1)),(some k2,.obj 58 (aU p0))]) (λs=>.c 2 (.ptr k2 0) (.c 3 (.ptr k5 0) (.c 5 (nZ q0) (.c 58 (.sc (.bool s)) .nil)))) (λx m=> ?_) ?_)))
 refine v (vl 0 _ tI rfl rfl rfl (vl 1 _ tI rfl rfl rfl (bU (vI rfl rfl rfl trivial) ?_)))
 apply vi m <;> intro b3 m
 rw[b3]
 exact fR m
 rw[b3]
 refine vl 0 _ bX rfl rfl rfl (vl 1 _ bX rfl rfl rfl ?_)
 apply vi m <;> intro b4 m
 rw[b4]
 exact fR m
 rw[b4]
 exact vl 0 _ pH rfl rfl rfl (vl 1 _ pH rfl rfl rfl (vk YU RT m rfl rfl λ_ m=>fR m))
 rintro _ j2 m
 refine v ?_
 apply vi m <;> intro c3 m
 refine v (v (fO m λm=> ?_))
 obtain rfl:=eB m
 exact dQ rfl
 exact v (v (uZ m (kP [2,3] rfl rfl (.k3 .nil))))
 exact v (xC m)
 rintro _ r0 m
 refine v (v ?_)
 obtain rfl:=eB m
 exact dQ rfl
theorem YV:aO Tryz.prog 48=true:=by kernel_rfl
def M83 (m:Nat) (p0:aG) (p1:aG):Option (Bool):=
 after (if (p0.Seq==p1.Seq)=true then ((VU m p0.Man p1.Man).bind λy0=>if y0=true then ((YT m p0.Locs p1.Locs).bind λy1=>some (.brk y1)) else some (.brk false)) else some (.brk false):Option (Lp (Bool) (Bool))) λj0=>some j0
theorem W83 {u:Nat} {p0:aG} {p1:aG} {o:Bool} (h:aF) (m:M83 u p0 p1=some o):
 aL Tryz.prog 83 [.agg (bP p0),.agg (bP p1)] h (λr h'=>r= .sc (.bool o)∧h'=h):=by
 refine fN 24 [.tmp 4] Tryz.func83 rfl rfl rfl rfl ?_
 unfold M83 at m
 refine v (gG rfl rfl λk2 K3=>gG rfl rfl λk5 K6=>vs (fB m (σ:=Bool) (λs=> [(some k5,.obj 60 (bP p1)),(some k2,.obj 60 (bP p0))]) (λs=>.c 4 (.sc (.bool s)) .nil) (λx m=> ?_) ?_))
 refine v (vl 1 _ bX rfl rfl rfl (vl 0 _ bX rfl rfl rfl ?_))
 apply vi m <;> intro b0 m
 rw[b0]
 refine vl 1 (.agg (aU p0.Man)) lI rfl rfl rfl (vl 0 (.agg (aU p1.Man)) lI rfl rfl rfl (vk W48 YV m rfl rfl λ_ m=> ?_))
 apply vi m <;> intro b1 m
 rw[b1]
 exact vl 1 _ e8 rfl rfl rfl (vl 0 _ e8 rfl rfl rfl (vk W84 QC m rfl rfl λ_ m=>iN m))
 rw[b1]
 exact iN m
 rw[b0]
 exact iN m
 rintro _ j0 m
 refine v ?_
 obtain rfl:=eB m
 exact dQ rfl
theorem aEW:aO Tryz.prog 83=true:=by kernel_rfl
def GX (m:Nat) (p0:aB) (p1:aB) (q0:Int):Option (Lp (Int) (Bool)):=
 if (decide (q0 < (p0.Snaps.length:Int)))=true then ((ix p0.Snaps q0).bind λx0=>(ix p1.Snaps q0).bind λx1=>(M83 m x0 x1).bind λy0=>if (!y0)=true then (some (.ret false)) else some (.go (IntKind.wrap .i64 (q0+1)))) else some (.brk q0)
def GY (m:Nat) (p0:aB) (p1:aB) (q0:Int):Option (Lp (Int) (Bool)):=
 if (decide (q0 < (p0.Exps.length:Int)))=true then ((ix p0.Exps q0).bind λx0=>(ix p1.Exps q0).bind λx1=>after (if (x0.Seq !=x1.Seq)=true then (some (.brk true)) else if (x0.Of !=x1.Of)=true then (some (.brk true)) else (YT m x0.Locs x1.Locs).bind λy0=>some (.brk (!y0)):Option (Lp (Bool) (Lp (Int) (Bool)))) λj0=>if j0=true then (some (.ret false)) else some (.go (IntKind.wrap .i64 (q0+1)))) else some (.brk q0)
def M34 (m:Nat) (p0:aB) (p1:aB):Option (Bool):=
 after (if ((p0.Snaps.length:Int) !=(p1.Snaps.length:Int))=true then (some (.brk true)) else if ((p0.Exps.length:Int) !=(p1.Exps.length:Int))=true then (some (.brk true)) else (M47 m p0.Chunks p1.Chunks).bind λy0=>if (!y0)=true then (some (.brk true)) else (M82 m p0.Vols p1.Vols).bind λy1=>some (.brk (!y1)):Option (Lp (Bool) (Bool))) λj0=>if j0=true then (some false) else after (aT (λs=>GX m p0 p1 s) m 0) λr0=>after (aT (λs=>GY m p0 p1 s) m 0) λr1=>some true
theorem W34 {w:Nat} {p0:aB} {p1:aB} {o:Bool} (h:aF) (m:M34 w p0 p1=some o):
 aL Tryz.prog 34 [.agg (aE p0),.agg (aE p1)] h (λr h'=>r= .sc (.bool o)∧h'=h):=by
 refine fN 97 [.tmp 4] Tryz.func34 rfl rfl rfl rfl ?_
 unfold M34 at m
 refine v (gG rfl rfl λk2 K3=>gG rfl rfl λk5 K6=>vs (vs (fB m (σ:=Bool) (λs=> [(some k5,.obj 30 (aE p1)),(some k2,.obj 30 (aE p0))]) (λs=>.c 2 (.ptr k2 0) (.c 3 (.ptr k5 0) (.c 40 (.sc (.bool s)) .nil))) (λx m=> ?_) ?_)))
 refine v (vl 1 _ eK rfl rfl rfl (cZ iJ rfl (vl 0 _ eK rfl rfl rfl (cZ iJ rfl ?_))))
 apply vi m <;> intro b0 m
 rw[b0]
 exact gH m
 rw[b0]
 refine vl 1 _ hX rfl rfl rfl (cZ nK rfl (vl 0 _ hX rfl rfl rfl (cZ nK rfl ?_)))
 apply vi m <;> intro b1 m
 rw[b1]
 exact gH m
 rw[b1]
 refine vl 1 _ eD rfl rfl rfl (vl 0 _ eD rfl rfl rfl (vk W47 aES m rfl rfl λ_ m=> ?_))
 apply vi m <;> intro b2 m
 rw[b2]
 exact gH m
 rw[b2]
 exact vl 1 _ iK rfl rfl rfl (vl 0 _ iK rfl rfl rfl (vk W82 aEU m rfl rfl λ_ m=>gH m))
 rintro _ j0 m
 refine v ?_
 apply vi m <;> intro c0 m
 refine v (v ?_)
 obtain rfl:=eB m
 exact dQ rfl
 refine v (v (iI m (σ:=Int) (λs=> [(some k5,.obj 30 (aE p1)),(some k2,.obj 30 (aE p0))]) (λs=>.c 2 (.ptr k2 0) (.c 3 (.ptr k5 0) (.c 5 (nZ s) .nil))) (lx (.k3 .nil)) ?_ ?_))
 rintro _ q0 x m
 replace m:GX w p0 p1 q0=some x:=m
 unfold GX at m
 refine v (vl 1 _ eK rfl rfl rfl (cZ iJ rfl (v ?_)))
 apply vi m <;> intro c1 m
 refine v (v (v (vq (by kernel_rfl) (vl 1 _ eK rfl rfl rfl (vx m gJ rfl rfl λx0 _ m=>va (.agg (bP x0)) qR rfl rfl (vl 0 _ eK rfl rfl rfl (vx m gJ rfl rfl λx1 _ m=>va (.agg (bP x1)) qR rfl rfl (vk W83 aEW m rfl rfl λ_ m=>v ?_))))))))
 apply vi m <;> intro c2 m
 refine v (v (fO m λm=> ?_))
 obtain rfl:=eB m
 exact dQ rfl
 exact v (v (gH m))
 exact v (xC m)
 rintro _ r0 m
 refine v (iI m (σ:=Int) (λs=> [(some k5,.obj 30 (aE p1)),(some k2,.obj 30 (aE p0))]) (λs=>.c 2 (.ptr k2 0) (.c 3 (.ptr k5 0) (.c 6 (nZ s) .nil))) (lx (.k3 .nil)) ?_ ?_)
 rintro _ q1 x m
 replace m:GY w p0 p1 q1=some x:=m
 unfold GY at m
 refine v (vl 1 _ hX rfl rfl rfl (cZ nK rfl (v ?_)))
 apply vi m <;> intro c3 m
 refine v (v (v (vz [(1000000,some k2,.obj 30 (aE p0)),(1000000,some k5,.obj 30 (aE p1))] mixed (λu=>⟨λ_=>aI 1 u rfl,λ_=>aI 0 u rfl,trivial⟩) λu=>zF 0 rfl eT rfl (zL 1 0 (.sl none 3 (List.map cD p0.Exps)) rfl hX rfl rfl rfl (zI 2 rfl rfl ?_)))))
 obtain⟨x2,X0,m⟩:=aC m
 refine zC 3 rfl (l8 X0 hU rfl rfl) (zC 4 rfl (mN (.agg (cD x2)) qS rfl rfl) (zF 5 rfl eT rfl (zL 6 1 (.sl none 3 (List.map cD p1.Exps)) rfl hX rfl rfl rfl (zI 7 rfl rfl ?_))))
 obtain⟨x3,X1,m⟩:=aC m
 refine zC 8 rfl (l8 X1 hU rfl rfl) (zC 9 rfl (mN (.agg (cD x3)) qS rfl rfl) (SN 10 11 rfl rfl (by kernel_rfl) ?_ ?_))
 refine(bD ([nZ 0,nZ 0,sZ]) u n9 rfl rfl λk247 K0=>⟨⟨λ_=>aI 2 K0 rfl,λ_=>aI 1 K0 rfl,trivial⟩, ?_⟩)
 refine zE 11 rfl (bD ([nZ 0,nZ 0,sZ]) K0 n9 rfl rfl λk250 K1=>⟨⟨λ_=>aI 3 K1 rfl,λ_=>aI 2 K1 rfl,trivial⟩, ?_⟩)
 refine zE 12 rfl (aK 1 (cD x2) K1 rfl rfl rfl rfl xG rfl rfl λK2=>⟨⟨λ_=>aI 3 K2 rfl,λ_=>aI 2 K2 rfl,trivial⟩, ?_⟩)
 refine zE 13 rfl (aK 0 (cD x3) K2 rfl rfl rfl rfl xG rfl rfl λK4=>⟨⟨λ_=>aI 3 K4 rfl,λ_=>aI 2 K4 rfl,trivial⟩, ?_⟩)
 refine zX (qk (f:=.c 8 _ (.c 7 _ (JC 76 _ _ _ _ _ _ _ _ _ _ _))) K4 rfl (vs (fB m (σ:=Bool) (λs=> [(some k250,.obj 99 (cD x3)),(some k247,.obj 99 (cD x2)),(some k5,.obj 30 (aE p1)),(some k2,.obj 30 (aE p0))]) (λs=>.c 2 (.ptr k2 0) (.c 3 (.ptr k5 0) (.c 6 (nZ q1) (.c 96 (.sc (.bool s)) .nil)))) (λx m=> ?_) ?_)))
 refine v (vl 1 _ bX rfl rfl rfl (vl 0 _ bX rfl rfl rfl ?_))
 apply vi m <;> intro b3 m
 rw[b3]
 exact fR m
 rw[b3]
 refine vl 1 _ bX rfl rfl rfl (vl 0 _ bX rfl rfl rfl ?_)
 apply vi m <;> intro b4 m
 rw[b4]
 exact fR m
 rw[b4]
 exact vl 1 _ e8 rfl rfl rfl (vl 0 _ e8 rfl rfl rfl (vk W84 QC m rfl rfl λ_ m=>fR m))
 rintro _ j1 m
 refine v ?_
 apply vi m <;> intro c4 m
 refine v (v (fO m λm=> ?_))
 obtain rfl:=eB m
 exact dQ rfl
 exact v (v (uZ m (kP [2,3] rfl rfl (.k3 .nil))))
 refine(bD ([nZ 0,nZ 0,sZ]) u n9 rfl rfl λk268 K5=>⟨⟨λ_=>aI 2 K5 rfl,λ_=>aI 1 K5 rfl,trivial⟩, ?_⟩)
 refine zE 10 rfl (bD ([nZ 0,nZ 0,sZ]) K5 n9 rfl rfl λk271 K7=>⟨⟨λ_=>aI 3 K7 rfl,λ_=>aI 2 K7 rfl,trivial⟩, ?_⟩)
 refine zE 12 rfl (aK 0 (cD x2) K7 rfl rfl rfl rfl xG rfl rfl λK8=>⟨⟨λ_=>aI 3 K8 rfl,λ_=>aI 2 K8 rfl,trivial⟩, ?_⟩)
 refine zE 13 rfl (aK 1 (cD x3) K8 rfl rfl rfl rfl xG rfl rfl λK9=>⟨⟨λ_=>aI 3 K9 rfl,λ_=>aI 2 K9 rfl,trivial⟩, ?_⟩)
 refine zX (qk (f:=.c 7 _ (.c 8 _ (JC 76 _ _ _ _ _ _ _ _ _ _ _))) K9 rfl (vs (fB m (σ:=Bool) (λs=> [(some k271,.obj 99 (cD x2)),(some k268,.obj 99 (cD x3)),(some k5,.obj 30 (aE p1)),(some k2,.obj 30 (aE p0))]) (λs=>.c 2 (.ptr k2 0) (.c 3 (.ptr k5 0) (.c 6 (nZ q1) (.c 96 (.sc (.bool s)) .nil)))) (λx m=> ?_) ?_)))
 refine v (vl 0 _ bX rfl rfl rfl (vl 1 _ bX rfl rfl rfl ?_))
 apply vi m <;> intro b5 m
 rw[b5]
 exact fR m
 rw[b5]
 refine vl 0 _ bX rfl rfl rfl (vl 1 _ bX rfl rfl rfl ?_)
 apply vi m <;> intro b6 m
 rw[b6]
 exact fR m
 rw[b6]
 exact vl 0 _ e8 rfl rfl rfl (vl 1 _ e8 rfl rfl rfl (vk W84 QC m rfl rfl λ_ m=>fR m))
 rintro _ j2 m
 refine v ?_
 apply vi m <;> intro c5 m
 refine v (v (fO m λm=> ?_))
 obtain rfl:=eB m
 exact dQ rfl
 exact v (v (uZ m (kP [2,3] rfl rfl (.k3 .nil))))
 exact v (xC m)
 rintro _ r1 m
 refine v (v ?_)
 obtain rfl:=eB m
 exact dQ rfl
theorem aEX:aO Tryz.prog 34=true:=by kernel_rfl
open Go.Vm
theorem mT {α ρ:Type} {l:List α} {F:Nat} {body:Int→Option (Lp Int ρ)} (q:α→Bool) (r:ρ) (hF:l.length < F) (hb:∀(i:Nat) (x:α),l[i]? =some x→x∈l→i < l.length→body (i:Int)=some (if q x then .ret r else .go ((i+1:Nat):Int)))
    (he:body (l.length:Int)=some (.brk (l.length:Int))):aT body F 0=some (if l.any q then .ret r else .brk (l.length:Int)):=by
  rw[fD (s0:=(0:Int)) (n:=l.length) (F:=F) (λi:Nat=>(i:Int)) (λi=>(l[i]?).any q) (λ_=>r) hF rfl (λi hi _=>by
    rw[hb i l[i] (List.getElem?_eq_getElem hi) (List.getElem_mem hi) hi,List.getElem?_eq_getElem hi]; rfl) (λ_=>he),iD,iO]
theorem m53 {F:Nat} {l:List bI} (hl:l.length≤1000):xR F l=some l:=by unfold xR; rw[dV (by simp; omega)]; simp
theorem QD {F:Nat} {l:List Int} (hl:l.length≤1000):zQ F l=some l:=by unfold zQ; rw[dV (by simp; omega)]; simp
theorem jS {S ρ:Type} {body:S→Option (Lp S ρ)} {n F:Nat} {s0:S} (emb:Nat→S) (hF:n < F) (h0:s0=emb 0) (hb:∀i,i < n→body (emb i)=some (.go (emb (i+1)))) (he:body (emb n)=some (.brk (emb n))):
    aT body F s0=some (.brk (emb n)):=by
  obtain⟨s',h1,h2⟩:=pJ (body:=body) (I:=λi s=>s=emb i) (n:=n) (λi s hi hs=>⟨_,by rw[hs]; exact hb i hi,rfl⟩) (λs hs=>by rw[hs]; exact he) F 0 s0 (Nat.zero_le _) (by omega) h0
  rw[h2,h1]
theorem pX {α ρ:Type} {l:List α} {F:Nat} {body:List α×Int→Option (Lp (List α×Int) ρ)} (hF:l.length < F)
    (hb:∀(i:Nat) (x:α),l[i]? =some x→x∈l→i < l.length→body (l.take i,(i:Int))=some (.go (l.take i++ [x],((i+1:Nat):Int)))) (he:body (l,(l.length:Int))=some (.brk (l,(l.length:Int)))):
    aT body F ([],0)=some (.brk (l,(l.length:Int))):=by
  have:=jS (body:=body) (s0:=(([]:List α),(0:Int))) (n:=l.length) (F:=F) (λi:Nat=>(l.take i,(i:Int))) hF rfl (λi hi=>by
    rw[hb i l[i] (List.getElem?_eq_getElem hi) (List.getElem_mem hi) hi]
    simp) (by simpa using he)
  simpa using this
theorem m52 {F:Nat} {m:bB} (hF:1000≤F) (hp:m.Parts.length≤10) (hi:∀p∈m.Parts,p.Ids.length≤40):GO F m=some m:=by
 unfold GO
 rw[pX (l:=m.Parts) (by omega) (λi x hx hm hi'=>by
  have:=hi x hm
  unfold sK
  rw[hH (by omega)]
  simp only[bO,hx,Option.bind_some,Int.ofNat_lt,hi',decide_true,if_true]
  rw[dV (by simp; omega)]
  simp only[Option.bind_some,List.nil_append]
  rw[dV (by simp; omega)]
  rfl) (by unfold sK; simp)]
 rfl
theorem m54 {F:Nat} {l:List aA} (hF:1000≤F) (hl:l.length≤400) (hx:∀x∈l,x.Locs.length≤300∧x.Data.length≤300):GP F l=some l:=by
 unfold GP
 rw[pX (l:=l) (by omega) (λi x hx' hm hi'=>by
  have:=hx x hm
  unfold sL
  rw[hH (by omega)]
  simp only[bO,hx',Option.bind_some,Int.ofNat_lt,hi',decide_true,if_true,QD (F:=F) (show x.Data.length≤1000 by omega),m53 (F:=F) (show x.Locs.length≤1000 by omega)]
  rw[dV (by simp; omega)]
  rfl) (by unfold sL; simp)]
 rfl
theorem m14 {F:Nat} {c:aB} (hF:1000≤F) (h:Sm c):M90 F c=some c:=by
 have hsn:=h.sn
 have hex:=h.ex
 have hvo:=h.vo
 unfold M90
 rw[pX (l:=c.Snaps) (by omega) (λi x hx hm hi'=>by
  have h1:=h.sl x hm
  obtain⟨-,h2,h3⟩:=h.man x hm
  unfold GQ
  rw[hH (by omega)]
  simp only[bO,hx,Option.bind_some,Int.ofNat_lt,hi',decide_true,if_true,m52 hF h2 (λp hp=>(h3 p hp).2),m53 (F:=F) (show x.Locs.length≤1000 by omega)]
  rw[dV (by simp; omega)]
  rfl) (by unfold GQ; simp)]
 rw[pX (l:=c.Exps) (by omega) (λi x hx hm hi'=>by
  have h1:=h.el x hm
  unfold GR
  rw[hH (by omega)]
  simp only[bO,hx,Option.bind_some,Int.ofNat_lt,hi',decide_true,if_true,m53 (F:=F) (show x.Locs.length≤1000 by omega)]
  rw[dV (by simp; omega)]
  rfl) (by unfold GR; simp)]
 simp only[aJ,m54 hF h.ch h.cl,Option.bind_some]
 rw[dV (by simp; omega)]
 rfl
theorem aEZ {F:Nat} {l:List bL} (hF:1000≤F) (hl:l.length≤300):ML F l l=some true:=by
 unfold ML
 rw[if_neg (by simp),mT (l:=l) (F:=F) (λ_=>false) false (by omega) (λi x hx _ hi=>by
  unfold sM
  rw[hH (by omega)]
  simp[bO,hx,hi,after]) (by unfold sM; simp)]
 simp[after]
theorem aE0 {F:Nat} {m:bB} (hF:1000≤F) (hp:m.Parts.length≤10) (hi:∀p∈m.Parts,p.Ids.length≤40):VU F m m=some true:=by
 unfold VU
 rw[mT (l:=m.Parts) (F:=F) (λ_=>false) false (by omega) (λi x hx' hm hi'=>by
  have:=hi x hm
  unfold xS
  rw[hH (by omega)]
  simp only[bO,hx',Option.bind_some,aEZ hF (show x.Ids.length≤300 by omega)]; simp[hi',after]) (by unfold xS; simp)]
 simp[after]
open Go.Vm
def GZ (m:Nat) (p0:List Int) (q0:List aR) (q1:Int):Option (Lp ((List aR)×Int) (aB×Int)):=
 if (decide (q1 < (p0.length:Int)))=true then ((ix p0 q1).bind λx0=>(xI m x0 0 1).bind λy0=>if (!y0)=true then (some (.ret (({ Seq:=0,Snaps:= [],Chunks:= [],Exps:= [],Vols:= []}:aB),1))) else (app q0 ([({ Pool:=x0,Epoch:=0,State:=1,Files:=0}:aR)]:List aR)).bind λz0=>some (.go (z0,IntKind.wrap .i64 (q1+1)))) else some (.brk (q0,q1))
def M32 (m:Nat) (p0:List Int):Option (aB×Int):=
 (xI m (p0.length:Int) 1 8).bind λy7=>if (!y7)=true then (some (({ Seq:=0,Snaps:= [],Chunks:= [],Exps:= [],Vols:= []}:aB),2)) else after (aT (λs=>GZ m p0 s.1 s.2) m ([],0)) λ⟨r0,r1⟩=>some (({ Seq:=0,Snaps:= [],Chunks:= [],Exps:= [],Vols:=r0}:aB),0)
theorem W32 {w:Nat} {p0:List Int} {o:aB×Int} (h:aF) (m:M32 w p0=some o):
 aL Tryz.prog 32 [.sl none 1 (List.map iY p0)] h (λr h'=>r= .tup [.agg (aE o.1),nZ o.2]∧h'=h):=by
 refine fN 31 [.cell 2 30,.tmp 3] Tryz.func32 rfl rfl rfl rfl ?_
 unfold M32 at m
 refine v (ve λu=>bD (gR) u pE rfl rfl λk2 K3=>qk K3 rfl (v (cZ JE rfl (vk B6 oA m rfl rfl λ_ m=>v ?_))))
 apply vi m <;> intro c9 m
 refine v (bU (fG (gR) yY rfl) (ve λu=>aK 0 (gR) u rfl rfl rfl rfl lQ rfl rfl λK0=>qk K0 rfl (v ?_)))
 cases m
 exact vr λu=>dX.of2 (.inl rfl) (qD (.agg (gR)) eV rfl (a9 0 u rfl) rfl) (fU _ _ (.sc (.int _ _)) rfl) (aS (List.nil_sublist _) u).1 (bH.agg (.cons (bH.refl _ _) (.cons (aX _) (.cons (aX _) (.cons (aX _) (.cons (aX _) .nil)))))) (bH.refl _ _) ⟨rfl,rfl⟩
 refine v (v (ve λu=>bD (gR) u pE rfl rfl λk13 K1=>qk K1 rfl (v (cZ JE rfl (pU (WX (.tok 49 4 (([]:List aR).length*4)) 1 ([nZ 0,sZ,sZ,sZ,ow none 4 (List.map cG [])]) rfl (.k4 (.cons (jE (c:=cG) _ 4) .nil))) (nC m (σ:=(List aR)×Int) (τ:=Option cB) (λg s=> [(g,.tok 49 4 ((s.1:List aR).length*4)),(some k13,.obj 30 ([nZ 0,sZ,sZ,sZ,ow g 4 (List.map cG s.1)])),(some k2,.obj 30 (gR))]) (λg s=>(g=none→s.1= [])) (λg s=>.c 2 (.ptr k2 0) (.c 4 (.ptr k13 0) (.c 12 (.sl none 1 (List.map iY p0)) (.c 13 (nZ (p0.length:Int)) (.c 14 (nZ s.2) .nil))))) none (λ_=>rfl) (lx (.k5 .nil)) ?_ ?_))))))
 rintro tg0 ⟨q0,q1⟩ x t0 m
 replace m:GZ w p0 q0 q1=some x:=m
 unfold GZ at m
 refine v (v ?_)
 apply vi m <;> intro c0 m
 refine v (v (v (vx m S2 rfl rfl λx0 _ m=>v (vk B6 oA m rfl rfl λ_ m=>v ?_))))
 apply vi m <;> intro c1 m
 refine v (bU (fG (gR) yY rfl) (ve λu=>aK 2 (gR) u rfl rfl rfl rfl lQ rfl rfl λK2=>qk K2 rfl (v (fO m λm=> ?_))))
 cases m
 exact vr λu=>dX.of2 (.inl rfl) (qD (.agg (gR)) eV rfl (a9 2 u rfl) rfl) (fU _ _ (.sc (.int _ _)) rfl) (aS (List.nil_sublist _) u).1 (bH.agg (.cons (bH.refl _ _) (.cons (aX _) (.cons (aX _) (.cons (aX _) (.cons (aX _) .nil)))))) (bH.refl _ _) ⟨rfl,rfl⟩
 refine v (v (vl 1 (ow tg0 4 (List.map cG q0)) iK rfl rfl rfl (bU (fG (cG ({ Pool:=x0,Epoch:=0,State:=1,Files:=0}:aR)) W2 rfl) (bU (eO (List.map cG ([({ Pool:=x0,Epoch:=0,State:=1,Files:=0}:aR)]:List aR)) F9 rfl rfl rfl rfl) ?_))))
 obtain⟨z0,Z0,m⟩:=aC m
 exact ve λu=>fF (c:=cG) 0 Z0 F9 rfl rfl rfl t0 u rfl λtg1 t1 K4=>qk K4 rfl (ve λu=>aK 1 ([nZ 0,sZ,sZ,sZ,ow tg1 4 (List.map cG z0)]) u rfl rfl (jF rfl) (o9 _ _ _) PW rfl rfl λK5=>qk K5 rfl (v (eY m tg1 t1 (lx (.k5 .nil)))))
 exact v (lA m tg0 t0 (lx (.k5 .nil)))
 rintro tg2 ⟨r0,r1⟩ t2 m
 refine v (vl 1 (.agg ([nZ 0,sZ,sZ,sZ,ow tg2 4 (List.map cG r0)])) eV rfl rfl rfl (ve λu=>aK 2 ([nZ 0,sZ,sZ,sZ,ow tg2 4 (List.map cG r0)]) u rfl rfl rfl (by repeat (first | exact rfl | refine cE (iH _ _ _) ?_ | refine cE (bY _ _ _) ?_ | refine cE (f9 _ _ _ _) ?_ | refine cE rfl ?_)) lQ rfl rfl λK6=>qk K6 rfl ?_))
 refine v ?_
 cases m
 exact vr λu=>dX.of2 (.inl rfl) (qD (.agg ([nZ 0,sZ,sZ,sZ,ow tg2 4 (List.map cG r0)])) eV rfl (a9 2 u rfl) rfl) (fU _ _ (.sc (.int _ _)) rfl) (aS (List.nil_sublist _) u).1 (bH.agg (.cons (bH.refl _ _) (.cons (aX _) (.cons (aX _) (.cons (aX _) (.cons ((eZ _ 0 t2 u rfl)) .nil)))))) (bH.refl _ _) ⟨rfl,rfl⟩
theorem aE2:aO Tryz.prog 32=true:=by kernel_rfl
def xT (m:Nat) (p0:List Int) (q0:List aR) (q1:Int):Option (Lp ((List aR)×Int) (aB)):=
 if (decide (q1 < (p0.length:Int)))=true then ((ix p0 q1).bind λx0=>(app q0 ([({ Pool:=x0,Epoch:=0,State:=1,Files:=0}:aR)]:List aR)).bind λz0=>some (.go (z0,IntKind.wrap .i64 (q1+1)))) else some (.brk (q0,q1))
def YW (m:Nat) (p0:List Int):Option (aB):=
 after (aT (λs=>xT m p0 s.1 s.2) m ([],0)) λ⟨r0,r1⟩=>some ({ Seq:=0,Snaps:= [],Chunks:= [],Exps:= [],Vols:=r0}:aB)
theorem W33 {w:Nat} {p0:List Int} {o:aB} (h:aF) (m:YW w p0=some o):
 aL Tryz.prog 33 [.sl none 1 (List.map iY p0)] h (λr h'=>r= .agg (aE o)∧h'=h):=by
 refine fN 22 [.cell 2 30] Tryz.func33 rfl rfl rfl rfl ?_
 unfold YW at m
 refine v (ve λu=>bD (gR) u pE rfl rfl λk2 K3=>qk K3 rfl (v (ve λu=>bD (gR) u pE rfl rfl λk6 K7=>qk K7 rfl (v (pU (WX (.tok 49 4 (([]:List aR).length*4)) 1 ([nZ 0,sZ,sZ,sZ,ow none 4 (List.map cG [])]) rfl (.k4 (.cons (jE (c:=cG) _ 4) .nil))) (nC m (σ:=(List aR)×Int) (τ:=Option cB) (λg s=> [(g,.tok 49 4 ((s.1:List aR).length*4)),(some k6,.obj 30 ([nZ 0,sZ,sZ,sZ,ow g 4 (List.map cG s.1)])),(some k2,.obj 30 (gR))]) (λg s=>(g=none→s.1= [])) (λg s=>.c 0 (.sl none 1 (List.map iY p0)) (.c 2 (.ptr k2 0) (.c 3 (.ptr k6 0) (.c 4 (nZ s.2) .nil)))) none (λ_=>rfl) (lx (.k4 .nil)) ?_ ?_))))))
 rintro tg0 ⟨q0,q1⟩ x t0 m
 replace m:xT w p0 q0 q1=some x:=m
 unfold xT at m
 refine v (cZ JE rfl (v ?_))
 apply vi m <;> intro c0 m
 refine v (v (v (vz [(10,some k6,.obj 30 ([nZ 0,sZ,sZ,sZ,ow tg0 4 (List.map cG q0)]))] mixed (λu=>⟨λ_=>aI 1 u rfl,trivial⟩) λu=>zF 0 rfl fS rfl (zL 1 0 (ow tg0 4 (List.map cG q0)) rfl iK rfl rfl rfl (zC 2 rfl (eW (.sl _ _ _) rfl) (zI 3 rfl rfl ?_))))))
 obtain⟨x0,X0,m⟩:=aC m
 refine zC 4 rfl (l8 X0 S2 rfl rfl) (zC 5 rfl (mN (nZ x0) bX rfl rfl) (zC 6 rfl (fG (cG ({ Pool:=x0,Epoch:=0,State:=1,Files:=0}:aR)) W2 rfl) (zC 7 rfl (eO (List.map cG ([({ Pool:=x0,Epoch:=0,State:=1,Files:=0}:aR)]:List aR)) F9 rfl rfl rfl rfl) ?_)))
 obtain⟨z0,Z0,m⟩:=aC m
 refine zE 8 rfl (fF (c:=cG) 0 Z0 F9 rfl rfl rfl t0 u rfl λtg1 t1 K0=>⟨⟨λ_=>aI 1 K0 rfl,trivial⟩, ?_⟩)
 refine zF 9 rfl fS rfl (zE 10 rfl (aK 1 ([nZ 0,sZ,sZ,sZ,ow tg1 4 (List.map cG z0)]) K0 rfl rfl (jF rfl) (o9 _ _ _) PW rfl rfl λK1=>⟨⟨λe=>absurd e (by decide),trivial⟩, ?_⟩))
 exact zX (qk (f:=JC 20 _ _ _ _ _ _ _ _ _ _ _) K1 rfl (v (eY m tg1 t1 (lx (.k4 .nil)))))
 exact v (lA m tg0 t0 (lx (.k4 .nil)))
 rintro tg2 ⟨r0,r1⟩ t2 m
 refine v (vl 1 (.agg ([nZ 0,sZ,sZ,sZ,ow tg2 4 (List.map cG r0)])) eV rfl rfl rfl (ve λu=>aK 2 ([nZ 0,sZ,sZ,sZ,ow tg2 4 (List.map cG r0)]) u rfl rfl rfl (by repeat (first | exact rfl | refine cE (iH _ _ _) ?_ | refine cE (bY _ _ _) ?_ | refine cE (f9 _ _ _ _) ?_ | refine cE rfl ?_)) lQ rfl rfl λK2=>qk K2 rfl ?_))
 refine v ?_
 cases m
 exact vr λu=>dX.of1 (.inl rfl) (qD (.agg ([nZ 0,sZ,sZ,sZ,ow tg2 4 (List.map cG r0)])) eV rfl (a9 2 u rfl) rfl) (aS (List.nil_sublist _) u).1 (bH.agg (.cons (bH.refl _ _) (.cons (aX _) (.cons (aX _) (.cons (aX _) (.cons ((eZ _ 0 t2 u rfl)) .nil)))))) ⟨rfl,rfl⟩
theorem aE3:aO Tryz.prog 33=true:=by kernel_rfl
open Go.Vm
def xU (m:Nat) (p0:aB) (p1:bL) (q0:Int) (q1:Int) (q2:Int):Option (Lp (Int) (Lp (Int) (Lp (Int) (Bool)))):=
 (ix p0.Snaps q0).bind λx0=>(ix x0.Man.Parts q1).bind λx1=>if (decide (q2 < (x1.Ids.length:Int)))=true then ((ix p0.Snaps q0).bind λx2=>(ix x2.Man.Parts q1).bind λx3=>(ix x3.Ids q2).bind λx4=>if (decide (x4=p1))=true then (some (.ret (.ret (.ret true)))) else some (.go (IntKind.wrap .i64 (q2+1)))) else some (.brk q2)
def xV (m:Nat) (p0:aB) (p1:bL) (q0:Int) (q1:Int):Option (Lp (Int) (Lp (Int) (Bool))):=
 (ix p0.Snaps q0).bind λx0=>if (decide (q1 < (x0.Man.Parts.length:Int)))=true then (after (aT (λs=>xU m p0 p1 q0 q1 s) m 0) λr0=>some (.go (IntKind.wrap .i64 (q1+1)))) else some (.brk q1)
def xW (m:Nat) (p0:aB) (p1:bL) (q0:Int):Option (Lp (Int) (Bool)):=
 if (decide (q0 < (p0.Snaps.length:Int)))=true then (after (aT (λs=>xV m p0 p1 q0 s) m 0) λr0=>some (.go (IntKind.wrap .i64 (q0+1)))) else some (.brk q0)
def YX (m:Nat) (p0:aB) (p1:bL):Option (Bool):=
 after (aT (λs=>xW m p0 p1 s) m 0) λr0=>some false
theorem W38 {u:Nat} {p0:aB} {p1:bL} {o:Bool} (h:aF) (m:YX u p0 p1=some o):
 aL Tryz.prog 38 [.agg (aE p0),.agg (bJ p1)] h (λr h'=>r= .sc (.bool o)∧h'=h):=by
 refine fN 59 [.tmp 4] Tryz.func38 rfl rfl rfl rfl ?_
 unfold YX at m
 refine v (gG rfl rfl λk2 K3=>gG rfl rfl λk5 K6=>v (iI m (σ:=Int) (λs=> [(some k5,.obj 36 (bJ p1)),(some k2,.obj 30 (aE p0))]) (λs=>.c 2 (.ptr k2 0) (.c 3 (.ptr k5 0) (.c 5 (nZ s) .nil))) (lx (.k3 .nil)) ?_ ?_))
 rintro _ q0 x m
 replace m:xW u p0 p1 q0=some x:=m
 unfold xW at m
 refine v (vl 1 _ eK rfl rfl rfl (cZ iJ rfl (v ?_)))
 apply vi m <;> intro c0 m
 refine v (v (v (iI m (σ:=Int) (λs=> [(some k5,.obj 36 (bJ p1)),(some k2,.obj 30 (aE p0))]) (λs=>.c 2 (.ptr k2 0) (.c 3 (.ptr k5 0) (.c 5 (nZ q0) (.c 6 (nZ s) .nil)))) (lx (.k4 .nil)) ?_ ?_)))
 rintro _ q1 x m
 replace m:xV u p0 p1 q0 q1=some x:=m
 unfold xV at m
 refine v (vl 1 _ eK rfl rfl rfl (vx m gJ rfl rfl λ_ _ m=>cZ p9 rfl (v ?_)))
 apply vi m <;> intro c1 m
 refine v (v (v (iI m (σ:=Int) (λs=> [(some k5,.obj 36 (bJ p1)),(some k2,.obj 30 (aE p0))]) (λs=>.c 2 (.ptr k2 0) (.c 3 (.ptr k5 0) (.c 5 (nZ q0) (.c 6 (nZ q1) (.c 7 (nZ s) .nil))))) (lx (.k5 .nil)) ?_ ?_)))
 rintro _ q2 x m
 replace m:xU u p0 p1 q0 q1 q2=some x:=m
 unfold xU at m
 refine v (vl 1 _ eK rfl rfl rfl (vx m gJ rfl rfl λ_ _ m=>vx m pG rfl rfl λ_ _ m=>cZ n8 rfl (v ?_)))
 apply vi m <;> intro c2 m
 refine v (v (v (vq (by kernel_rfl) (vl 1 _ eK rfl rfl rfl (vx m gJ rfl rfl λ_ _ m=>vx m pG rfl rfl λ_ _ m=>vx m rV rfl rfl λx0 _ m=>va (.agg (bJ x0)) fK rfl rfl (vl 0 (.agg (bJ p1)) fK rfl rfl rfl (bU (rM yZ OQ u5 BX rfl rfl) (v ?_))))))))
 apply vi m <;> intro c3 m
 refine v (v (fO m λm=>fO m λm=>fO m λm=> ?_))
 obtain rfl:=eB m
 exact dQ rfl
 exact v (v (mC m))
 exact v (VK m)
 rintro _ r0 m
 exact v (fR m)
 exact v (vN m)
 rintro _ r1 m
 exact v (gH m)
 exact v (xC m)
 rintro _ r2 m
 refine v (v ?_)
 obtain rfl:=eB m
 exact dQ rfl
theorem aE4:aO Tryz.prog 38=true:=by kernel_rfl
open Go.Vm
def onV (v:Int) (l:List bI):Bool:=l.any λy=>y.Vol==v
def it1 (x:aA):bE:= { Kind:=1,Id:=x.Id,Seq:=0,Of:=0,Off:=0,Len:=0}
def it2 (x:aG):bE:= { Kind:=2,Id:=jX,Seq:=x.Seq,Of:=0,Off:=0,Len:=0}
def it3 (x:aQ):bE:= { Kind:=3,Id:=jX,Seq:=x.Seq,Of:=x.Of,Off:=0,Len:=0}
def onL (c:aB) (v:Int):List bE:=(c.Chunks.filter λx=>onV v x.Locs).map it1++(c.Snaps.filter λx=>onV v x.Locs).map it2++(c.Exps.filter λx=>onV v x.Locs).map it3
theorem JU {α β ρ:Type} {l:List α} {F:Nat} (acc0:List β) (q:α→Bool) (it:α→β) {body:List β×Int→Option (Lp (List β×Int) ρ)} (hF:l.length < F)
    (hb:∀(i:Nat) (x:α),l[i]? =some x→x∈l→i < l.length→∀acc:List β,acc.length≤acc0.length+i→body (acc,(i:Int))=some (.go (if q x then acc++ [it x] else acc,((i+1:Nat):Int))))
    (he:∀acc,body (acc,(l.length:Int))=some (.brk (acc,(l.length:Int)))):aT body F (acc0,0)=some (.brk (acc0++(l.filter q).map it,(l.length:Int))):=by
  have:=jS (body:=body) (s0:=(acc0,(0:Int))) (n:=l.length) (F:=F) (λi:Nat=>(acc0++((l.take i).filter q).map it,(i:Int))) hF (by simp) (λi hi=>by
    have hlen:((l.take i).filter q).length≤i:=Nat.le_trans (List.length_filter_le _ _) (by rw[List.length_take]; omega)
    rw[hb i l[i] (List.getElem?_eq_getElem hi) (List.getElem_mem hi) hi _ (by rw[List.length_append,List.length_map]; omega)]
    rw[List.take_succ_eq_append_getElem hi,List.filter_append,List.map_append]
    cases hq:q l[i] <;> simp[List.filter,hq]) (he _)
  simpa using this
theorem MM {α ρ:Type} {l:List α} {F:Nat} (q:α→Bool) {body:Int×Int→Option (Lp (Int×Int) ρ)} (hF:l.length < F)
    (hb:∀(i:Nat) (x:α),l[i]? =some x→x∈l→i < l.length→∀k:Nat,k≤i→body ((k:Int),(i:Int))=some (.go ((((if q x then k+1 else k):Nat):Int),((i+1:Nat):Int))))
    (he:∀k,body (k,(l.length:Int))=some (.brk (k,(l.length:Int)))):aT body F (0,0)=some (.brk (((l.filter q).length:Int),(l.length:Int))):=by
  have:=jS (body:=body) (s0:=((0:Int),(0:Int))) (n:=l.length) (F:=F) (λi:Nat=>((((l.take i).filter q).length:Int),(i:Int))) hF (by simp) (λi hi=>by
    have hlen:((l.take i).filter q).length≤i:=Nat.le_trans (List.length_filter_le _ _) (by rw[List.length_take]; omega)
    rw[hb i l[i] (List.getElem?_eq_getElem hi) (List.getElem_mem hi) hi _ hlen]
    rw[List.take_succ_eq_append_getElem hi,List.filter_append]
    cases hq:q l[i] <;> simp[List.filter,hq]) (he _)
  simpa using this
def aJ1 (c:aB) (v:Int):Nat:=((onL c v).filter λx=>x.Kind !=1 || sI c x.Id).length
theorem JV {c:aB} (hg:iX c=true):(∀x∈c.Chunks,iZ c x.Locs=true)∧(∀x∈c.Snaps,iZ c x.Locs=true)∧(∀x∈c.Exps,iZ c x.Locs=true):=by
 unfold iX uM B8 zO at hg
 simp only[Bool.and_eq_true,Bool.not_eq_true',List.any_eq_false,List.mem_range] at hg
 obtain⟨⟨⟨⟨-, -⟩,h1, -⟩,h2, -⟩,h3, -⟩:=hg
 refine⟨λx hx=> ?_,λx hx=> ?_,λx hx=> ?_⟩
 ·obtain⟨i,hi,rfl⟩:=List.getElem_of_mem hx
  have this:IB c i=true:=by simpa using h1 i hi
  unfold IB at this
  rw[List.getElem?_eq_getElem hi] at this
  simp only[Bool.and_eq_true] at this
  exact this.1.2
 ·obtain⟨i,hi,rfl⟩:=List.getElem_of_mem hx
  have this:DF c i=true∧FF c i=true:=by simpa using h2 i hi
  replace this:=this.1
  unfold DF at this
  rw[List.getElem?_eq_getElem hi] at this
  simp only[Bool.and_eq_true] at this
  exact this.2
 ·obtain⟨i,hi,rfl⟩:=List.getElem_of_mem hx
  have this:yS c i=true∧JT c i=true:=by simpa using h3 i hi
  replace this:=this.1
  unfold yS at this
  rw[List.getElem?_eq_getElem hi] at this
  simp only[Bool.and_eq_true] at this
  exact this.2
theorem m65 {F:Nat} {c:aB} {d:bL} (hF:1000≤F) (h:Sm c):YX F c d=some (sI c d):=by
 have hsn:=h.sn
 unfold YX
 rw[mT (l:=c.Snaps) (F:=F) (λs=>s.Man.Parts.any λp=>p.Ids.any λx=>decide (d=x)) true (by omega) (λi s hs hm hi=>by
  obtain⟨-,k2,k3⟩:=h.man s hm
  unfold xW
  rw[hH (by omega),mT (l:=s.Man.Parts) (F:=F) (λp=>p.Ids.any λx=>decide (d=x)) (Lp.ret true) (by omega) (λj p hp hm' hj=>by
   have k4:=(k3 p hm').2
   unfold xV
   rw[hH (by omega),mT (l:=p.Ids) (F:=F) (λx=>decide (d=x)) (Lp.ret (Lp.ret true)) (by omega) (λk x hx _ hk=>by
    unfold xU
    rw[hH (by omega)]
    simp only[bO,hs,hp,hx,Option.bind_some,Int.ofNat_lt,hk,decide_true,if_true,decide_eq_true_eq,eq_comm (a:=x)]
    split <;> rfl) (by unfold xU; simp[bO,hs,hp])]
   simp only[bO,hs,Option.bind_some,Int.ofNat_lt,hj,decide_true,if_true]
   cases p.Ids.any λx=>decide (d=x) <;> rfl) (by unfold xV; simp[bO,hs])]
  simp only[Int.ofNat_lt,hi,decide_true,if_true]
  cases s.Man.Parts.any λp=>p.Ids.any λx=>decide (d=x) <;> rfl) (by unfold xW; simp)]
 unfold sI
 cases c.Snaps.any λs=>s.Man.Parts.any λp=>p.Ids.any λx=>decide (d=x) <;> rfl
open Go.Vm
def SI (c:aB) (p need:Int) (r:List Int) (nt st:Int) (i:Nat):Bool:=match c.Vols[i]?,r[i]? with
 | some x,some z=>x.Pool==p && (i:Int) !=nt && x.State==st && decide (need≤z)
 | _,_=>false
open Go.Vm
def oH {α:Type} (l:List α) (q:α→Bool):Int:=match (List.range l.length).find? λi=>(l[i]?).any q with
 | none=> -1
 | some i=>(i:Int)
theorem iP {α:Type} {l:List α} (q:α→Bool) {F:Nat} {body:Int→Option (Lp Int Int)} (hF:l.length < F)
    (hb:∀(i:Nat) (x:α),l[i]? =some x→x∈l→i < l.length→body (i:Int)=some (if q x then .ret (i:Int) else .go ((i+1:Nat):Int))) (he:body (l.length:Int)=some (.brk (l.length:Int))):
    (after (aT body F 0) λ_=>some (-1))=some (oH l q):=by
  rw[fD (s0:=(0:Int)) (n:=l.length) (F:=F) (λi:Nat=>(i:Int)) (λi=>(l[i]?).any q) (λi=>(i:Int)) hF rfl (λi hi _=>by
    rw[hb i l[i] (List.getElem?_eq_getElem hi) (List.getElem_mem hi) hi,List.getElem?_eq_getElem hi]; rfl) (λ_=>he)]
  unfold LF oH
  cases (List.range l.length).find? λi=>(l[i]?).any q <;> rfl
theorem m96 {F:Nat} {l:List aG} {f:aG→Option Bool} (q:aG→Bool) (hF:l.length < F) (hl:l.length < 1000) (hf:∀x∈l,f x=some (q x)):GG F l f=some (oH l q):=by
 unfold GG
 refine iP q hF (λi x hx hm hi=> ?_) (by unfold oB; simp)
 unfold oB
 rw[hH (by omega)]
 simp only[bO,hx,hf x hm,Option.bind_some,Int.ofNat_lt,hi,decide_true,if_true]
 cases q x <;> simp
theorem m47 {F:Nat} {c:aB} {nm:ByteArray} (hF:1000≤F) (hl:c.Snaps.length < 1000):VQ F c nm=some (oH c.Snaps λs=>s.Man.Name.toList==nm.toList):=by
 unfold VQ
 rw[m96 (f:=λx0=>P9 F x0 nm) (λs=>s.Man.Name.toList==nm.toList) (by omega) hl (λx _=>rfl)]
 rfl
theorem aE6 {F:Nat} {c:aB} {nm:ByteArray} (hF:1000≤F) (hl:c.Snaps.length < 1000):zM F c nm=some (oH c.Snaps λs=>s.Man.Name.toList==nm.toList):=by
 unfold zM
 refine iP _ (by omega) (λi x hx hm hi=> ?_) (by unfold oD; simp)
 unfold oD
 rw[hH (by omega)]
 simp only[bO,hx,Option.bind_some,Int.ofNat_lt,hi,decide_true,if_true]
 cases x.Man.Name.toList==nm.toList <;> simp
theorem m98 {F:Nat} {l:List aA} {f:aA→Option Bool} (q:aA→Bool) (hF:l.length < F) (hl:l.length < 1000) (hf:∀x∈l,f x=some (q x)):VS F l f=some (oH l q):=by
 unfold VS
 refine iP q hF (λi x hx hm hi=> ?_) (by unfold xO; simp)
 unfold xO
 rw[hH (by omega)]
 simp only[bO,hx,hf x hm,Option.bind_some,Int.ofNat_lt,hi,decide_true,if_true]
 cases q x <;> simp
theorem m48 {F:Nat} {c:aB} {d:bL} (hF:1000≤F) (hl:c.Chunks.length < 1000):VT F c d=some (oH c.Chunks λx=>decide (x.Id=d)):=by
 unfold VT
 rw[m98 (f:=λx0=>M54 F x0 d) (λx=>decide (x.Id=d)) (by omega) hl (λx _=>rfl)]
 rfl
def nN (l:List Int):aB:= { Seq:=0,Snaps:= [],Chunks:= [],Exps:= [],Vols:=l.map λp=> { Pool:=p,Epoch:=0,State:=1,Files:=0}}
theorem m32 {F:Nat} {l:List Int} (hF:1000≤F) (hl:l.length≤100):YW F l=some (nN l):=by
  unfold YW
  rw[jS (s0:=(([]:List aR),(0:Int))) (n:=l.length) (F:=F) (λi:Nat=>((l.take i).map λp=>({ Pool:=p,Epoch:=0,State:=1,Files:=0}:aR),(i:Int))) (by omega) (by simp) (λi hi=>by
      unfold xT
      have hx:l[i]? =some l[i]:=List.getElem?_eq_getElem hi
      rw[hH (by omega)]
      simp only[bO,hx,Option.bind_some,Int.ofNat_lt,hi,decide_true,if_true]
      rw[dV (by simp; omega),List.take_succ_eq_append_getElem hi,List.map_append]; rfl) (by unfold xT; simp)]
  simp[nN,after]
def EH (p:Int):Bool:=gW p 0 1
theorem QE {l:List Int} (hl:l.length≤8) (hg:gL gI l):Sm (nN l) where
 g:=by
  refine⟨by simp[nN,gI],λ_ h=>by simp[nN] at h,λ_ h=>by simp[nN] at h,λ_ h=>by simp[nN] at h,λx hx=> ?_⟩
  obtain⟨p,hp,rfl⟩:=List.mem_map.1 hx
  exact⟨hg p hp,by simp[gI],by simp[gI],by simp[gI]⟩
 sn:=by simp[nN]
 ch:=by simp[nN]
 ex:=by simp[nN]
 vo:=by simp[nN]; omega
 sl:=by simp[nN]
 man:=by simp[nN]
 cl:=by simp[nN]
 el:=by simp[nN]
theorem JW {l:List Int} (hl:gW l.length 1 8=true) (hp:l.all EH=true):iX (nN l)=true:=by
 have h1:(nN l).Vols.all oG=true:=by
  rw[List.all_eq_true]
  intro x hx
  obtain⟨p,hq,rfl⟩:=List.mem_map.1 hx
  have:=List.all_eq_true.1 hp p hq
  simp only[EH,gW,Bool.and_eq_true,decide_eq_true_eq] at this
  simp[oG,gW,this.1,this.2]
 have h2:(nN l).Vols.length=l.length:=by simp[nN]
 unfold iX
 rw[h1,h2,hl]
 simp[nN,uM,B8,zO,gW]
theorem T4 {c:aB} (hg:iX c=true) {i:Nat} {s:aG} (hs:c.Snaps[i]? =some s):DF c i=true∧OT c s.Man=true:=by
 unfold iX B8 at hg
 simp only[Bool.and_eq_true,Bool.not_eq_true',List.any_eq_false,List.mem_range] at hg
 obtain⟨⟨⟨⟨-, -⟩, -, -⟩,h2, -⟩, -, -⟩:=hg
 have h:=h2 i (List.getElem?_eq_some_iff.1 hs).1
 have h:DF c i=true∧FF c i=true:=by simpa using h
 refine⟨h.1, ?_⟩
 have:=h.2
 unfold FF at this
 rw[hs] at this
 exact this
theorem T5 {c:aB} (hg:iX c=true) {i:Nat} {x:aA} (hs:c.Chunks[i]? =some x):IB c i=true:=by
 unfold iX uM at hg
 simp only[Bool.and_eq_true,Bool.not_eq_true',List.any_eq_false,List.mem_range] at hg
 obtain⟨⟨⟨⟨-, -⟩,h1, -⟩, -, -⟩, -, -⟩:=hg
 have h:=h1 i (List.getElem?_eq_some_iff.1 hs).1
 simpa using h
open Go.Vm
structure Rng (c:aB):Prop where
 seq:0≤c.Seq∧c.Seq≤1073741824
 sn:c.Snaps.length≤8
 ch:c.Chunks.length≤200
 ex:c.Exps.length≤200
 vo:c.Vols.length≤8
 s:∀s∈c.Snaps,0≤s.Seq∧s.Seq < c.Seq∧uN s.Man=true∧iZ c s.Locs=true
 k:∀x∈c.Chunks,x.Data.length≤64∧iZ c x.Locs=true
 e:∀x∈c.Exps,0≤x.Seq∧x.Seq < c.Seq∧0≤x.Of∧x.Of < c.Seq∧iZ c x.Locs=true
 v:∀x∈c.Vols,0≤x.Pool∧x.Pool≤1∧0≤x.Epoch∧x.Epoch≤1048576∧1≤x.State∧x.State≤3∧0≤x.Files∧x.Files≤65535
theorem rng {c:aB} (hg:iX c=true):Rng c:=by
 obtain⟨q1,q2,q3⟩:=JV hg
 have hg0:=hg
 unfold iX at hg0
 simp only[Bool.and_eq_true,gW,decide_eq_true_eq] at hg0
 obtain⟨⟨⟨⟨g1,g2,g3⟩,g4,g5⟩,g6,g7⟩,g8,g9⟩:=hg0
 refine⟨g1,g7,g5,g9,by omega,λs hs=> ?_,λx hx=>⟨?_,q1 x hx⟩,λx hx=> ?_,λx hx=> ?_⟩
 ·obtain⟨i,hi,rfl⟩:=List.getElem_of_mem hs
  have:=(T4 hg (List.getElem?_eq_getElem hi)).1
  unfold DF at this
  rw[List.getElem?_eq_getElem hi] at this
  simp only[Bool.and_eq_true,gW,decide_eq_true_eq] at this
  obtain⟨⟨⟨⟨h1,h2⟩,h3⟩,h4⟩,h5⟩:=this
  exact⟨h1.1,by omega,h4,h5⟩
 ·obtain⟨i,hi,rfl⟩:=List.getElem_of_mem hx
  have:=T5 hg (List.getElem?_eq_getElem hi)
  unfold IB at this
  rw[List.getElem?_eq_getElem hi] at this
  simp only[Bool.and_eq_true] at this
  have:=this.2
  split at this
  ·simp only[gW,Bool.and_eq_true,decide_eq_true_eq] at this; omega
  ·simp only[Bool.and_eq_true,Bool.not_eq_true',decide_eq_false_iff_not] at this; omega
 ·obtain⟨i,hi,rfl⟩:=List.getElem_of_mem hx
  unfold zO at g8
  simp only[Bool.not_eq_true',List.any_eq_false,List.mem_range] at g8
  have:=g8 i hi
  have this:yS c i=true∧JT c i=true:=by simpa using this
  have:=this.1
  unfold yS at this
  rw[List.getElem?_eq_getElem hi] at this
  simp only[Bool.and_eq_true,gW,decide_eq_true_eq] at this
  obtain⟨⟨⟨⟨h1,h2⟩,h3⟩,h4⟩,h5⟩:=this
  exact⟨h1.1,by omega,h3.1,by omega,h5⟩
 ·have hb:=List.all_eq_true.1 g2 x hx
  unfold oG gW at hb
  simp only[Bool.and_eq_true,Bool.or_eq_true,decide_eq_true_eq,beq_iff_eq] at hb
  omega
theorem i1:((1:Nat):Int)=1:=rfl
theorem i2:((2:Nat):Int)=2:=rfl
theorem i4:((4:Nat):Int)=4:=rfl
open Go.Vm
theorem MN {α:Type} {R:α→α→Prop} (tr:∀a b c,R a b→R b c→R a c):∀ {l:List α},(∀(i:Nat) (x y:α),l[i]? =some y→l[i+1]? =some x→R y x)→l.Pairwise R
 | [],_=>.nil
 | [a],_=>List.pairwise_singleton _ _
 | a::b::t,h=>by
  have ih:(b::t).Pairwise R:=MN tr λi x y h1 h2=>h (i+1) x y (by simpa using h1) (by simpa using h2)
  have ab:R a b:=h 0 b a rfl rfl
  refine List.pairwise_cons.2 ⟨λz hz=> ?_,ih⟩
  rcases List.mem_cons.1 hz with rfl | hz
  ·exact ab
  ·exact tr _ _ _ ab ((List.pairwise_cons.1 ih).1 z hz)
theorem T6 {α:Type} {R:α→α→Prop} {l:List α} (h:l.Pairwise R) {i:Nat} {x y:α} (hy:l[i]? =some y) (hx:l[i+1]? =some x):R y x:=by
 obtain⟨h1,e1⟩:=List.getElem?_eq_some_iff.1 hy
 obtain⟨h2,e2⟩:=List.getElem?_eq_some_iff.1 hx
 have:=List.pairwise_iff_getElem.1 h i (i+1) h1 h2 (by omega)
 rwa [e1,e2] at this
theorem pK {α:Type} {q:α→α→Bool} (tr:∀a b c,q b a=true→q c b=true→q c a=true) (l:List α):
    (∀(i:Nat) (x:α),l[i]? =some x→(i==0 || ((l[i - 1]?).all (q x)))=true)↔l.Pairwise λy x=>q x y=true:=by
  constructor
  · intro h
    refine MN (λa b c h1 h2=>tr a b c h1 h2) λi x y hy hx=> ?_
    have:=h (i+1) x hx
    simpa [hy] using this
  · intro h i x hx
    cases i with
    | zero=>rfl
    | succ i=>
      obtain⟨h1,e1⟩:=List.getElem?_eq_some_iff.1 hx
      have hy:l[i]? =some l[i]:=List.getElem?_eq_getElem (by omega)
      have:=T6 h hy hx
      simp[hy,this]
theorem ID (a b:bI):nM a b=true↔b.Vol < a.Vol∨(a.Vol=b.Vol∧(b.File < a.File∨(a.File=b.File∧b.Off < a.Off))):=by
 unfold nM
 by_cases e1:a.Vol=b.Vol <;> by_cases f1:a.File=b.File <;> simp[e1,f1]
theorem MO (a b c:bI) (h1:nM b a=true) (h2:nM c b=true):nM c a=true:=by
 rw[ID] at*
 omega
def EI (vs:List aR) (x:bI):Bool:=gW x.Vol 0 ((vs.length:Int) - 1) && (match vs[x.Vol.toNat]? with | none=>false | some v=>v.State==2 && gW x.File 1 v.Files) && gW x.Off 0 16777215 && gW x.Len 13 8013
structure Lk (vs:List aR) (l:List bI):Prop where
 n:l.length≤200
 a:∀x∈l,EI vs x=true
 o:l.Pairwise λy x=>nM x y=true
theorem mU {α:Type} {l:List α} {P:α→Prop}:(∀x∈l,P x)↔∀(i:Nat) (x:α),l[i]? =some x→P x:=by
 constructor
 ·exact λh i x hx=>h x (List.mem_of_getElem? hx)
 ·intro h x hx
  obtain⟨i,hi,rfl⟩:=List.getElem_of_mem hx
  exact h i _ (List.getElem?_eq_getElem hi)
theorem oI {α:Type} {l:List α} {q:Nat→Bool} {P:Nat→α→Prop} (h:∀(i:Nat) (x:α),l[i]? =some x→(q i=true↔P i x)):(!(List.range l.length).any λi=> !q i)=true↔∀(i:Nat) (x:α),l[i]? =some x→P i x:=by
 simp only[Bool.not_eq_true',List.any_eq_false,List.mem_range,Bool.not_eq_true,Bool.not_eq_false']
 constructor
 ·intro k i x hx
  exact(h i x hx).1 (by simpa using k i (List.getElem?_eq_some_iff.1 hx).1)
 ·intro k i hi
  have:=(h i _ (List.getElem?_eq_getElem hi)).2 (k i _ (List.getElem?_eq_getElem hi))
  simpa using this
theorem nO {c:aB} {l:List bI}:iZ c l=true↔Lk c.Vols l:=by
 unfold iZ
 rw[Bool.and_eq_true,oI (P:=λi x=>EI c.Vols x=true∧(i==0 || ((l[i - 1]?).all (nM x)))=true) (λi x hx=>by
  unfold JS EI
  rw[hx]
  cases l[i - 1]? <;> simp only[Bool.and_eq_true,Option.all_none,Option.all_some] <;> exact Iff.rfl)]
 constructor
 ·rintro⟨h1,h2⟩
  exact⟨of_decide_eq_true h1,mU.2 λi x hx=>(h2 i x hx).1,(pK MO l).1 λi x hx=>(h2 i x hx).2⟩
 ·intro h
  exact⟨decide_eq_true h.n,λi x hx=>⟨h.a x (List.mem_of_getElem? hx),(pK MO l).2 h.o i x hx⟩⟩
structure Gd (c:aB):Prop where
 q:gW c.Seq 0 1073741824=true
 v:∀v∈c.Vols,oG v=true
 vn:gW c.Vols.length 1 8=true
 cn:c.Chunks.length≤200
 co:c.Chunks.Pairwise λy x=>ky y.Id < ky x.Id
 cl:∀x∈c.Chunks,Lk c.Vols x.Locs
 cs:∀x∈c.Chunks,if x.Staged=true then gW x.Data.length 1 64=true else x.Data= []∧x.Locs≠ []
 sn:c.Snaps.length≤8
 so:c.Snaps.Pairwise λy x=>y.Seq < x.Seq
 sq:∀s∈c.Snaps,gW s.Seq 0 (c.Seq - 1)=true
 sm:c.Snaps.Pairwise λy x=>(x.Man.Name==y.Man.Name)=false
 sb:∀s∈c.Snaps,uN s.Man=true
 sl:∀s∈c.Snaps,Lk c.Vols s.Locs
 sp:∀s∈c.Snaps,OT c s.Man=true
 en:c.Exps.length≤200
 eo:c.Exps.Pairwise λy x=>y.Seq < x.Seq
 eq:∀x∈c.Exps,gW x.Seq 0 (c.Seq - 1)=true∧gW x.Of 0 (x.Seq - 1)=true
 el:∀x∈c.Exps,Lk c.Vols x.Locs
 ee:∀x∈c.Exps,x.Locs≠ []
 ex:∀x∈c.Exps,∀s∈c.Snaps,s.Seq≠x.Of
theorem IE {β:Type} {f:β→β→Bool} (l:List β):(∀(i:Nat) (x:β),l[i]? =some x→(!((l.take i).any λy=>f x y))=true)↔l.Pairwise λy x=>f x y=false:=by
 rw[List.pairwise_iff_getElem]
 constructor
 ·intro h i j hi hj hij
  have:=h j _ (List.getElem?_eq_getElem hj)
  simp only[Bool.not_eq_true',List.any_eq_false,Bool.not_eq_true] at this
  exact this l[i] (List.mem_of_getElem? (i:=i) (by rw[List.getElem?_take_of_lt hij]; exact List.getElem?_eq_getElem hi))
 ·intro h j x hx
  obtain⟨hj,rfl⟩:=List.getElem?_eq_some_iff.1 hx
  simp only[Bool.not_eq_true',List.any_eq_false,Bool.not_eq_true]
  intro y hy
  obtain⟨i,hi,rfl⟩:=List.getElem_of_mem hy
  simp only[List.length_take] at hi
  rw[List.getElem_take]
  exact h i j (by omega) hj (by omega)
theorem lJ {c:aB}:iX c=true↔Gd c:=by
  have trS:∀a b d:aG,decide (a.Seq < b.Seq)=true→decide (b.Seq < d.Seq)=true→decide (a.Seq < d.Seq)=true:=λa b d h1 h2=>decide_eq_true (by have:=of_decide_eq_true h1; have:=of_decide_eq_true h2; omega)
  have trE:∀a b d:aQ,decide (a.Seq < b.Seq)=true→decide (b.Seq < d.Seq)=true→decide (a.Seq < d.Seq)=true:=λa b d h1 h2=>decide_eq_true (by have:=of_decide_eq_true h1; have:=of_decide_eq_true h2; omega)
  have trC:∀a b d:aA,decide (ky a.Id < ky b.Id)=true→decide (ky b.Id < ky d.Id)=true→decide (ky a.Id < ky d.Id)=true:=λa b d h1 h2=>decide_eq_true (by have:=of_decide_eq_true h1; have:=of_decide_eq_true h2; omega)
  unfold iX uM B8 zO
  simp only[Bool.and_eq_true]
  rw[oI (l:=c.Chunks) (P:=λi x=>((i==0 || ((c.Chunks[i - 1]?).all λy=>decide (ky y.Id < ky x.Id)))=true∧iZ c x.Locs=true)∧(if x.Staged then gW x.Data.length 1 64 else (!decide (0 < x.Data.length) && !(x.Locs.length==0)))=true) (λi x hx=>by
      unfold IB; rw[hx]; cases c.Chunks[i - 1]? <;> simp only[Bool.and_eq_true,Option.all_none,Option.all_some] <;> exact Iff.rfl),
    oI (l:=c.Snaps) (P:=λi s=>((((gW s.Seq 0 (c.Seq - 1)=true∧(i==0 || ((c.Snaps[i - 1]?).all λy=>decide (y.Seq < s.Seq)))=true)∧(!((c.Snaps.take i).any λy=>s.Man.Name==y.Man.Name))=true)∧uN s.Man=true)∧iZ c s.Locs=true)∧OT c s.Man=true) (λi x hx=>by
      unfold DF FF; rw[hx]; cases c.Snaps[i - 1]? <;> simp only[Bool.and_eq_true,Option.all_none,Option.all_some] <;> exact Iff.rfl),
    oI (l:=c.Exps) (P:=λi x=>((((gW x.Seq 0 (c.Seq - 1)=true∧(i==0 || ((c.Exps[i - 1]?).all λy=>decide (y.Seq < x.Seq)))=true)∧gW x.Of 0 (x.Seq - 1)=true)∧(!(x.Locs.length==0))=true)∧iZ c x.Locs=true)∧(!c.Snaps.any λs=>s.Seq==x.Of)=true) (λi x hx=>by
      unfold yS JT; rw[hx]; cases c.Exps[i - 1]? <;> simp only[Bool.and_eq_true,Option.all_none,Option.all_some] <;> exact Iff.rfl)]
  constructor
  · rintro⟨⟨⟨⟨h1,h2,h3⟩,hc,h4⟩,hs,h5⟩,he,h6⟩
    refine⟨h1,List.all_eq_true.1 h2,h3,of_decide_eq_true h4, ?_,mU.2 λi x hx=>nO.1 (hc i x hx).1.2,mU.2 λi x hx=> ?_,of_decide_eq_true h5, ?_,mU.2 λi x hx=>(hs i x hx).1.1.1.1.1,(IE (f:=λs y:aG=>s.Man.Name==y.Man.Name) c.Snaps).1 λi x hx=>(hs i x hx).1.1.1.2,mU.2 λi x hx=>(hs i x hx).1.1.2,mU.2 λi x hx=>nO.1 (hs i x hx).1.2,mU.2 λi x hx=>(hs i x hx).2,of_decide_eq_true h6, ?_,mU.2 λi x hx=>⟨(he i x hx).1.1.1.1.1,(he i x hx).1.1.1.2⟩,mU.2 λi x hx=>nO.1 (he i x hx).1.2,mU.2 λi x hx=> ?_,mU.2 λi x hx=> ?_⟩
    · exact((pK (q:=λx y:aA=>decide (ky y.Id < ky x.Id)) trC c.Chunks).1 λi x hx=>(hc i x hx).1.1).imp λh=>of_decide_eq_true h
    · have:=(hc i x hx).2
      cases hst:x.Staged <;> rw[hst] at this
      · simp only[Bool.false_eq_true,if_false,Bool.and_eq_true] at this ⊢
        obtain⟨t1,t2⟩:=this
        refine⟨?_, ?_⟩
        · cases hd:x.Data with
          | nil=>rfl
          | cons a b=>rw[hd] at t1; simp at t1
        · intro e; rw[e] at t2; simp at t2
      · simpa using this
    · exact((pK (q:=λx y:aG=>decide (y.Seq < x.Seq)) trS c.Snaps).1 λi x hx=>(hs i x hx).1.1.1.1.2).imp λh=>of_decide_eq_true h
    · exact((pK (q:=λx y:aQ=>decide (y.Seq < x.Seq)) trE c.Exps).1 λi x hx=>(he i x hx).1.1.1.1.2).imp λh=>of_decide_eq_true h
    · intro e
      have:=(he i x hx).1.1.2
      rw[e] at this
      simp at this
    · have:=(he i x hx).2
      simp only[Bool.not_eq_true',List.any_eq_false,beq_iff_eq] at this
      exact this
  · intro h
    refine⟨⟨⟨⟨h.q,List.all_eq_true.2 h.v,h.vn⟩,λi x hx=> ?_,decide_eq_true h.cn⟩,λi x hx=> ?_,decide_eq_true h.sn⟩,λi x hx=> ?_,decide_eq_true h.en⟩
    · have hm:=List.mem_of_getElem? hx
      refine⟨⟨(pK (q:=λx y:aA=>decide (ky y.Id < ky x.Id)) trC c.Chunks).2 (h.co.imp λh=>decide_eq_true h) i x hx,nO.2 (h.cl x hm)⟩, ?_⟩
      have:=h.cs x hm
      cases hst:x.Staged <;> rw[hst] at this
      · simp only[Bool.false_eq_true,if_false] at this ⊢
        obtain⟨t1,t2⟩:=this
        rw[t1]
        simp[t2]
      · simpa using this
    · have hm:=List.mem_of_getElem? hx
      exact⟨⟨⟨⟨⟨h.sq x hm,(pK (q:=λx y:aG=>decide (y.Seq < x.Seq)) trS c.Snaps).2 (h.so.imp λh=>decide_eq_true h) i x hx⟩,(IE (f:=λs y:aG=>s.Man.Name==y.Man.Name) c.Snaps).2 h.sm i x hx⟩,h.sb x hm⟩,nO.2 (h.sl x hm)⟩,h.sp x hm⟩
    · have hm:=List.mem_of_getElem? hx
      refine⟨⟨⟨⟨⟨(h.eq x hm).1,(pK (q:=λx y:aQ=>decide (y.Seq < x.Seq)) trE c.Exps).2 (h.eo.imp λh=>decide_eq_true h) i x hx⟩,(h.eq x hm).2⟩,by simp[h.ee x hm]⟩,nO.2 (h.el x hm)⟩, ?_⟩
      simp only[Bool.not_eq_true',List.any_eq_false,beq_iff_eq]
      exact h.ex x hm
open Go.Vm
def EJ (m:Nat) (p0:List bI):Option (List bI):=app [] p0
theorem T7 {w:Nat} {p0:List bI} {o:List bI} (h:aF) (m:EJ w p0=some o):
 aL Tryz.prog 67 [.sl none 4 (List.map aM p0)] h (λr h'=>∃g:cR,bK g 4 o.length∧bV h [(g.t,.obj 81 (fl aM o g.sp))]∧r=aZ g∧h'=hp h [(g.t,.obj 81 (fl aM o g.sp))]):=by
 refine jJ 8 [.tmp 2] Tryz.func67 rfl rfl rfl rfl ?_
 unfold EJ at m
 refine gQ λK1 H1=>eL (rD (iB (.sc (.slice _ _ _)) rfl) (fT (H1 _ _ (gQ λK1 H1=>gQ λK2 H2=>eL (vE rfl (lD (jW rfl (by rw[i8]; rfl) (by rw[bN]; exact rfl) (.inl ⟨_,_,_,rfl,λb hb=> ?_⟩))))))))
 refine fT (H2 _ _ (m9 rfl (λhc=> ?_) (λhc=> ?_)))
 have h0:p0= []:=by
   cases p0 with
   | nil=>rfl
   | cons x l=>have:=hb (by simp); rw[this] at hc; cases hc
 subst h0
 obtain⟨rfl, -⟩:=jD m
 exact gQ λK1 H1=>eL (rD (iB (.sc (.slice _ _ _)) rfl) (fT (H1 _ _ (iT (dX.one (.inl rfl) (h9.refl _) (fZ _) ⟨g0,bK.g0 _,bV.none (bV.nil _),rfl,rfl⟩)))))
 exact lZ (H1 _ _ (gQ λK1 H1=>eL (lD (pV (c:=aM) (bV.nil _) o1 λu=>vE rfl (lD (f8 (c:=aM) 0 m o1 rfl B5 rfl eS rfl rfl (bK.g0 _) u rfl λg ok u=>rD (iB (aw _ _ _) rfl) (fT (H1 _ _ (iT (dX.one (.inl rfl) (h9.refl _) (bH.refl _ _) ⟨g,ok,u,rfl,rfl⟩))))))))))
theorem T8:aO Tryz.prog 67=true:=by kernel_rfl
def pL (m:Nat) (p0:List bI) (p1:bI→Option Bool) (q0:Int):Option (Lp (Int) (Int)):=
 if (decide (q0 < (p0.length:Int)))=true then ((ix p0 q0).bind λx0=>(p1 x0).bind λy0=>if y0=true then (some (.ret q0)) else some (.go (IntKind.wrap .i64 (q0+1)))) else some (.brk q0)
def EK (m:Nat) (p0:List bI) (p1:bI→Option Bool):Option (Int):=
 after (aT (λs=>pL m p0 p1 s) m 0) λr0=>some (-1)
theorem YY {w:Nat} {p0:List bI} {p1:bI→Option Bool} {o:Int} (h:aF) {g_p0:cR} (ok_p0:bK g_p0 4 p0.length) (K0:bV h [(eI g_p0 p0)]) {p1F:Nat} {p1C:List AV} (p1B:aO Tryz.prog p1F=true) (p1H:∀x0 o h0,h9 h h0→p1 x0=some o→aL Tryz.prog p1F ([.agg (aM x0)]++p1C) h0 (λr h'=>r= .sc (.bool o)∧h'=h0)) (m:EK w p0 p1=some o):
 aL Tryz.prog 108 [aZ g_p0,.fn (.func p1F) p1C] (hp h [(eI g_p0 p0)]) (λr h'=>r=nZ o∧h'=hp h [(eI g_p0 p0)]):=by
 refine tH K0 19 [.tmp 4] Tryz.func108 rfl rfl rfl rfl ?_
 unfold EK at m
 refine vs (v0 (vs (vs (v0 (bU (dR iC ok_p0 rfl) (iI m (σ:=Int) (λs=> [(eI g_p0 p0)]) (λs=>.c 0 (aZ g_p0) (.c 1 (.fn (.func p1F) p1C) (.c 7 (nZ (p0.length:Int)) (.c 8 (nZ s) .nil)))) (lx (.k4 .nil)) ?_ ?_))))))
 rintro _ q0 x m
 replace m:pL w p0 p1 q0=some x:=m
 unfold pL at m
 refine vs (v0 (vs (v0 ?_)))
 apply vi m <;> intro c0 m
 refine v0 (vs (v0 (vs (v0 (vs (v0 ?_))))))
 obtain⟨x1,X0,m⟩:=aC m
 refine bU (cL X0 i8 ok_p0 rfl rfl) (vn (λu=>dY (fo:=0) (.agg (aM x1)) X0 eS ok_p0 kL rfl (aI 0 u rfl) (λ_=>rfl)) ?_)
 obtain⟨_,Y0,m⟩:=aC m
 refine vn (λu=>bZ (p1H _ _ _ (aS (List.nil_sublist _) u).1 Y0) rfl p1B rfl) (v0 ?_)
 apply vi m <;> intro c1 m
 refine vs (v0 (v0 (fO m λm=> ?_)))
 obtain rfl:=eB m
 exact vr λu=>dX.of1 (.inl rfl) (fU _ _ (.sc (.int _ _)) rfl) (bG u [0] rfl).2 (bH.refl _ _) ⟨rfl,rfl⟩
 exact v0 (v0 (fR m))
 exact v0 (vN m)
 rintro _ r0 m
 refine vs (v0 (v0 ?_))
 cases m
 exact vr λu=>dX.of1 (.inl rfl) (fU _ _ (.sc (.int _ _)) rfl) (bG u [0] rfl).2 (bH.refl _ _) ⟨rfl,rfl⟩
def pY (m:Nat) (p1:bI→Option Bool) (q0:List bI) (q1:Int) (q2:Int):Option (Lp ((List bI)×Int×Int) ((List bI))):=
 if (decide (q2 < (q0.length:Int)))=true then ((ix q0 q2).bind λx0=>(p1 x0).bind λy0=>after (if (!y0)=true then ((ix q0 q1).bind λ_=>some (.brk (q0.set q1.toNat (x0),IntKind.wrap .i64 (q1+1)))) else some (.brk (q0,q1)):Option (Lp ((List bI)×Int) (Lp ((List bI)×Int×Int) ((List bI))))) λ⟨j0,j1⟩=>some (.go (j0,j1,IntKind.wrap .i64 (q2+1)))) else some (.brk (q0,q1,q2))
def MP (m:Nat) (p0:List bI) (p1:bI→Option Bool):Option ((List bI)):=
 (EK m p0 p1).bind λy3=>if (y3==(-1))=true then (some p0) else after (aT (λs=>pY m p1 s.1 s.2.1 s.2.2) m (p0,y3,IntKind.wrap .i64 (y3+1))) λ⟨r0,r1,r2⟩=>grd (decide (0≤r1) && decide (r1 < (r0.length:Int))) <| grd (decide (0≤r1) && decide (r1≤(r0.length:Int))) <| some (r0.take r1.toNat)
theorem aE8 {w:Nat} {p0:List bI} {p1:bI→Option Bool} {o:(List bI)} (h:aF) {g_p0:cR} (ok_p0:bK g_p0 4 p0.length) (K0:bV h [(eI g_p0 p0)]) {p1F:Nat} {p1C:List AV} (p1B:aO Tryz.prog p1F=true) (p1H:∀x0 o h0,h9 h h0→p1 x0=some o→aL Tryz.prog p1F ([.agg (aM x0)]++p1C) h0 (λr h'=>r= .sc (.bool o)∧h'=h0)) (m:MP w p0 p1=some o):
 aL Tryz.prog 66 [aZ g_p0,.fn (.func p1F) p1C] (hp h [(eI g_p0 p0)]) (λr h'=>∃g:cR,bK g 4 o.length∧bV h [(g.t,.obj 81 (fl aM o g.sp))]∧r=aZ g∧h'=hp h [(g.t,.obj 81 (fl aM o g.sp))]):=by
 refine tH K0 42 [.tmp 4] Tryz.func66 rfl rfl rfl rfl ?_
 unfold MP at m
 refine vs (v0 (vs (v0 ?_)))
 obtain⟨_,Y4,m⟩:=aC m
 refine ve λu=>dA ((bC u [0] rfl rfl).1.trans (cT h [(eI g_p0 p0)] []).symm) (cK (YY (hp h []) ok_p0 (cJ [(eI g_p0 p0)] [] (bC u [0] rfl rfl).2).2 p1B (λx0 o h0 hs ho=>p1H x0 o h0 ((aS (List.nil_sublist _) (cJ [(eI g_p0 p0)] [] (bC u [0] rfl rfl).2).1).1.trans hs) ho) Y4) rfl YC rfl ?_)
 rintro x h' ⟨rfl,rfl⟩
 refine qk u ((cT h [(eI g_p0 p0)] []).trans (bC u [0] rfl rfl).1.symm) (vs (vs (v0 (v0 ?_))))
 apply vi m <;> intro c7 m
 refine vs (v0 (v0 ?_))
 obtain rfl:=eB m
 exact vr λu=>dX.one (.inl rfl) (aS (h0:=h) (L':= [(eI g_p0 p0)]) (.refl _) u).1 (bH.refl _ _) ⟨g_p0,ok_p0,(aS (h0:=h) (L':= [(eI g_p0 p0)]) (.refl _) u).2,rfl,rfl⟩
 refine v0 (vs (vs (v0 (nC m (σ:=(List bI)×Int×Int) (τ:=cR) (λg s=> [(eI g s.1)]) (λg s=>bK g 4 (s.1:List bI).length) (λg s=>.c 0 (aZ g) (.c 1 (.fn (.func p1F) p1C) (.c 5 (nZ s.2.1) (.c 6 (nZ s.2.2) .nil)))) g_p0 ok_p0 (lx (.k4 .nil)) ?_ ?_))))
 rintro ag0 ⟨q0,q1,q2⟩ x O0 m
 replace m:pY w p1 q0 q1 q2=some x:=m
 unfold pY at m
 refine vs (vs (v0 (bU (dR iC O0 rfl) (v0 ?_))))
 apply vi m <;> intro c0 m
 refine v0 (vs (v0 (vs (v0 ?_))))
 obtain⟨x1,X0,m⟩:=aC m
 refine bU (cL X0 i8 O0 rfl rfl) (vn (λu=>dY (fo:=0) (.agg (aM x1)) X0 eS O0 kL rfl (aI 0 u rfl) (λ_=>rfl)) (ve λu=>bD (HP) u B5 rfl rfl λk86 K1=>qk K1 rfl (ve λu=>aK 0 (aM x1) u rfl rfl rfl rfl JN rfl rfl λK2=>qk K2 rfl (vs (v0 (vl 0 (.agg (aM x1)) kL rfl rfl rfl ?_))))))
 obtain⟨_,Y0,m⟩:=aC m
 refine vn (λu=>bZ (p1H _ _ _ (aS (List.nil_sublist _) u).1 Y0) rfl p1B rfl) (o6 m (σ:=(List bI)×Int) (τ:=cR) (λg s=> [(some k86,.obj 81 (aM x1)),(eI g s.1)]) (λg s=>bK g 4 (s.1:List bI).length) (λg s=>.c 0 (aZ g) (.c 1 (.fn (.func p1F) p1C) (.c 5 (nZ s.2) (.c 6 (nZ q2) .nil)))) (λx m=> ?_) ?_)
 refine v0 ?_
 apply vi m <;> intro c1 m
 refine vs (v0 (vl 0 (.agg (aM x1)) kL rfl rfl rfl ?_))
 obtain⟨_,X1,m⟩:=aC m
 exact bU (cL X1 i8 O0 rfl rfl) (ve λu=>cI (fo:=0) (x1:bI) 1 u X1 eS O0 rfl rfl rfl rfl (cU.refl _ _) JN rfl rfl λK3=>qk K3 rfl (v0 (eY m ag0 (bK.set O0) (lx (.k4 .nil)))))
 exact v0 (eY m ag0 O0 (lx (.k4 .nil)))
 rintro ag1 ⟨j0,j1⟩ O1 m
 exact v0 (eY m ag1 O1 (kP [1] rfl rfl (.k4 .nil)))
 exact v0 (lA m ag0 O0 (lx (.k4 .nil)))
 rintro ag2 ⟨r0,r1,r2⟩ t0 m
 refine vs (v0 ?_)
 obtain⟨Z0,m⟩:=mQ m
 refine bU (BU Z0 i8 t0 rfl rfl) (ve λu=>AK 0 u Z0 eS t0 u42 B5 rfl rfl rfl rfl λsp0 O2 K4=>qk K4 rfl (vs (v0 ?_)))
 obtain⟨Z1,m⟩:=mQ m
 refine bU (BV Z1 t0 i8 rfl rfl) (v0 ?_)
 cases m
 exact vr λu=>dX.one (.inl rfl) (aS (h0:=h) (L':= [((⟨ag2.t,r1.toNat,ag2.cap,sp0⟩:cR).t,.obj 81 (fl aM (r0.take r1.toNat:List bI) (⟨ag2.t,r1.toNat,ag2.cap,sp0⟩:cR).sp))]) (.refl _) u).1 (bH.refl _ _) ⟨(⟨ag2.t,r1.toNat,ag2.cap,sp0⟩:cR),O2,(aS (h0:=h) (L':= [((⟨ag2.t,r1.toNat,ag2.cap,sp0⟩:cR).t,.obj 81 (fl aM (r0.take r1.toNat:List bI) (⟨ag2.t,r1.toNat,ag2.cap,sp0⟩:cR).sp))]) (.refl _) u).2,rfl,rfl⟩
theorem aE9:aO Tryz.prog 66=true:=by kernel_rfl
open Go.Vm
theorem iQ {α:Type} {l:List α} {q:α→Bool} (h:l.any q=true):∃(i:Nat) (x:α),oH l q=(i:Int)∧l[i]? =some x∧q x=true∧∀y∈l.take i,q y=false:=by
 unfold oH
 cases e:(List.range l.length).find? λi=>(l[i]?).any q with
 | none=>
  exfalso
  obtain⟨x,hx,hq⟩:=List.any_eq_true.1 h
  obtain⟨i,hi,rfl⟩:=List.getElem_of_mem hx
  have:=List.find?_eq_none.1 e i (List.mem_range.2 hi)
  simp[hi,hq] at this
 | some i=>
  obtain⟨h1,h2,h3⟩:=List.find?_range_eq_some.1 e
  cases e2:l[i]? with
  | none=>rw[e2] at h1; cases h1
  | some x=>
   refine⟨i,x,rfl,e2,by rw[e2] at h1; simpa using h1,λy hy=> ?_⟩
   obtain⟨j,hj,rfl⟩:=List.getElem_of_mem hy
   rw[List.length_take] at hj
   have h4:=h3 j (by omega)
   have:l[j]? =some l[j]:=List.getElem?_eq_getElem (by omega)
   rw[this] at h4
   rw[List.getElem_take]
   simpa using h4
theorem gZ {α:Type} {l:List α} {q:α→Bool} (h:l.any q=false):oH l q= -1:=by
 unfold oH
 have:(List.range l.length).find? (λi=>(l[i]?).any q)=none:=by
  rw[List.find?_eq_none]
  intro i hi
  have hi:=List.mem_range.1 hi
  rw[List.getElem?_eq_getElem hi]
  have:=List.any_eq_false.1 h l[i] (List.getElem_mem hi)
  simpa using this
 rw[this]
theorem sN {α ρ:Type} {l:List α} {q:α→Bool} {F:Nat} {body:List α×Int×Int→Option (Lp (List α×Int×Int) ρ)} {i0:Nat} {x0:α} (hF:l.length < F) (h0:l[i0]? =some x0) (hq:q x0=true) (hn:∀y∈l.take i0,q y=false)
    (hb:∀(cur:List α) (w r:Nat) (x:α),cur.length=l.length→w < r→r < l.length→cur[r]? =some x→x∈l→body (cur,(w:Int),(r:Int))=some (.go (if q x then (cur,(w:Int),((r+1:Nat):Int)) else (cur.set w x,((w+1:Nat):Int),((r+1:Nat):Int)))))
    (he:∀(cur:List α) (w:Nat),cur.length=l.length→body (cur,(w:Int),(l.length:Int))=some (.brk (cur,(w:Int),(l.length:Int)))):
    ∃(cur:List α) (w:Nat),aT body F (l,(i0:Int),((i0+1:Nat):Int))=some (.brk (cur,(w:Int),(l.length:Int)))∧w < l.length∧cur.length=l.length∧cur.take w=l.filter λx=> !q x:=by
  have hi0:=(List.getElem?_eq_some_iff.1 h0).1
  have hx0:=(List.getElem?_eq_some_iff.1 h0).2
  obtain⟨s,⟨cur,w,e1,e2,e3,e4,e5⟩,h3⟩:=pJ (body:=body) (I:=λk s=>∃(cur:List α) (w:Nat),s=(cur,(w:Int),(k:Int))∧w < k∧cur.length=l.length∧cur.take w=((l.take k).filter λx=> !q x)∧cur.drop k=l.drop k) (n:=l.length) (λk s hk hI=>by
    obtain⟨cur,w,rfl,i2,i3,i4,i5⟩:=hI
    have hx:cur[k]? =l[k]? :=by
      have:=congrArg (λz=>z[0]?) i5
      simpa [List.getElem?_drop] using this
    have hlk:l[k]? =some l[k]:=List.getElem?_eq_getElem hk
    rw[hlk] at hx
    have htk:=List.take_succ_eq_append_getElem hk
    have hmem:=List.getElem_mem hk
    generalize l[k]=x at hx htk hmem
    have hd:cur.drop (k+1)=l.drop (k+1):=by
      have:=congrArg (List.drop 1) i5
      simpa [List.drop_drop,Nat.add_comm] using this
    refine⟨_,hb cur w k x i3 i2 hk hx hmem, ?_⟩
    cases hqx:q x
    · refine⟨cur.set w x,w+1,by simp,by omega,by simpa using i3, ?_, ?_⟩
      · rw[htk,List.filter_append,← i4]
        have hw:w < (cur.set w x).length:=by rw[List.length_set]; omega
        rw[List.take_succ_eq_append_getElem hw,List.getElem_set_self,List.take_set_of_le (Nat.le_refl _)]
        simp[List.filter,hqx]
      · rw[List.drop_set_of_lt (by omega)]
        exact hd
    · refine⟨cur,w,by simp,by omega,i3, ?_,hd⟩
      rw[htk,List.filter_append,← i4]
      simp[List.filter,hqx]) (λs hI=>by
    obtain⟨cur,w,rfl,i2,i3, -⟩:=hI
    exact he cur w i3) F (i0+1) (l,(i0:Int),((i0+1:Nat):Int)) hi0 (by omega) ⟨l,i0,rfl,by omega,rfl,by
      rw[List.take_succ_eq_append_getElem hi0,List.filter_append,hx0]
      have:(l.take i0).filter (λx=> !q x)=l.take i0:=List.filter_eq_self.2 λy hy=>by simp[hn y hy]
      rw[this]
      simp[List.filter,hq],rfl⟩
  subst e1
  refine⟨cur,w,h3,by omega,e3, ?_⟩
  rw[e4,List.take_length]
theorem m83 {F:Nat} {l:List bI} {f:bI→Option Bool} (q:bI→Bool) (hF:1000≤F) (hl:l.length≤300) (hf:∀x∈l,f x=some (q x)):MP F l f=some (l.filter λx=> !q x):=by
 have h119:EK F l f=some (oH l q):=by
  unfold EK
  refine iP q (by omega) (λi x hx hm hi=> ?_) (by unfold pL; simp)
  unfold pL
  rw[hH (by omega)]
  simp only[bO,hx,hf x hm,Option.bind_some,Int.ofNat_lt,hi,decide_true,if_true]
  split <;> rfl
 unfold MP
 rw[h119]
 simp only[Option.bind_some]
 cases ha:l.any q with
 | false=>
  rw[gZ ha]
  simp only[beq_self_eq_true,if_true]
  rw[List.filter_eq_self.2 λx hx=>by simpa using List.any_eq_false.1 ha x hx]
 | true=>
  obtain⟨i,x,h1,h2,h3,h4⟩:=iQ ha
  rw[h1]
  have hn:((i:Int)== -1)=false:=by simp
  have hil:=(List.getElem?_eq_some_iff.1 h2).1
  rw[hn,hH (by omega)]
  simp only[Bool.false_eq_true,if_false]
  obtain⟨cur,w,e1,e2,e3,e4⟩:=sN (l:=l) (q:=q) (F:=F) (body:=λs=>pY F f s.1 s.2.1 s.2.2) (by omega) h2 h3 h4 (λcur w r x hc hw hr hx hm=>by
   unfold pY
   simp only
   rw[hH (i:=r) (by omega),hH (i:=w) (by omega)]
   have hcw:cur[w]? =some cur[w]:=List.getElem?_eq_getElem (by omega)
   simp only[bO,hx,hf x hm,Option.bind_some,hc,Int.ofNat_lt,hr,decide_true,if_true,hcw,Int.toNat_natCast]
   cases q x <;> rfl) (λcur w hc=>by unfold pY; simp[hc])
  rw[e1]
  simp only[aJ]
  have g1:(decide ((0:Int)≤(w:Int)) && decide ((w:Int) < (cur.length:Int)))=true:=by simp; omega
  have g2:(decide ((0:Int)≤(w:Int)) && decide ((w:Int)≤(cur.length:Int)))=true:=by simp; omega
  simp only[grd,g1,g2,if_true,Int.toNat_natCast,e4]
end Go.Proofs.YtbbifdfldpfphaaGreat
namespace Go.Vm
abbrev OG:=Option cR
def oT (og:OG):Option cB:=og.bind (·.t)
def oS (og:OG):List AV:=og.elim [] (·.sp)
def awO {β:Type} (ci:β→List AV) (szi:Nat) (og:OG) (l:List β):AV:=match og with
 | some g=>aw g.t g.n g.cap
 | none=>.sl none szi (l.map ci)
structure dF where
 a:cR
 gs:List OG
def gx (gs:List OG) (i:Nat):OG:=(gs[i]?).getD none
def zg {α:Type} (xs:List α) (gs:List OG):List (α×OG):=xs.zip gs
def nl {α β:Type} (l:α→List β) (ys:List (α×OG)):List (List β×OG):=ys.map λy=>(l y.1,y.2)
def kA {β:Type} (ty:TypeId) (ci:β→List AV) (zs:List (List β×OG)):HL:=zs.map λz=>(oT z.2,.obj ty (fl ci z.1 (oS z.2)))
structure sO {α β:Type} (l:α→List β) (sz szi:Nat) (g:dF) (xs:List α):Prop where
 a:bK g.a sz xs.length
 len:g.gs.length=xs.length
 el:∀z∈nl l (zg xs g.gs),∀g',z.2=some g'→bK g' szi z.1.length
section
variable {α β:Type} {l:α→List β} {sz szi:Nat}
theorem uP {xs:List α} {gs:List OG} (h:gs.length=xs.length):(zg xs gs).length=xs.length:=by simp[zg,List.length_zip,h]
theorem sO.z {g:dF} {xs:List α} (ok:sO l sz szi g xs):bK g.a sz (zg xs g.gs).length:=by rw[uP ok.len]; exact ok.a
theorem G0 {xs:List α} {gs:List OG} (h:gs.length=xs.length) {k:Nat} {x:α} (hx:xs[k]? =some x):(zg xs gs)[k]? =some (x,gx gs k):=by
 obtain⟨hk,rfl⟩:=List.getElem?_eq_some_iff.1 hx
 have hk':k < gs.length:=by omega
 simp[zg,gx,List.getElem?_zip_eq_some,hk,hk']
theorem YZ {xs:List α} {gs:List OG} (h:gs.length=xs.length) {i:Int} {x:α} (hx:ix xs i=some x):ix (zg xs gs) i=some (x,gx gs i.toNat):=by
 obtain⟨h1,h2,h3⟩:=f0 hx
 unfold ix
 rw[if_pos h1]
 exact G0 h h3
theorem MQ {xs:List α} {gs:List OG} (k:Nat) (x:α) (og:OG):(zg xs gs).set k (x,og)=zg (xs.set k x) (gs.set k og):=by
 unfold zg
 induction xs generalizing gs k with
 | nil=>simp
 | cons y ys ih=>cases gs with
  | nil=>simp
  | cons g gs=>cases k with
   | zero=>simp
   | succ k=>simp[ih]
theorem QF {gs:List OG} (k:Nat) (h:k < gs.length):gs.set k (gx gs k)=gs:=by
 apply List.ext_getElem?
 intro i
 rw[List.getElem?_set]
 split
 ·rename_i e; subst e; simp[gx,h]
 ·rfl
theorem sO.ix {g:dF} {xs:List α} (ok:sO l sz szi g xs) {i:Int} {x:α} (hx:ix xs i=some x):Vm.ix (zg xs g.gs) i=some (x,gx g.gs i.toNat):=YZ ok.len hx
theorem sO.set {g:dF} {xs:List α} {i:Int} {x x':α} (ok:sO l sz szi g xs) (hx:Vm.ix xs i=some x) (e:l x'=l x):
    sO l sz szi g (xs.set i.toNat x')∧(zg xs g.gs).set i.toNat (x',gx g.gs i.toNat)=zg (xs.set i.toNat x') g.gs∧nl l (zg (xs.set i.toNat x') g.gs)=nl l (zg xs g.gs):=by
  obtain⟨h1,h2,h3⟩:=f0 hx
  have hk:i.toNat < xs.length:=(List.getElem?_eq_some_iff.1 h3).1
  have e1:(zg xs g.gs).set i.toNat (x',gx g.gs i.toNat)=zg (xs.set i.toNat x') g.gs:=by rw[MQ,QF _ (by have:=ok.len; omega)]
  have e2:nl l (zg (xs.set i.toNat x') g.gs)=nl l (zg xs g.gs):=by
    rw[← e1]
    unfold nl
    rw[List.map_set]
    apply List.ext_getElem?
    intro j
    rw[List.getElem?_set]
    split
    · rename_i q; subst q
      have h5:=G0 ok.len h3
      rw[List.getElem?_map,h5]
      simp[e,uP ok.len,hk]
    · rfl
  exact⟨⟨by rw[List.length_set]; exact ok.a,by rw[List.length_set]; exact ok.len,by rw[e2]; exact ok.el⟩,e1,e2⟩
theorem sO.setL {g:dF} {xs:List α} {i:Int} {x x':α} (ok:sO l sz szi g xs) (hx:Vm.ix xs i=some x) (g':cR) (hg:bK g' szi (l x').length):
    sO l sz szi ⟨g.a,g.gs.set i.toNat (some g')⟩ (xs.set i.toNat x')∧(zg xs g.gs).set i.toNat (x',some g')=zg (xs.set i.toNat x') (g.gs.set i.toNat (some g'))∧
      nl l (zg (xs.set i.toNat x') (g.gs.set i.toNat (some g')))=(nl l (zg xs g.gs)).set i.toNat (l x',some g'):=by
  obtain⟨h1,h2,h3⟩:=f0 hx
  have e1:(zg xs g.gs).set i.toNat (x',some g')=zg (xs.set i.toNat x') (g.gs.set i.toNat (some g')):=MQ _ _ _
  have e2:nl l (zg (xs.set i.toNat x') (g.gs.set i.toNat (some g')))=(nl l (zg xs g.gs)).set i.toNat (l x',some g'):=by
    rw[← e1]; unfold nl; rw[List.map_set]
  refine⟨⟨by rw[List.length_set]; exact ok.a,by simp[ok.len], ?_⟩,e1,e2⟩
  show ∀z∈nl l (zg (xs.set i.toNat x') (g.gs.set i.toNat (some g'))),_
  rw[e2]
  intro z hz g2 hg2
  rcases List.mem_or_eq_of_mem_set hz with hz | rfl
  · exact ok.el z hz g2 hg2
  · cases hg2; exact hg
theorem sO.nlat {g:dF} {xs:List α} {i:Int} {x:α} (ok:sO l sz szi g xs) (hx:Vm.ix xs i=some x):(nl l (zg xs g.gs))[i.toNat]? =some (l x,gx g.gs i.toNat):=by
 obtain⟨h1,h2,h3⟩:=f0 hx
 unfold nl
 rw[List.getElem?_map,G0 ok.len h3]
 rfl
theorem sO.plain {a:cR} {xs:List α} (ok:bK a sz xs.length):sO l sz szi ⟨a,List.replicate xs.length none⟩ xs:=⟨ok,by simp,λz hz g' e=>by
 unfold nl zg at hz
 obtain⟨y,hy,rfl⟩:=List.mem_map.1 hz
 have:=(List.of_mem_zip hy).2
 rw[List.mem_replicate] at this
 simp only at e
 rw[this.2] at e
 cases e⟩
variable {ty:TypeId} {ci:β→List AV} {h0:aF}
theorem xX {γ:Type}:∀ {zs:List γ} {j:Nat} {z:γ},zs[j]? =some z→zs.Perm (z::zs.eraseIdx j)
 | [],_,_,h=>by simp at h
 | y::ys,0,z,h=>by
  simp only[List.getElem?_cons_zero,Option.some.injEq] at h
  subst h
  exact .refl _
 | y::ys,j+1,z,h=>by
  have:=xX (zs:=ys) (j:=j) (z:=z) (by simpa using h)
  simp only[List.eraseIdx_cons_succ]
  exact(this.cons y).trans (.swap z y _)
theorem IF {zs:List (List β×OG)} {j:Nat} {z:List β×OG} (hz:zs[j]? =some z):(kA ty ci zs).Perm ((oT z.2,.obj ty (fl ci z.1 (oS z.2)))::kA ty ci (zs.eraseIdx j)):=by
 exact(xX hz).map _
theorem QG {zs:List (List β×OG)} {j:Nat} (z:List β×OG) (hj:j < zs.length):(kA ty ci (zs.set j z)).Perm ((oT z.2,.obj ty (fl ci z.1 (oS z.2)))::kA ty ci (zs.eraseIdx j)):=by
 have:=IF (ty:=ty) (ci:=ci) (zs:=zs.set j z) (j:=j) (z:=z) (by simp[hj])
 rwa [List.eraseIdx_set_eq] at this
theorem uQ {k:cB} {e:iE}:∀ {L:HL},bV h0 L→(some k,e)∈L→hp h0 L k=some e
 | [],_,h=>by cases h
 | (t,e')::r,ok,h=>by
  rcases List.mem_cons.1 h with h | h
  ·cases h; simp only[hp,dL]
  ·have ih:=uQ (L:=r) ok.1 h
   cases t with
   | none=>exact ih
   | some k'=>
    have hne:k≠k':=λq=>by
     have:=ok.2 k' rfl
     rw[← q,ih] at this
     cases this
    simp only[hp]
    rw[cQ _ _ hne,ih]
theorem G1 {k:cB} {e:iE}:∀ {L:HL},bV h0 L→(some k,e)∈L→h0 k=none
 | [],_,h=>by cases h
 | (t,e')::r,ok,h=>by
  rcases List.mem_cons.1 h with h | h
  ·cases h
   have:=ok.2 k rfl
   exact mO (aS (List.nil_sublist r) ok.1).1 this
  ·exact G1 ok.1 h
theorem G2 {k:cB}:∀ {L:HL},h0 k=none→(∀e,(some k,e) ∉ L)→hp h0 L k=none
 | [],h,_=>h
 | (t,e')::r,h,hn=>by
  have ih:=G2 (L:=r) h λe q=>hn e (List.mem_cons_of_mem _ q)
  cases t with
  | none=>exact ih
  | some k'=>
   have hne:k≠k':=λq=>hn e' (by rw[q]; exact List.mem_cons_self)
   simp only[hp]
   rw[cQ _ _ hne,ih]
theorem B9 {k:cB} {e e':iE}:∀ {A F:HL},bV h0 (A++F)→(some k,e)∈F→(some k,e') ∉ A
 | [],_,_,_=>nofun
 | (t,e2)::A,F,ok,h=>λq=>by
  rcases List.mem_cons.1 q with q | q
  ·cases q
   have:=ok.2 k rfl
   rw[uQ ok.1 (List.mem_append_right _ h)] at this
   cases this
  ·exact B9 ok.1 h q
theorem tG.append {H:aF} {xs ys:List AV} (h:tG H xs ys) {us vs:List AV} (h2:tG H us vs):tG H (xs++us) (ys++vs):=by
 induction h with
 | nil=>exact h2
 | cons a _ ih=>exact .cons a ih
theorem tG.flat {γ:Type} {H:aF} {c c':γ→List AV}:∀ {ys:List γ},(∀y∈ys,tG H (c y) (c' y))→tG H (ys.map c).flatten (ys.map c').flatten
 | [],_=>.nil
 | y::ys,h=>by
  simp only[List.map_cons,List.flatten_cons]
  exact(h y List.mem_cons_self).append (tG.flat λz hz=>h z (List.mem_cons_of_mem _ hz))
theorem Br.vwN {γ:Type} {c c':γ→List AV} {ys:List γ} {H:aF} {k:cB} {ty:TypeId} {sp:List AV} {sz cap:Nat} (hc:∀y,(c' y).length=sz) (hk:H k=some (.obj ty (fl c ys sp))) (hb:∀y∈ys,tG H (c y) (c' y)):Br H (.vw k ys.length cap) (.sl none sz (ys.map c')):=by
 intro E w v r hv
 simp only[VR] at hv ⊢
 obtain⟨g,hg,rfl,h1,h2⟩:=hv
 obtain⟨g',cur,e1,e2,e3,e4⟩:=r.obj _ _ _ hk
 rw[hg] at e1; cases e1
 refine⟨_,cap,by rw[List.length_map],by rw[List.length_map]; exact h1,h2, ?_, ?_,nofun⟩
 ·refine .inr ⟨g,0,rfl,jA.2 ?_⟩
  have htake:cW E w (ys.map c).flatten (cur.toList.take ((ys.map c).flatten.length)):=by
   have:=fP ((ys.map c).flatten.length) e3
   rwa [fl,List.take_left' rfl] at this
  refine eE ((tG.flat hb).spec r htake) (λu hu=>e4 u (List.mem_of_mem_take hu)) ?_
  intro j u hj
  rw[List.getElem?_take] at hj
  split at hj
  ·have hcell:w.cell? ⟨g,0+j,none⟩=some u:=by
    simp only[World.cell?,e2,Nat.zero_add]
    simpa using hj
   exact⟨hcell,.inl (.inr ⟨⟨k,.inl ⟨_,rfl,hk,hg⟩⟩,u,hcell⟩)⟩
  ·cases hj
 ·intro x hx
  obtain⟨y,_,rfl⟩:=List.mem_map.1 hx
  exact hc y
theorem xY {γ:Type} {xs:List α} {gs:List OG} (h:gs.length=xs.length) (c:α→γ):(zg xs gs).map (λy=>c y.1)=xs.map c:=by
 unfold zg
 have:(xs.zip gs).map Prod.fst=xs:=List.map_fst_zip (by omega)
 conv=>rhs; rw[← this,List.map_map]
 rfl
theorem Br.awO {H:aF} {og:OG} {xs:List β} (hc:∀y,(ci y).length=szi) (ok:∀g,og=some g→bK g szi xs.length) (hk:∀k,oT og=some k→H k=some (.obj ty (fl ci xs (oS og)))):Br H (Vm.awO ci szi og xs) (.sl none szi (xs.map ci)):=by
 cases og with
 | none=>exact Br.refl _ _
 | some g=>
  have ok:=ok g rfl
  show Br H (Vm.aw g.t g.n g.cap) _
  rw[ok.eqn]
  cases ht:g.t with
  | none=>
   have h0:xs= []:=List.length_eq_zero_iff.1 (ok.nil ht)
   subst h0
   exact Br.ale (tW _ szi)
  | some k=>exact Br.vw hc (hk k ht)
theorem Br.awN {cN:α×OG→List AV} {c:α→List AV} {L:HL} {tyo:TypeId} {g:dF} {xs:List α} (i:Nat) (hc:∀y,(c y).length=sz) (hci:∀y,(ci y).length=szi) (hb:∀(H:aF) (y:α×OG),Br H (Vm.awO ci szi y.2 (l y.1)) (.sl none szi ((l y.1).map ci))→tG H (cN y) (c y.1))
    (ok:sO l sz szi g xs) (hk:bV h0 L) (hi:L[i]? =some (g.a.t,.obj tyo (fl cN (zg xs g.gs) g.a.sp))) (hm:∀e∈kA ty ci (nl l (zg xs g.gs)),e∈L):Br (hp h0 L) (Vm.aw g.a.t g.a.n g.a.cap) (.sl none sz (xs.map c)):=by
  rw[ok.a.eqn]
  cases ht:g.a.t with
  | none=>
    have h0:xs= []:=List.length_eq_zero_iff.1 (ok.a.nil ht)
    subst h0
    exact Br.ale (tW _ sz)
  | some k=>
    rw[ht] at hi
    have:=Br.vwN (c':=λy:α×OG=>c y.1) (sz:=sz) (cap:=g.a.cap) (λy=>hc y.1) (a9 i hk hi) λy hy=>hb _ y (Br.awO (ty:=ty) hci (ok.el (l y.1,y.2) (List.mem_map.2 ⟨y,hy,rfl⟩)) λk' hk'=>by
      refine uQ hk (hm _ ?_)
      rw[← hk']
      exact List.mem_map.2 ⟨(l y.1,y.2),List.mem_map.2 ⟨y,hy,rfl⟩,rfl⟩)
    rwa [uP ok.len,xY ok.len] at this
theorem o5.append {H H':aF} {xs ys:List AV} (h:o5 H H' xs ys) {us vs:List AV} (h2:o5 H H' us vs):o5 H H' (xs++us) (ys++vs):=by
 induction h with
 | nil=>exact h2
 | cons a _ ih=>exact .cons a ih
theorem o5.flat {γ:Type} {H H':aF} {c c':γ→List AV}:∀ {ys:List γ},(∀y∈ys,o5 H H' (c y) (c' y))→o5 H H' (ys.map c).flatten (ys.map c').flatten
 | [],_=>.nil
 | y::ys,h=>by
  simp only[List.map_cons,List.flatten_cons]
  exact(h y List.mem_cons_self).append (o5.flat λz hz=>h z (List.mem_cons_of_mem _ hz))
theorem Fz.vwN {γ:Type} {c c':γ→List AV} {ys:List γ} {H H':aF} {k:cB} {ty:TypeId} {sp:List AV} {sz cap:Nat} (hc:∀y,(c' y).length=sz) (hk:H k=some (.obj ty (fl c ys sp))) (hn:H' k=none) (hb:∀y∈ys,o5 H H' (c y) (c' y)):Fz H H' (.vw k ys.length cap) (.sl none sz (ys.map c')):=by
 intro E w v r hv
 simp only[VR] at hv ⊢
 obtain⟨g,hg,rfl,h1,h2⟩:=hv
 obtain⟨g',cur,e1,e2,e3,e4⟩:=r.obj _ _ _ hk
 rw[hg] at e1; cases e1
 refine⟨_,cap,by rw[List.length_map],by rw[List.length_map]; exact h1,h2, ?_, ?_,nofun⟩
 ·refine .inr ⟨g,0,rfl,jA.2 ?_⟩
  have htake:cW E w (ys.map c).flatten (cur.toList.take ((ys.map c).flatten.length)):=by
   have:=fP ((ys.map c).flatten.length) e3
   rwa [fl,List.take_left' rfl] at this
  refine eE ((o5.flat hb).spec r htake) (λu hu=>e4 u (List.mem_of_mem_take hu)) ?_
  intro j u hj
  rw[List.getElem?_take] at hj
  split at hj
  ·have hcell:w.cell? ⟨g,0+j,none⟩=some u:=by
    simp only[World.cell?,e2,Nat.zero_add]
    simpa using hj
   exact⟨hcell,.inl (.inr ⟨⟨k,.inl ⟨_,rfl,hk,hg⟩,hn⟩,u,hcell⟩)⟩
  ·cases hj
 ·intro x hx
  obtain⟨y,_,rfl⟩:=List.mem_map.1 hx
  exact hc y
theorem Fz.awO {H H':aF} (hs:h9 H' H) {og:OG} {xs:List β} (hc:∀y,(ci y).length=szi) (ok:∀g,og=some g→bK g szi xs.length) (hk:∀k,oT og=some k→H k=some (.obj ty (fl ci xs (oS og)))∧H' k=none):Fz H H' (Vm.awO ci szi og xs) (.sl none szi (xs.map ci)):=by
 cases og with
 | none=>exact Fz.refl _ _ _
 | some g=>
  have ok:=ok g rfl
  show Fz H H' (Vm.aw g.t g.n g.cap) _
  rw[ok.eqn]
  cases ht:g.t with
  | none=>
   have h0:xs= []:=List.length_eq_zero_iff.1 (ok.nil ht)
   subst h0
   exact Fz.ale hs (tW _ szi)
  | some k=>exact Fz.vw hc (hk k ht).1 (hk k ht).2
theorem Fz.awN {cN:α×OG→List AV} {c:α→List AV} {A A' F:HL} {tyo:TypeId} {g:dF} {xs:List α} (i:Nat) (hc:∀y,(c y).length=sz) (hci:∀y,(ci y).length=szi) (hb:∀(H H':aF) (y:α×OG),Fz H H' (Vm.awO ci szi y.2 (l y.1)) (.sl none szi ((l y.1).map ci))→o5 H H' (cN y) (c y.1))
    (ok:sO l sz szi g xs) (hk:bV h0 (A++F)) (hi:A[i]? =some (g.a.t,.obj tyo (fl cN (zg xs g.gs) g.a.sp))) (hm:∀e∈kA ty ci (nl l (zg xs g.gs)),e∈F) (hs:A'.Sublist (A.eraseIdx i)):Fz (hp h0 (A++F)) (hp h0 A') (Vm.aw g.a.t g.a.n g.a.cap) (.sl none sz (xs.map c)):=by
  have hA:A'.Sublist (A++F):=(hs.trans (List.eraseIdx_sublist A i)).trans (List.sublist_append_left A F)
  have hsub:=(aS hA hk).1
  rw[ok.a.eqn]
  cases ht:g.a.t with
  | none=>
    have h0:xs= []:=List.length_eq_zero_iff.1 (ok.a.nil ht)
    subst h0
    exact Fz.ale hsub (tW _ sz)
  | some k=>
    rw[ht] at hi
    have hil:i < A.length:=(List.getElem?_eq_some_iff.1 hi).1
    have hi2:(A++F)[i]? =some (some k,.obj tyo (fl cN (zg xs g.gs) g.a.sp)):=by rw[List.getElem?_append_left hil]; exact hi
    have hs2:A'.Sublist ((A++F).eraseIdx i):=by
      rw[List.eraseIdx_append_of_lt_length hil]
      exact hs.trans (List.sublist_append_left _ F)
    have:=Fz.vwN (c':=λy:α×OG=>c y.1) (sz:=sz) (cap:=g.a.cap) (H':=hp h0 A') (λy=>hc y.1) (a9 i hk hi2) (mO (aS hs2 (aS (List.eraseIdx_sublist _ i) hk).2).1 (nH i hk hi2)) λy hy=>hb _ _ y (Fz.awO (ty:=ty) hsub hci (ok.el (l y.1,y.2) (List.mem_map.2 ⟨y,hy,rfl⟩)) λk' hk'=>by
      have hmF:(some k',iE.obj ty (fl ci (l y.1) (oS y.2)))∈F:=hm _ (by rw[← hk']; exact List.mem_map.2 ⟨(l y.1,y.2),List.mem_map.2 ⟨y,hy,rfl⟩,rfl⟩)
      refine⟨uQ hk (List.mem_append_right _ hmF),G2 (G1 hk (List.mem_append_right _ hmF)) λe q=> ?_⟩
      exact B9 hk hmF ((hs.trans (List.eraseIdx_sublist A i)).subset q))
    rwa [uP ok.len,xY ok.len] at this
end
def hD:List HL→HL
 | []=> []
 | [x]=>x
 | x::y::r=>x++hD (y::r)
theorem gA:∀b:List HL,hD b=b.flatten
 | []=>rfl
 | [x]=>by simp[hD]
 | x::y::r=>by rw[hD,gA (y::r)]; rfl
theorem pZ {bl bl':List HL} (p:bl.Perm bl'):(hD bl).Perm (hD bl'):=by rw[gA,gA]; exact p.flatten
theorem oJ {bl:List HL} {b:Nat} {F:HL} (h:bl[b]? =some F):(hD bl).Perm (F++(bl.eraseIdx b).flatten):=by
 rw[gA]
 exact(xX h).flatten
theorem pM {bl:List HL} {b:Nat} {F:HL} (F':HL) (h:bl[b]? =some F):(hD (bl.set b F')).Perm (F'++(bl.eraseIdx b).flatten):=by
 have hb:b < bl.length:=(List.getElem?_eq_some_iff.1 h).1
 have:=oJ (bl:=bl.set b F') (b:=b) (F:=F') (by simp[hb])
 rwa [List.eraseIdx_set_eq] at this
section
variable {h0:aF} {L L' R:HL}
theorem sP (hk:bV h0 L) (bl:List HL) (hL:hD bl=L) (σ:List Nat) (hL':hD (pick σ bl)=L') (ho:σ.isPerm (List.range bl.length)=true):hp h0 L=hp h0 L'∧bV h0 L':=by
 subst hL hL'
 exact gU (pZ (mG ho)) hk
theorem sQ (hk:bV h0 L) (bl:List HL) (hL:hD bl=L) (σ:List Nat) (hL':hD (pick σ bl)=L') (ho:(σ++rS σ bl.length).isPerm (List.range bl.length)=true):bV h0 L'∧h9 (hp h0 L') (hp h0 L):=by
 subst hL hL'
 have p:=pZ (mG ho)
 have e2:pick (σ++rS σ bl.length) bl=pick σ bl++pick (rS σ bl.length) bl:=List.filterMap_append
 rw[e2,gA (_++_),List.flatten_append,← gA (pick σ bl)] at p
 obtain⟨e,k⟩:=gU p hk
 have:=aS (List.sublist_append_left (hD (pick σ bl)) (pick (rS σ bl.length) bl).flatten) k
 exact⟨this.2,by rw[e]; exact this.1⟩
theorem lxB {n:Nat} {f g:FR} (bl:List HL) (hL:hD bl=L) (σ:List Nat) (hL':hD (pick σ bl)=L') (ho:(σ++rS σ bl.length).isPerm (List.range bl.length)=true) (hf:FT (hp h0 L') n f.k g.k):LX h0 n f L g L':=λhk=>
 let ⟨h1,h2⟩:=sQ hk bl hL σ hL' ho; ⟨h1,i7.fm h2 hf⟩
variable {β:Type} {ty:TypeId} {ci:β→List AV}
theorem p4 (hk:bV h0 L) (bl:List HL) (hL:hD bl=L) (b:Nat) {zs:List (List β×OG)} {j:Nat} {z:List β×OG} (hb:bl[b]? =some (kA ty ci zs)) (hz:zs[j]? =some z) (hR:hD (bl.set b (kA ty ci (zs.eraseIdx j)))=R):
    hp h0 L=hp h0 ((oT z.2,.obj ty (fl ci z.1 (oS z.2)))::R)∧bV h0 ((oT z.2,.obj ty (fl ci z.1 (oS z.2)))::R):=by
  subst hL hR
  refine gU ?_ hk
  refine(oJ hb).trans (((IF hz).append_right _).trans ?_)
  exact((pM (kA ty ci (zs.eraseIdx j)) hb).symm.cons _)
theorem oK (bl:List HL) (hR:hD bl=R) (b:Nat) {zs:List (List β×OG)} {j:Nat} (z:List β×OG) (hj:j < zs.length) (hb:bl[b]? =some (kA ty ci (zs.eraseIdx j))) (hk:bV h0 ((oT z.2,.obj ty (fl ci z.1 (oS z.2)))::R)) (hL':hD (bl.set b (kA ty ci (zs.set j z)))=L'):
    hp h0 ((oT z.2,.obj ty (fl ci z.1 (oS z.2)))::R)=hp h0 L'∧bV h0 L':=by
  subst hR hL'
  refine gU ?_ hk
  refine((oJ hb).cons _).trans ?_
  refine(((QG z hj).symm.append_right _).trans ?_)
  exact(pM _ hb).symm
theorem EL (a b:List HL):hD (a++b)=hD a++hD b:=by rw[gA,gA,gA,List.flatten_append]
theorem MR {γ:Type} (σ τ:List Nat) (l:List γ):pick (σ++τ) l=pick σ l++pick τ l:=List.filterMap_append
theorem lV {A:HL} (hk:bV h0 L) (bl:List HL) (hL:hD bl=L) (σ τ:List Nat) (hA:hD (pick σ bl)=A) (hR:hD (pick τ bl)=R) (ho:(σ++τ).isPerm (List.range bl.length)=true):hp h0 L=hp (hp h0 R) A∧bV h0 R∧bV (hp h0 R) A:=by
 subst hL hA hR
 obtain⟨e,k⟩:=gU (pZ (mG ho)) hk
 rw[MR,EL] at e k
 obtain⟨k1,k2⟩:=cJ _ _ k
 exact⟨e.trans (cT h0 _ _).symm,k1,k2⟩
theorem lW {A:HL} (hR:bV h0 R) (hA:bV (hp h0 R) A) (ba br:List HL) (hA':hD ba=A) (hR':hD br=R) (σ:List Nat) (hL':hD (pick σ (ba++br))=L') (ho:σ.isPerm (List.range (ba++br).length)=true):hp (hp h0 R) A=hp h0 L'∧bV h0 L':=by
 subst hA' hR' hL'
 have k:=dG hR hA
 rw[cT]
 rw[← EL] at k ⊢
 exact gU (pZ (mG ho)) k
end
structure lX {α β:Type} (l:α→List β) (sz szi:Nat) (g:dF) (xs:List α):Prop where
 k:sO l sz szi g xs
 own:∀og∈g.gs,og≠none
section
variable {α β:Type} {l:α→List β} {sz szi:Nat} {g:dF} {xs:List α} {i:Int} {x x':α}
theorem lX.gx (ok:lX l sz szi g xs) (hx:Vm.ix xs i=some x):∃gv,Vm.gx g.gs i.toNat=some gv∧bK gv szi (l x).length∧(nl l (zg xs g.gs))[i.toNat]? =some (l x,some gv):=by
 have h1:=ok.k.nlat hx
 obtain⟨_,_,h3⟩:=f0 hx
 have hk:i.toNat < xs.length:=(List.getElem?_eq_some_iff.1 h3).1
 have hk':i.toNat < g.gs.length:=by have:=ok.k.len; omega
 cases hg:Vm.gx g.gs i.toNat with
 | none=>
  have:g.gs[i.toNat]=none:=by unfold Vm.gx at hg; rw[List.getElem?_eq_getElem hk'] at hg; exact hg
  exact absurd this (ok.own _ (List.getElem_mem hk'))
 | some gv=>
  rw[hg] at h1
  exact⟨gv,rfl,ok.k.el _ (List.mem_of_getElem? h1) gv rfl,h1⟩
theorem lX.set (ok:lX l sz szi g xs) (hx:Vm.ix xs i=some x) (e:l x'=l x):lX l sz szi g (xs.set i.toNat x'):=⟨(ok.k.set hx e).1,ok.own⟩
theorem lX.setL (ok:lX l sz szi g xs) (hx:Vm.ix xs i=some x) (g':cR) (hg:bK g' szi (l x').length):lX l sz szi ⟨g.a,g.gs.set i.toNat (some g')⟩ (xs.set i.toNat x'):=
 ⟨(ok.k.setL hx g' hg).1,λog h=>by rcases List.mem_or_eq_of_mem_set h with h | rfl; exact ok.own og h; exact nofun⟩
end
theorem jM {γ:Type} {l:List γ} {j:Nat} {z:γ} (h:l[j]? =some z):j < l.length:=(List.getElem?_eq_some_iff.1 h).1
theorem eqN {h0:aF} {L L':HL} (hk:bV h0 L) (e:L=L'):hp h0 L=hp h0 L'∧bV h0 L':=by subst e; exact⟨rfl,hk⟩
theorem sO.br {α β:Type} {l:α→List β} {sz szi:Nat} {ty:TypeId} {ci:β→List AV} {h0:aF} {L:HL} {g:dF} {xs:List α} {i:Int} {x:α} (ok:sO l sz szi g xs) (hx:Vm.ix xs i=some x) (hci:∀y,(ci y).length=szi) (hk:bV h0 L)
    (hm:∀e∈kA ty ci (nl l (zg xs g.gs)),e∈L):Br (hp h0 L) (awO ci szi (Vm.gx g.gs i.toNat) (l x)) (.sl none szi ((l x).map ci)):=by
  have hn:=List.mem_of_getElem? (ok.nlat hx)
  refine Br.awO (ty:=ty) hci (ok.el _ hn) λk hk'=>uQ hk (hm _ ?_)
  rw[← hk']
  exact List.mem_map.2 ⟨_,hn,rfl⟩
theorem QH {xs r:List AV} {m:Nat} (h:xs.length=m):DE true m ((xs++r).drop 0)=some (.agg xs):=by
 subst h
 simp[DE]
theorem f9 {β:Type} (ci:β→List AV) (szi:Nat) (og:OG) (l:List β):gK (awO ci szi og l)=true:=by
 cases og with
 | none=>rfl
 | some g=>exact bY _ _ _
theorem T9 {α β:Type} (f:α→β) (xs:List α) (i:Int):ix (xs.map f) i=(ix xs i).map f:=by
 unfold ix
 split
 ·rw[List.getElem?_map]
 ·rfl
theorem UA {α ρ:Type} {xs:List α} {gs:List OG} (hl:gs.length=xs.length) {F:List α→Option ρ} {G:Option ρ} (e:F ((zg xs gs).map Prod.fst)=G) {o:ρ} (h:F xs=some o):G=some o:=by
 rw[← e,show (zg xs gs).map Prod.fst=xs from by simpa using xY hl (λx=>x)]
 exact h
theorem UB {F L:HL} (bl:List HL) (hL:hD bl=L) (b:Nat) (hb:bl[b]? =some F):∀e∈F,e∈L:=λe he=>by
 subst hL
 rw[gA]
 exact List.mem_flatten.2 ⟨F,List.mem_of_getElem? hb,he⟩
section
variable {α β:Type} {l:α→List β} {sz szi:Nat} {ty:TypeId} {ci:β→List AV} {h0:aF} {L L':HL}
theorem DG {n:Nat} {f:FR} {cN:α×OG→List AV} {c:α→List AV} {tyo:TypeId} {g:dF} {xs:List α} (bl:List HL) (hL:hD bl=L) (i b:Nat) (hci:∀y,(ci y).length=szi)
    (hb:∀(H H':aF) (y:α×OG),Fz H H' (awO ci szi y.2 (l y.1)) (.sl none szi ((l y.1).map ci))→o5 H H' (cN y) (c y.1))
    (ok:sO l sz szi g xs) (hi:bl[i]? =some [(g.a.t,.obj tyo (fl cN (zg xs g.gs) g.a.sp))]) (hbf:bl[b]? =some (kA ty ci (nl l (zg xs g.gs)))) (hib:i < b)
    (hL':hD ((bl.eraseIdx b).set i [(g.a.t,.obj tyo (fl c xs g.a.sp))])=L') (hk:bV h0 L):bV h0 L'∧i7 (fm n f.k) (hp h0 L') (fm n f.k) (hp h0 L):=by
  subst hL hL'
  -- the array's block and the family's block, ahead of the rest
  have hi':(bl.eraseIdx b)[i]? =some [(g.a.t,.obj tyo (fl cN (zg xs g.gs) g.a.sp))]:=by
    rw[List.getElem?_eraseIdx]; simp[hib,hi]
  generalize hR:((bl.eraseIdx b).eraseIdx i).flatten=R
  have p1:(hD bl).Perm (kA ty ci (nl l (zg xs g.gs))++((g.a.t,.obj tyo (fl cN (zg xs g.gs) g.a.sp))::R)):=by
    refine(oJ hbf).trans (List.Perm.append_left _ ?_)
    have:=oJ hi'
    rw[gA,hR] at this
    exact this
  have p2:(hD ((bl.eraseIdx b).set i [(g.a.t,.obj tyo (fl c xs g.a.sp))])).Perm ((g.a.t,.obj tyo (fl c xs g.a.sp))::R):=by
    have:=pM [(g.a.t,iE.obj tyo (fl c xs g.a.sp))] hi'
    rw[hR] at this
    exact this
  obtain⟨e1,k1⟩:=gU p1 hk
  have k2:bV h0 ((g.a.t,.obj tyo (fl cN (zg xs g.gs) g.a.sp))::R):=(cJ _ _ k1).1
  have k3:bV h0 ((g.a.t,.obj tyo (fl c xs g.a.sp))::R):=⟨k2.1,k2.2⟩
  obtain⟨e2,k4⟩:=gU p2.symm k3
  refine⟨k4, ?_⟩
  rw[e1,← e2]
  have hs:h9 (hp h0 ((g.a.t,.obj tyo (fl cN (zg xs g.gs) g.a.sp))::R)) (hp h0 (kA ty ci (nl l (zg xs g.gs))++((g.a.t,.obj tyo (fl cN (zg xs g.gs) g.a.sp))::R))):=(aS (List.sublist_append_right _ _) k1).1
  intro E w vs r v
  have r1:=rP r hs
  have kk:eR E w (FC E _ (hp h0 ((g.a.t,.obj tyo (fl cN (zg xs g.gs) g.a.sp))::R)) w) w:=gX r
  cases ht:g.a.t with
  | none=>rw[ht] at r1 kk; exact⟨_,kk,r1,cP kk _ _ v⟩
  | some k=>
    rw[ht] at r1 kk k2 k1 hs r
    have hg1:hp h0 ((some k,iE.obj tyo (fl cN (zg xs g.gs) g.a.sp))::R) k=some (.obj tyo (fl cN (zg xs g.gs) g.a.sp)):=a9 0 k2 rfl
    obtain⟨gg,cur,f1,f2,f3,f4⟩:=r.obj k tyo _ (hs _ _ hg1)
    have hfz:o5 (hp h0 (kA ty ci (nl l (zg xs g.gs))++((some k,.obj tyo (fl cN (zg xs g.gs) g.a.sp))::R))) (hp h0 ((some k,.obj tyo (fl cN (zg xs g.gs) g.a.sp))::R)) (fl cN (zg xs g.gs) g.a.sp) (fl c xs g.a.sp):=by
      unfold fl
      refine o5.append ?_ (o5.refl _ _ _)
      rw[← xY ok.len c]
      refine o5.flat λy hy=>hb _ _ y (Fz.awO (ty:=ty) hs hci (ok.el (l y.1,y.2) (List.mem_map.2 ⟨y,hy,rfl⟩)) λk' hk'=> ?_)
      have hm:(some k',iE.obj ty (fl ci (l y.1) (oS y.2)))∈kA ty ci (nl l (zg xs g.gs)):=by rw[← hk']; exact List.mem_map.2 ⟨(l y.1,y.2),List.mem_map.2 ⟨y,hy,rfl⟩,rfl⟩
      refine⟨uQ k1 (List.mem_append_left _ hm),G2 (G1 k1 (List.mem_append_left _ hm)) λe q=> ?_⟩
      have p3:=List.perm_append_comm (l₁:=kA ty ci (nl l (zg xs g.gs))) (l₂:=(some k,iE.obj tyo (fl cN (zg xs g.gs) g.a.sp))::R)
      exact B9 (gU p3 k1).2 hm q
    obtain⟨q1,q2⟩:=r1.set_obj hg1 (show (FC E _ (hp h0 ((some k,.obj tyo (fl cN (zg xs g.gs) g.a.sp))::R)) w).ob k=some gg from f1) (w':=w) f2 (λ_ _=>rfl) (Nat.le_refl _) rfl rfl rfl (hfz.spec r f3) f4
    have e3:upd (hp h0 ((some k,iE.obj tyo (fl cN (zg xs g.gs) g.a.sp))::R)) k (some (.obj tyo (fl c xs g.a.sp)))=hp h0 ((some k,.obj tyo (fl c xs g.a.sp))::R):=by
      funext z
      simp only[hp,upd]
      split <;> rfl
    rw[e3] at q2
    exact⟨_,kk.trans q1,q2,cP (kk.trans q1) _ _ v⟩
end
theorem CA {P:Program} {h:aF} {n:Nat} {rs:List ResultVar} {Q:AV→aF→Prop} {e:Exit} {f g:FR} {L L':HL} (le:bV h L→bV h L'∧i7 (fm n g.k) (hp h L') (fm n f.k) (hp h L)) (k:RV P rs Q h n e g L'):RV P rs Q h n e f L:=
 ⟨λhk=>let ⟨h1,h2⟩:=le hk; let ⟨fr,hh,l2,q⟩:=k.r h1; ⟨fr,hh,h2.trans l2,q⟩⟩
structure CB {α β:Type} (l:α→List β) (sz szi:Nat) (g:dF) (xs:List α) (m N:Nat):Prop where
 k:sO l sz szi g xs
 len:xs.length=N
 pre:∀j,j < m→j < xs.length→gx g.gs j≠none
 post:∀j,m≤j→gx g.gs j=none
section
variable {α β:Type} {l:α→List β} {sz szi:Nat} {g:dF} {xs:List α} {q:Int} {x x':α} {ty:TypeId} {ci:β→List AV} {h0:aF} {L L':HL}
theorem UC (n j:Nat):gx (List.replicate n none) j=none:=by
 unfold gx
 rw[List.getElem?_replicate]
 split <;> rfl
theorem CB.zero {a:cR} (ok:bK a sz xs.length):CB l sz szi ⟨a,List.replicate xs.length none⟩ xs 0 xs.length:=⟨sO.plain ok,rfl,λj h=>absurd h (Nat.not_lt_zero _),λj _=>UC _ _⟩
theorem MS {gs:List OG} {i j:Nat} {og:OG}:gx (gs.set i og) j=if i=j∧j < gs.length then og else gx gs j:=by
 unfold gx
 rw[List.getElem?_set]
 by_cases e:i=j
 ·subst e
  by_cases h:i < gs.length
  ·simp[h]
  ·simp[h]
 ·simp[e]
theorem CB.step {N:Nat} (ok:CB l sz szi g xs q.toNat N) (hx:Vm.ix xs q=some x) (g':cR) (hg:bK g' szi (l x').length):CB l sz szi ⟨g.a,g.gs.set q.toNat (some g')⟩ (xs.set q.toNat x') (IntKind.wrap .i64 (q+1)).toNat N:=by
 obtain⟨h1,h2,h3⟩:=f0 hx
 have hm:=ok.k.a.mx
 have hl:=ok.k.a.le
 have hw:(IntKind.wrap .i64 (q+1)).toNat=q.toNat+1:=by
  rw[IntKind.wrap_i64]; simp only[maxLen] at hm; omega
 have hk:q.toNat < g.gs.length:=by have:=ok.k.len; omega
 rw[hw]
 refine⟨(ok.k.setL hx g' hg).1,by rw[List.length_set]; exact ok.len,λj hj hj2=> ?_,λj hj=> ?_⟩
 ·simp only[MS]
  rw[List.length_set] at hj2
  split
  ·exact nofun
  ·rename_i q1
   exact ok.pre j (by have:=ok.k.len; by_cases e:q.toNat=j <;> omega) hj2
 ·simp only[MS]
  rw[if_neg (by omega)]
  exact ok.post j (by omega)
theorem CB.set {N:Nat} (ok:CB l sz szi g xs q.toNat N) (hx:Vm.ix xs q=some x) (e:l x'=l x):CB l sz szi g (xs.set q.toNat x') q.toNat N:=⟨(ok.k.set hx e).1,by rw[List.length_set]; exact ok.len,λj hj hj2=>ok.pre j hj (by rwa [List.length_set] at hj2),ok.post⟩
theorem CB.all {N:Nat} (ok:CB l sz szi g xs q.toNat N) (hq:decide (q < (N:Int))=false):lX l sz szi g xs:=by
 have hq:=of_decide_eq_false hq
 have hN:=ok.len
 refine⟨ok.k,λog ho=> ?_⟩
 obtain⟨j,hj,rfl⟩:=List.getElem_of_mem ho
 have hl:=ok.k.len
 have:=ok.pre j (by omega) (by omega)
 unfold gx at this
 rwa [List.getElem?_eq_getElem hj] at this
theorem toN {n:Nat} {f:FR} {cN:α×OG→List AV} {c:α→List AV} {tyo:TypeId} {a:cR} (hc:∀x,cN (x,none)=c x) (bl:List HL) (hL:hD bl=L) (i:Nat) (hi:bl[i]? =some [(a.t,.obj tyo (fl c xs a.sp))])
    (hL':hD (bl.set i [(a.t,.obj tyo (fl cN (zg xs (List.replicate xs.length none)) a.sp))]++ [kA ty ci (nl l (zg xs (List.replicate xs.length none)))])=L') (hk:bV h0 L):bV h0 L'∧i7 (fm n f.k) (hp h0 L') (fm n f.k) (hp h0 L):=by
  have e1:fl cN (zg xs (List.replicate xs.length none)) a.sp=fl c xs a.sp:=by
    unfold fl
    have:(zg xs (List.replicate xs.length none)).map cN=xs.map c:=by
      have h1:(zg xs (List.replicate xs.length none)).map cN=(zg xs (List.replicate xs.length none)).map (λy=>c y.1):=by
        refine List.map_congr_left λy hy=> ?_
        have h2:=(List.of_mem_zip hy).2
        rw[List.mem_replicate] at h2
        obtain⟨y1,y2⟩:=y
        simp only at h2
        rw[h2.2,hc]
      rw[h1,xY (by simp)]
    rw[this]
  have e2:bl.set i [(a.t,iE.obj tyo (fl c xs a.sp))]=bl:=by
    obtain⟨hi',he⟩:=List.getElem?_eq_some_iff.1 hi
    rw[← he]
    exact List.set_getElem_self hi'
  rw[e1,e2] at hL'
  subst hL hL'
  have key:∀zs:List (List β×OG),(∀z∈zs,z.2=none)→∀ {L:HL},bV h0 L→bV h0 (kA ty ci zs++L)∧hp h0 (kA ty ci zs++L)=hp h0 L:=by
    intro zs
    induction zs with
    | nil=>intro _ L hk; exact⟨hk,rfl⟩
    | cons z zs ih=>
      intro hz L hk
      obtain⟨k1,k2⟩:=ih (λz hz'=>hz z (List.mem_cons_of_mem _ hz')) hk
      have h1:oT z.2=none:=by rw[hz z List.mem_cons_self]; rfl
      show bV h0 ((oT z.2,_)::(kA ty ci zs++L))∧hp h0 ((oT z.2,_)::(kA ty ci zs++L))=_
      rw[h1]
      exact⟨⟨k1,nofun⟩,k2⟩
  have hz:∀z∈nl l (zg xs (List.replicate xs.length none)),z.2=none:=by
    intro z hz
    obtain⟨y,hy,rfl⟩:=List.mem_map.1 hz
    have h2:=(List.of_mem_zip hy).2
    rw[List.mem_replicate] at h2
    exact h2.2
  obtain⟨k1,k2⟩:=key _ hz hk
  have p:(kA ty ci (nl l (zg xs (List.replicate xs.length none)))++hD bl).Perm (hD (bl++ [kA ty ci (nl l (zg xs (List.replicate xs.length none)))])):=by
    rw[gA,gA,List.flatten_append]
    simp only[List.flatten_cons,List.flatten_nil,List.append_nil]
    exact List.perm_append_comm
  obtain⟨k3,k4⟩:=gU p k1
  exact⟨k4,i7.eqh (k2.symm.trans k3)⟩
theorem MT {n:Nat} {f:FR} (bl:List HL) (hL:hD bl=L) (b:Nat) {zs:List (List β×OG)} (j:Nat) (hb:bl[b]? =some (kA ty ci zs)) (hL':hD (bl.set b (kA ty ci (zs.eraseIdx j)))=L') (hk:bV h0 L):bV h0 L'∧i7 (fm n f.k) (hp h0 L') (fm n f.k) (hp h0 L):=by
 subst hL hL'
 obtain⟨e1,k1⟩:=gU (oJ hb) hk
 have hs:(kA ty ci (zs.eraseIdx j)++(bl.eraseIdx b).flatten).Sublist (kA ty ci zs++(bl.eraseIdx b).flatten):=((List.eraseIdx_sublist zs j).map _).append_right _
 obtain⟨s1,k2⟩:=aS hs k1
 obtain⟨e2,k3⟩:=gU (pM (kA ty ci (zs.eraseIdx j)) hb).symm k2
 refine⟨k3,i7.of ?_ (cU.refl _ _)⟩
 rw[e1,← e2]
 exact s1
end
theorem UD {P:Program} {h:aF} {n:Nat} {τ σ ρ:Type} {id:Nat} {c:Code} {kn:FR→HL→Prop} {ke:Exit→FR→HL→Prop} {f:FR} {L:HL} {step:σ→Option (Lp σ ρ)} {fuel:Nat} {s0:σ} {k:σ→Option ρ} {o:ρ} (hm:after (aT step fuel s0) k=some o)
    (Lg:τ→σ→HL) (J JB:τ→σ→Prop) (sl:τ→σ→FR) (g0:τ) (i0:J g0 s0) (h0:LX h n f L (sl g0 s0) (Lg g0 s0))
    (round:∀g s x,J g s→step s=some x→VC P h n c (GN h n J sl Lg .go x) (GE h n JB sl Lg (some id) ke o x) (sl g s) (Lg g s))
    (next:∀g s,JB g s→k s=some o→kn (sl g s) (Lg g s)):VC P h n (.block id (.loop c)) kn ke f L:=by
  refine⟨λhkL=>wP ?_⟩
  obtain⟨out,hout,hk⟩:∃out,aT step fuel s0=some out∧((∃s,out= .brk s∧k s=some o)∨∃r,out= .ret r∧r=o):=by
    cases e:aT step fuel s0 with
    | none=>rw[e] at hm; cases hm
    | some out=>
      rw[e] at hm
      cases out with
      | go s=>cases hm
      | brk s=>exact⟨_,rfl,.inl ⟨s,rfl,hm⟩⟩
      | ret r=>exact⟨_,rfl,.inr ⟨r,rfl,Option.some.inj hm⟩⟩
  obtain⟨hk1,le1⟩:=h0 hkL
  refine HR (λm fr' h'=>∃s,aT step m s=some out∧∃g,J g s∧bV h (Lg g s)∧i7 (fm n (sl g s).k) (hp h (Lg g s)) fr' h') fuel ⟨s0,hout,g0,i0,hk1,le1⟩ ?_
  rintro m fr' h' ⟨s,hs,g,hj,hk2,hle⟩
  cases m with
  | zero=>cases hs
  | succ m=>
    simp only[aT] at hs
    cases e:step s with
    | none=>rw[e] at hs; cases hs
    | some x=>
      rw[e] at hs
      refine hle.aw (((round g s x hj e).r hk2).mono ?_)
      rintro ex fr'' h'' ⟨f1,L1,hk3,le3,q⟩
      have fin:∀ {ex:Exit},GE h n JB sl Lg (some id) ke o x ex f1 L1→ex≠ .normal→(∃s',x= .brk s'∧ex= .exit id∧∃g',JB g' s'∧LX h n f1 L1 (sl g' s') (Lg g' s'))∨(ke ex f1 L1∧ex≠ .exit id):=by
        intro ex q hne
        cases q with
        | b i' hi he q=>
          cases hi
          obtain⟨s',g',e1,j',le4⟩:=q.g
          exact .inl ⟨s',e1,he,g',j',le4⟩
        | r y hx h1 h2 k2=>
          subst hx; cases hs
          rcases hk with⟨s2,e2,_⟩ | ⟨r',e2,e3⟩
          · cases e2
          · cases e2; exact .inr ⟨k2 e3,h2 id rfl⟩
      cases ex with
      | normal=>
        obtain⟨s',g',rfl,j',le4⟩:=q.g
        obtain⟨hk5,le5⟩:=le4.le hk3 le3
        exact⟨m,Nat.lt_succ_self m,s',hs,g',j',hk5,le5⟩
      | exit i=>
        rcases fin q nofun with⟨s',rfl,he,g',j',le4⟩ | ⟨hke,hne⟩
        · cases he
          obtain⟨hk5,le5⟩:=le4.le hk3 le3
          cases hs
          simp only[Seq,KM,if_true]
          rcases hk with⟨s2,e2,hk⟩ | ⟨r,e2,_⟩
          · cases e2; exact⟨_,_,hk5,le5,next _ _ j' hk⟩
          · cases e2
        · have:i≠id:=λe=>hne (by rw[e])
          simp only[Seq,KM,this,if_false]
          exact⟨_,_,hk3,le3,hke⟩
      | goto l=>
        rcases fin q nofun with⟨_,_,he,_⟩ | ⟨hke,_⟩
        · cases he
        · exact⟨_,_,hk3,le3,hke⟩
      | ret=>
        rcases fin q nofun with⟨_,_,he,_⟩ | ⟨hke,_⟩
        · cases he
        · exact⟨_,_,hk3,le3,hke⟩
      | panic c=>
        rcases fin q nofun with⟨_,_,he,_⟩ | ⟨hke,_⟩
        · cases he
        · exact⟨_,_,hk3,le3,hke⟩
      | outgrown=>
        rcases fin q nofun with⟨_,_,he,_⟩ | ⟨hke,_⟩
        · cases he
        · exact⟨_,_,hk3,le3,hke⟩
section
variable {P:Program}
theorem EM (w:World) (dT sT ty e:TypeId) (i:TypeInfo) (hu:P.underlying dT=some (.slice e)) (hi:P.info? e=some i) (g o dLen dCap:Nat) (cur:Array Value) (hg:w.heap[g]? =some (.cells cur e (0,0)))
    (a:Addr) (sLen sCap:Nat) (cs:List Value) (hn:cs.length=min sLen dLen*i.size) (hsrc:∀j v,cs[j]? =some v→w.cell? (a.add j)=some v) (h1:∀v∈cs,v.oneCell'=true) (hfit:o+cs.length≤cur.size):
    (Builtin.copy_ #[dT,sT] ty #[.slice (some ⟨g,o,none⟩) dLen dCap,.slice (some a) sLen sCap]).run P w=
      .ok (goInt (min sLen dLen:Nat)) (w.setRow g (cur.toList.take o++cs++cur.toList.drop (o+cs.length)).toArray):=by
  have hf:=run_firstCells_some (P:=P) w i.size (min sLen dLen) a sLen sCap cs hn hsrc
  have hst:=run_storeCells_at P g o e cs 0 cur w hg (by simpa using hfit) h1
  simp only[Nat.add_zero] at hst
  have hm:Nat.min sLen dLen=min sLen dLen:=rfl
  simp[Builtin.copy_,run_underlying hu,Builtin.lenOf,sizeOf,typeInfo,hi,hm,hf,hst]
variable {ops:Array Oper} {h h0:aF} {L:HL} {n:Nat} {kvs:KV} {l:List Oper} {ty:TypeId} {pos:String} {dP:Array Edge}
def AS (h:aF) (x:AV) (m k:Nat) (cs:List AV):Prop:=∀E w v,fY E h w→VR E w x v→∃a cap cv,v= .slice (some a) m cap∧cW E w cs cv∧(∀u∈cv,u.oneCell'=true)∧(∀j u,cv[j]? =some u→w.cell? (a.add j)=some u)
theorem AS.sl {tag:Option cB} {sz:Nat} {ys:List (List AV)} (hne:ys≠ []) (k:Nat):AS h (.sl tag sz ys) ys.length k ys.flatten:=by
 intro E w v r hv
 obtain⟨g,o,cap,cv,e,c1,c2,c3,c4⟩:=mJ hv hne
 exact⟨_,cap,cv,e,c1,c2,λj u hj=>by rw[Addr.add_lit]; exact(c4 j u hj).1⟩
theorem AS.view {k:cB} {off m c:Nat} {cs:List AV} {e:TypeId} (hk:h k=some (.obj e cs)):AS h (.view k off m) m c ((cs.drop off).take c):=by
 intro E w v r hv
 simp only[VR] at hv
 obtain⟨g,cap,hg,rfl,h1,h2⟩:=hv
 obtain⟨g',cur,e1,e2,e3,e4⟩:=r.obj _ _ _ hk
 rw[hg] at e1; cases e1
 refine⟨_,cap,(cur.toList.drop off).take c,rfl,fP _ (iF _ e3),λu hu=>e4 u (List.mem_of_mem_drop (List.mem_of_mem_take hu)),λj u hj=> ?_⟩
 rw[List.getElem?_take] at hj
 split at hj
 ·rw[List.getElem?_drop] at hj
  rw[Addr.add_lit]
  simp only[World.cell?,e2]
  simpa using hj
 ·cases hj
theorem MU {K:AV→aF→Prop} {dst:Option Tmp} {d s:Operand} {dT sT e:TypeId} {sz b:Nat} (ht:kH P dT e sz b) {k:cB} {off n1 m:Nat} {cur cs:List AV} (hd:dI n kvs d= .view k off n1) (hk:h k=some (.obj e cur))
    (hs:AS h (dI n kvs s) m cs.length cs) (hl:cs.length=min m n1*sz) (hfit:off+cs.length≤cur.length)
    (hK:K .any (upd h k (some (.obj e (eG cur off cs))))):
    i6 P ⟨dst,.call { callee:=.builtin .copy,args:= #[d,s],argTypes:= #[dT,sT]},ty,pos,dP,none⟩ K (fm n kvs) h:=by
  obtain⟨i,z,hi,hz,rfl,rfl,hzs,hsp⟩:=ht.inf
  intro E w a r hv Nx Qx hn
  have vd:=hv d (by simp[Op.operands,Call.operands])
  have vs:=hv s (by simp[Op.operands,Call.operands])
  rw[bN] at vd vs
  rw[hd] at vd
  simp only[VR] at vd
  obtain⟨g,dc,hg,ed,d1,d2⟩:=vd
  obtain⟨sa,sc,cv,es,c1,c2,c3⟩:=hs E w _ r vs
  obtain⟨g',cu,f1,f2,f3,f4⟩:=r.obj _ _ _ hk
  rw[hg] at f1; cases f1
  have hlen:cur.length=cu.size:=by simpa using cX f3
  have hcl:cs.length=cv.length:=cX c1
  have hrun:=EM (P:=P) w dT sT ty e i ht.ut hi g off n1 dc cu f2 sa m sc cv (by rw[← hcl]; exact hl) c3 c2 (by omega)
  have hv':cW E w (eG cur off cs) (cu.toList.take off++cv++cu.toList.drop (off+cv.length)):=by
    unfold eG
    rw[hcl]
    exact cY (cY (fP _ f3) c1) (iF _ f3)
  have h1':∀u∈cu.toList.take off++cv++cu.toList.drop (off+cv.length),u.oneCell'=true:=by
    intro u hu
    rcases List.mem_append.1 hu with hu | hu
    · rcases List.mem_append.1 hu with hu | hu
      · exact f4 u (List.mem_of_mem_take hu)
      · exact c2 u hu
    · exact f4 u (List.mem_of_mem_drop hu)
  obtain⟨k1,k2⟩:=r.set_obj (cur:=(cu.toList.take off++cv++cu.toList.drop (off+cv.length)).toArray) hk hg
    (w':=w.setRow g (cu.toList.take off++cv++cu.toList.drop (off+cv.length)).toArray)
    (setRow_heap w g cu _ e _ f2) (λg' hg'=>setRow_other w g g' _ hg') (by simp) rfl rfl rfl (by simpa using hv') (by simpa using h1')
  unfold Oper.wp
  have hex:(execOp a.eval ⟨dst,.call { callee:=.builtin .copy,args:= #[d,s],argTypes:= #[dT,sT]},ty,pos,dP,none⟩).run P w= .ok (.value (goInt (min m n1:Nat))) (w.setRow g (cu.toList.take off++cv++cu.toList.drop (off+cv.length)).toArray):=by
    simp only[execOp,resolve,invoke,builtin,List.map_toArray,List.map_cons,List.map_nil,ed,es,Sem.run_bind,Sem.run_pure,Result.andThen_ok,hrun]
  rw[hex]
  exact hn .any _ _ E _ k1 k2 (by simp only[VR]) hK
theorem lT {K:AV→aF→Prop} {dst:Option Tmp} {d s:Operand} {dT sT e:TypeId} {sz b:Nat} (p:Nat) (ht:kH P dT e sz b) (hk:bV h0 L) {k:cB} {off n1 m:Nat} {cur cs:List AV} (hd:dI n kvs d= .view k off n1) (hi:L[p]? =some (some k,.obj e cur))
    (hs:AS (hp h0 L) (dI n kvs s) m cs.length cs) (hl:cs.length=min m n1*sz) (hfit:off+cs.length≤cur.length) (cur':List AV) (hc:eG cur off cs=cur')
    (hK:bV h0 (L.set p (some k,.obj e cur'))→K .any (hp h0 (L.set p (some k,.obj e cur')))):
    i6 P ⟨dst,.call { callee:=.builtin .copy,args:= #[d,s],argTypes:= #[dT,sT]},ty,pos,dP,none⟩ K (fm n kvs) (hp h0 L):=by
  subst hc
  obtain⟨h1,h2,_⟩:=jC (e':=.obj e (eG cur off cs)) p hk hi (.inl rfl)
  refine MU ht hd (a9 p hk hi) hs hl hfit ?_
  rw[h1]
  exact hK h2
theorem G3 {dst:Option Tmp} {s:Operand} {t e:TypeId} {k:cB} {m cap:Nat} (hu:P.underlying t=some (.slice e)) (ha:dI n kvs s= .vw k m cap):
    eN P ⟨dst,.call { callee:=.builtin .cap,args:= #[s],argTypes:= #[t]},ty,pos,dP,none⟩ (.sc (.int .i64 cap)) (fm n kvs) h:=by
  refine eA (x:=.sc (.int .i64 cap)) (λE w ac r hv=> ?_) ⟨rfl,rfl⟩
  have vs:=hv s (by simp[Op.operands,Call.operands])
  rw[bN,ha] at vs
  simp only[VR] at vs
  obtain⟨g,hg,es,h1,h2⟩:=vs
  refine⟨.int .i64 cap, ?_,by simp only[VR]⟩
  simp[execOp,resolve,invoke,builtin,es,Builtin.cap_,run_underlying hu,goInt]
theorem xZ {dst:Option Tmp} {s:Nat} {hi:Operand} {t:TypeId} {k:cB} {m cap sz:Nat} {q:IntKind} {i:Int} (h0':0≤i) (h1':i≤(cap:Int)) (ht:m8 P t=some sz) (ha:dI n kvs (.tmp s)= .vw k m cap) (hb:dI n kvs hi= .sc (.int q i)):
    eN P ⟨dst,.slice t (.tmp s) none (some hi) none,ty,pos,dP,none⟩ (.vw k i.toNat cap) (fm n kvs) h:=by
  obtain⟨e,hu,he⟩:=fQ ht
  refine eA (x:=.vw k i.toNat cap) (λE w ac r hv=> ?_) ⟨rfl,rfl⟩
  have va:=hv (.tmp s) (by simp[Op.operands])
  have vb:=hv hi (by simp[Op.operands])
  rw[bN,ha] at va; rw[bN,hb] at vb
  simp only[VR] at va vb
  obtain⟨g,hg,e1,e2,e3⟩:=va
  have hbd:=fV (P:=P) (w:=w) (sl:=true) (len:=m) (cap:=cap) (l:=0) (h:=i) (lo:=none) (hi:=some (.sc (.int q i))) (lv:=none) (hv:=some (.int q i)) rfl rfl (E:=E) nofun (λ_=>rfl)
    (λx hx=>by cases hx; exact⟨_,rfl,by simp only[VR]⟩) nofun (by omega) h0' (by omega)
  refine⟨.slice (some ⟨g,0,none⟩) i.toNat cap, ?_,by simp only[VR]; exact⟨g,hg,rfl,by omega,e3⟩⟩
  by_cases hz:cap=0
  · subst hz
    have hi0:i.toNat=0:=by omega
    simp[execOp,e1,vb,Instr.sliceAt,Instr.slice,run_underlying hu,hbd,cM he,hi0]
  · have:¬cap=(0:Int).toNat:=by simpa using hz
    simp[execOp,e1,vb,Instr.sliceAt,Instr.slice,run_underlying hu,hbd,cM he,hz,Addr.add]
theorem ZA {dst:Option Tmp} {s:Nat} {lo:Operand} {t:TypeId} {k:cB} {m cap sz:Nat} {q:IntKind} {i:Int} (h0':0≤i) (h1':i≤(m:Int)) (ht:m8 P t=some sz) (ha:dI n kvs (.tmp s)= .vw k m cap) (hb:dI n kvs lo= .sc (.int q i)):
    eN P ⟨dst,.slice t (.tmp s) (some lo) none none,ty,pos,dP,none⟩ .any (fm n kvs) h:=by
  obtain⟨e,hu,he⟩:=fQ ht
  refine eA (x:=.any) (λE w ac r hv=> ?_) ⟨rfl,rfl⟩
  have va:=hv (.tmp s) (by simp[Op.operands])
  have vb:=hv lo (by simp[Op.operands])
  rw[bN,ha] at va; rw[bN,hb] at vb
  simp only[VR] at va vb
  obtain⟨g,hg,e1,e2,e3⟩:=va
  have hbd:=fV (P:=P) (w:=w) (sl:=true) (len:=m) (cap:=cap) (l:=i) (h:=m) (lo:=some (.sc (.int q i))) (hi:=none) (lv:=some (.int q i)) (hv:=none) rfl rfl (E:=E) (λx hx=>by cases hx; exact⟨_,rfl,by simp only[VR]⟩) nofun
    nofun (λ_=>rfl) h0' h1' (by omega)
  refine⟨.slice (if cap=i.toNat then some ⟨g,0,none⟩ else some (Addr.add ⟨g,0,none⟩ (i.toNat*sz))) (m - i.toNat) (cap - i.toNat), ?_,by simp only[VR]⟩
  simp[execOp,e1,vb,Instr.sliceAt,Instr.slice,run_underlying hu,hbd,cM he]
theorem jN {dst:Option Tmp} {s:Nat} {lo:Operand} {t:TypeId} {k:cB} {m cap sz:Nat} {q:IntKind} {i:Int} (h0':0≤i) (h1':i < (m:Int)) (ht:m8 P t=some sz) (ha:lk n kvs s= .vw k m cap) (hb:dI n kvs lo= .sc (.int q i)):
    eN P ⟨dst,.slice t (.tmp s) (some lo) none none,ty,pos,dP,none⟩ (.view k (i.toNat*sz) (m - i.toNat)) (fm n kvs) h:=by
  have hT:DL P t=true:=by simp[DL,ht]
  refine rN (s:=s) (.view k 0 m) (by rw[ha]; exact BJ _ _ _ _) (jU (c:=0≤i∧i < (m:Int)∧(m:Int)≤m) ?_ ⟨h0',h1',by omega⟩)
  have e:dI n (kp kvs s (.view k 0 m)) (.tmp s)= .view k 0 m:=D0 ha (by simp)
  have e2:dI n (kp kvs s (.view k 0 m)) lo= .sc (.int q i):=FX ha (by simp) hb
  simp only[pv,bN,e,Option.map_some,e2,Option.map_none,A0,ht,Option.bind_some,oU,lC,hT,if_true,Nat.zero_add,Int.toNat_natCast]
theorem G4 {K:AV→aF→Prop} {dst:Option Tmp} {s x:Operand} {t tn e:TypeId} {sz b:Nat} {ik:IntKind} {zv:List Value} (p:Nat) (ht:kH P t e sz b) (htn:P.underlying tn=some (.int ik)) (hzr:tF P e=some zv) (hzo:zv.all (·.oneCell')=true) (hpos:0 < sz)
    (hk:bV h0 L) {k:cB} {i m cap:Nat} {cs:List AV} (ha:dI n kvs s= .vw k i cap) (hi:L[p]? =some (some k,.obj e cs)) (hx:dI n kvs x= .sc (.int ik (m:Int))) (hfull:cap < i+m) (hcs:i*sz≤cs.length) (hb:(i+m)*(b+1)≤140737488355328)
    (k2:∀(q:cB) (cap':Nat) (R:List AV),i+m≤cap'→cap'≤maxLen→i*sz+R.length=cap'*sz→bV h0 ((some q,.obj e (cs.take (i*sz)++R))::L)→K (.vw q (i+m) cap') (hp h0 ((some q,.obj e (cs.take (i*sz)++R))::L))):
    i6 P ⟨dst,.call { callee:=.builtin .append,args:= #[s,x],argTypes:= #[t,tn]},ty,pos,dP,none⟩ K (fm n kvs) (hp h0 L):=by
  obtain⟨ii,z,hii,hz,rfl,rfl,hzs,hsp⟩:=ht.inf
  have hzc:∀u∈z.cells.toList,u.oneCell'=true:=by
    have:zv=z.cells.toList:=by
      unfold tF at hzr
      rw[hii] at hzr
      simp only[Option.bind_some,hz,Option.map_some,Option.some.injEq] at hzr
      exact hzr.symm
    subst this
    exact λu hu=>List.all_eq_true.1 hzo u hu
  rw[Nat.mul_add,Nat.mul_one] at hb
  intro E w a r hv Nx Qx hn
  have vs:=hv s (by simp[Op.operands,Call.operands])
  have vx:=hv x (by simp[Op.operands,Call.operands])
  rw[bN] at vs vx
  rw[ha] at vs; rw[hx] at vx
  simp only[VR] at vs vx
  obtain⟨g,hg,es,h1,h2⟩:=vs
  obtain⟨g',cur,f1,f2,f3,f4⟩:=r.obj _ _ _ (a9 p hk hi)
  rw[hg] at f1; cases f1
  have hlen:cs.length=cur.size:=by simpa using cX f3
  have htl:(cur.toList.take (i*ii.size)).length=i*ii.size:=by
    rw[List.length_take]
    have:cur.toList.length=cur.size:=by simp
    omega
  have hold:∀j u,(cur.toList.take (i*ii.size))[j]? =some u→w.drew.cell? ((⟨g,0,none⟩:Addr).add j)=some u:=by
    intro j u hj
    rw[Addr.add_lit,Nat.zero_add]
    rw[List.getElem?_take] at hj
    split at hj
    · show w.cell? ⟨g,j,none⟩=some u
      simp only[World.cell?,f2]
      simpa using hj
    · cases hj
  have hf:=run_firstCells_some (P:=P) w.drew ii.size i ⟨g,0,none⟩ i cap (cur.toList.take (i*ii.size)) htl hold
  have hm0:0 < m:=by omega
  have hw:IntKind.i64.wrap (m:Int)=m:=by rw[IntKind.wrap_i64]; omega
  have hnn:¬((m:Int) < 0):=by omega
  have hfit:Builtin.nextslicecap (i+m) cap*ii.bytes≤281474976710656:=growslice_fits (by omega) (by omega)
  have hmb:¬(281474976710656 < (m:Int)*(ii.bytes:Int)):=by
    rw[← Int.natCast_mul]
    have:m*ii.bytes≤(i+m)*ii.bytes:=Nat.mul_le_mul_right _ (by omega)
    omega
  have hnr:¬(i+m≤cap):=by omega
  have h63:¬(9223372036854775807 < (i:Int)+(m:Int)):=by omega
  have hnf:¬(281474976710656 < Builtin.nextslicecap (i+m) cap*ii.bytes):=by omega
  have hns:¬(m*ii.size=0):=Nat.mul_ne_zero (by omega) (by omega)
  have hm00:m≠0:=by omega
  have hsz0:ii.size≠0:=by omega
  have hrun:(Builtin.append_ #[t,tn] ty #[.slice (some ⟨g,0,none⟩) i cap,.int ik m]).run P w=
      .ok (.slice (some ⟨w.heap.size,0,none⟩) (i+m) (grownCap w (i+m) cap e)) (w.drew.alloc (.cells ((cur.toList.take (i*ii.size)).toArray++Builtin.zeroCells z.cells m++Builtin.zeroCells z.cells (grownCap w (i+m) cap e - (i+m))) e)):=by
    simp[Builtin.append_,run_underlying ht.ut,run_underlying htn,sizeOf,typeInfo,zeroValue,hii,hz,asInt,asIntOf,hw,hnn,hmb,hnr,h63,hnf,hns,hm00,hsz0,Question.forced,hf,newRow,grownCap]
  have hge:=grownCap_ge w (i+m) cap e
  have hcm:grownCap w (i+m) cap e≤maxLen:=grownCap_le_maxLen w (i+m) cap e (by simp only[maxLen]; omega)
  generalize hgc:grownCap w (i+m) cap e=gc at hge hcm hrun
  obtain⟨rd,kd⟩:=r.drewn (w.drawn+1)
  have rd':fY E (hp h0 L) w.drew:=rd
  obtain⟨nn,hE1⟩:=rd'.fresh 0
  have hlz:∀q,(Builtin.zeroCells z.cells q).toList.length=q*ii.size:=λq=>by rw[Array.length_toList,size_zeroCells,hzs]
  have hvl:cW E w.drew (cs.take (i*ii.size)++List.replicate ((Builtin.zeroCells z.cells m).toList.length+(Builtin.zeroCells z.cells (gc - (i+m))).toList.length) AV.any) ((cur.toList.take (i*ii.size)).toArray++Builtin.zeroCells z.cells m++Builtin.zeroCells z.cells (gc - (i+m))).toList:=by
    rw[Array.toList_append,Array.toList_append,List.append_assoc]
    exact cY (cP kd _ _ (fP _ f3)) (rF _ (by rw[List.length_append]))
  obtain⟨E',e1,e2,e3⟩:=fY.new_obj (w:=w.drew) rd' hE1 e hvl (by
    intro v hv
    rw[Array.toList_append,Array.toList_append] at hv
    rcases List.mem_append.1 hv with hv | hv
    · rcases List.mem_append.1 hv with hv | hv
      · exact f4 v (List.mem_of_mem_take (by simpa using hv))
      · exact jQ hzc v hv
    · exact jQ hzc v hv)
  unfold Oper.wp
  have hex:(execOp a.eval ⟨dst,.call { callee:=.builtin .append,args:= #[s,x],argTypes:= #[t,tn]},ty,pos,dP,none⟩).run P w= .ok (.value (.slice (some ⟨w.heap.size,0,none⟩) (i+m) gc)) (w.drew.alloc (.cells ((cur.toList.take (i*ii.size)).toArray++Builtin.zeroCells z.cells m++Builtin.zeroCells z.cells (gc - (i+m))) e)):=by
    simp only[execOp,resolve,invoke,builtin,List.map_toArray,List.map_cons,List.map_nil,es,vx,Sem.run_bind,Sem.run_pure,Result.andThen_ok,hrun]
  rw[hex]
  have hno:hp h0 L (0,nn)=none:=by
    cases hh:hp h0 L (0,nn) with
    | none=>rfl
    | some en=>exact absurd (r.hus _ _ hh) hE1
  have hkk:=k2 (0,nn) gc (List.replicate ((Builtin.zeroCells z.cells m).toList.length+(Builtin.zeroCells z.cells (gc - (i+m))).toList.length) AV.any) hge hcm (by
    rw[List.length_replicate,hlz,hlz,← Nat.add_mul,← Nat.add_mul]
    congr 1; omega) ⟨hk,λk e=>by cases e; exact hno⟩
  refine hn (.vw (0,nn) (i+m) gc) _ _ E' _ (kd.trans e2) e3 ?_ hkk
  simp only[VR]
  exact⟨_,e1,rfl,hge,hcm⟩
theorem oL {K : AV → aF → Prop} {dst : Option Tmp} {x y : Operand} {ts : Array TypeId} {f : FuncId} {fn : Func} {tS tR e : TypeId} {sz : Nat} (hf : P.funcs[f]? = some fn) (hname : (fn.name == "runtime.NumGoroutine") = false)
    (hb:fn.body.isNone=true) (hn':Extern.findNext fn=none) (he:Extern.find fn=some (Extern.SlicesOverlaps.overlaps #[tS,tS] #[tR])) {b:Nat} (het:kH P tS e sz b) {ys:List (List AV)} (hne:ys≠ []) {k:cB} {off m:Nat} {cs:List AV} {ty2:TypeId}
    (hsz:0 < sz) (hx:dI n kvs x= .sl none sz ys) (hy:dI n kvs y= .view k off m) (hk:h k=some (.obj ty2 cs)) (hcs:0 < cs.length) (k1:K (.sc (.bool false)) h):
    i6 P ⟨dst,.call { callee:=.value (.func f),args:= #[x,y],argTypes:=ts},ty,pos,dP,none⟩ K (fm n kvs) h:=by
  obtain⟨ii,z,hii, -, -, -, -, -⟩:=het.inf
  have ht:=het.ut
  refine eA (x:=.sc (.bool false)) (λE w a r hv=> ?_) k1
  have vx:=hv x (by simp[Op.operands,Call.operands])
  have vy:=hv y (by simp[Op.operands,Call.operands])
  rw[bN] at vx vy
  rw[hx] at vx; rw[hy] at vy
  have hall:∀z∈ys,z.length=sz:=by
    have:=vx
    simp only[VR] at this
    obtain⟨_,_,_,_,_,_,h4,_⟩:=this
    exact h4
  obtain⟨gb,o,cap,cv,ex,c1,c2,c3,c4⟩:=mJ vx hne
  simp only[VR] at vx vy
  obtain⟨g,yc,hg,ey,y1,y2⟩:=vy
  obtain⟨a0,cap0,ea, -, -,h3, -, -⟩:=vx
  obtain⟨g',cur,f1,f2,f3,f4⟩:=r.obj _ _ _ hk
  rw[hg] at f1; cases f1
  have hlen:cs.length=cur.size:=by simpa using cX f3
  have hcl:0 < cv.length:=by
    rw[c3]
    exact Nat.mul_pos (List.length_pos_iff.2 hne) hsz
  obtain⟨u,hu⟩:∃u,cv[0]? =some u:=⟨cv[0],List.getElem?_eq_getElem hcl⟩
  obtain⟨hc0,hp0⟩:=c4 0 u hu
  rw[Nat.add_zero] at hc0
  have himm:E.imm gb o:=by
    rcases hp0 with h5 | ⟨kk,t,h5,_⟩
    · simpa using h5
    · cases h5
  have hbne:gb≠g:=λq=>(r.dis k g (.inl ⟨_,rfl,hk,hg⟩)).2 o (q ▸ himm)
  have hb1:(gb !=g)=true:=by simpa using hbne
  have hb2:(gb==g)=false:=by simpa using hbne
  obtain⟨bs,bt,bz,hblk⟩:∃cells ty fz,w.heap[gb]? =some (.cells cells ty fz):=by
    cases hh:w.heap[gb]? with
    | none=>simp[World.cell?,hh] at hc0
    | some ob=>cases ob with
      | cells a b c=>exact⟨a,b,c,rfl⟩
      | _=>simp[World.cell?,hh] at hc0
  have hsa:w.shape? gb=some (bt,bs.size):=by simp[World.shape?,hblk]
  have hsb:w.shape? g=some (ty2,cur.size):=by simp[World.shape?,f2]
  have hfb:∀off,w.frozen? ⟨g,off,none⟩=false:=λoff=>by simp[World.frozen?,f2]
  have hcz:cur.size≠0:=by omega
  have hbz:bs.size≠0:=by
    intro hz
    have:bs= #[]:=by simpa using hz
    rw[this] at hblk
    simp[World.cell?,hblk] at hc0
  have hrun:(Extern.SlicesOverlaps.overlaps #[tS,tS] #[tR] #[.slice (some ⟨gb,o,none⟩) ys.length cap,.slice (some ⟨g,off,none⟩) m yc]).run P w= .ok (.bool false) w:=by
    refine (Sem.run_bind (x:=underlying tS) ..).trans ?_
    rw [run_underlying ht]
    simp only [Result.andThen_ok]
    have hsz':(sizeOf e).run P w= .ok ii.size w:=by simp[sizeOf,typeInfo,hii]
    by_cases hz:ys.length=0∨m=0∨ii.size=0
    · rcases hz with hz | hz | hz
      · exact absurd (List.length_eq_zero_iff.1 hz) hne
      · simp[run_underlying ht,hsz',hz]
      · simp[run_underlying ht,hsz',hz]
    · cases hsc:cur.size with
      | zero=>exact absurd hsc hcz
      | succ q=>
        cases hbc:bs.size with
        | zero=>exact absurd hbc hbz
        | succ q2=>
        rw[hsc] at hsb
        rw[hbc] at hsa
        simp[run_underlying ht,hsz',hz,hb1,hb2,frozen,noView,viewAt,mayBeOne,stringish,shape,Sem.run,hsa,hsb,hfb]
  refine⟨.bool false, ?_,by simp only[VR]⟩
  rw[ex] at ea
  have hfu:a.eval (.func f)= .func (.func f) #[] #[]:=rfl
  simp only[execOp,resolve,hfu,Deferred.ofValue,invoke,List.map_toArray,List.map_cons,List.map_nil,Sem.run_bind,Sem.run_pure,Result.andThen_ok,ex,ey]
  simp[run_callFunc_extern hf hname hb hn' he,hrun]
end
section
variable {α:Type} {c:α→List AV} {sz:Nat}
def o4 (xs:List α) (i:Int) (x:α):Option (List α):=if 0≤i∧i≤(xs.length:Int)∧xs.length < 1000000000 then some (xs.take i.toNat++x::xs.drop i.toNat) else none
theorem kW {xs o:List α} {i:Int} {x:α} (h:o4 xs i x=some o):0≤i∧i≤(xs.length:Int)∧xs.length < 1000000000∧o=xs.take i.toNat++x::xs.drop i.toNat:=by
 unfold o4 at h
 split at h
 ·rename_i q; cases h; exact⟨q.1,q.2.1,q.2.2,rfl⟩
 ·cases h
theorem CC {xs:List α} {x:α} (h:xs.length < 1000000000):app xs [x]=some (xs++ [x]):=by
 unfold app
 rw[if_pos (by simp only[List.length_append,List.length_singleton]; omega)]
theorem G5 {P:Program} {n:Nat} {kvs:KV} {h:aF} {ty:TypeId} {pos:String} {dP:Array Edge} {dst:Option Tmp} {s:Nat} {lo:Operand} {t:TypeId} {g:cR} {m:Nat} {q:IntKind} {i:Int} (h0':0≤i) (h1':i≤(m:Int)) (ok:bK g sz m) (ht:m8 P t=some sz) (ha:dI n kvs (.tmp s)=aw g.t g.n g.cap) (hb:dI n kvs lo= .sc (.int q i)):
    eN P ⟨dst,.slice t (.tmp s) (some lo) none none,ty,pos,dP,none⟩ .any (fm n kvs) h:=by
  rw[ok.eqn] at ha
  cases ht':g.t with
  | some k=>rw[ht'] at ha; exact ZA h0' h1' ht ha hb
  | none=>
    rw[ht'] at ha
    have:=ok.nil ht'
    have hi0:i=0:=by omega
    subst hi0
    have hT:DL P t=true:=by simp[DL,ht]
    have ha:dI n kvs (.tmp s)= .e0:=ha
    refine fC (x:=.e0) (jU (c:=(0:Int)=0∧(0:Int)=0) ?_ ⟨rfl,rfl⟩) (λ_ _ _ _ _=>by simp only[VR])
    simp only[pv,bN,ha,Option.map_some,hb,Option.map_none,A0,ht,Option.bind_some,oU,lC,hT,if_true]
theorem nP (hc:∀y,(c y).length=sz) {xs:List α} {i:Nat} (hi:i≤xs.length) (sp:List AV):
    fl c xs sp=((xs.take i).map c).flatten++(((xs.drop i).map c).flatten++sp)∧((xs.take i).map c).flatten.length=i*sz∧((xs.drop i).map c).flatten.length=(xs.length - i)*sz∧
      ∀(x:α) (sp':List AV),fl c (xs.take i++x::xs.drop i) sp'=((xs.take i).map c).flatten++(c x++(((xs.drop i).map c).flatten++sp')):=by
  refine⟨?_, ?_, ?_,λx sp'=> ?_⟩
  · unfold fl
    rw[← List.append_assoc,← List.flatten_append,← List.map_append,List.take_append_drop]
  · rw[jG hc,List.length_take]; congr 1; omega
  · rw[jG hc,List.length_drop]
  · unfold fl
    simp[List.map_append,List.flatten_append]
theorem fX {A B B' C:List AV} {n:Nat} (hn:A.length=n) (hb:B.length=B'.length):eG (A++(B++C)) n B'=A++(B'++C):=by
 subst hn
 unfold eG
 rw[List.take_left,← hb,← List.append_assoc A B C,show A.length+B.length=(A++B).length from by simp,List.drop_left]
 simp
end
section
variable {α β:Type} {l:α→List β} {sz szi:Nat} {ty:TypeId} {ci:β→List AV} {h0:aF} {L L':HL}
def lK (gs:List OG) (i:Nat) (og:OG):List OG:=gs.take i++og::gs.drop i
theorem EN {γ δ:Type}:∀(i:Nat) (xs:List γ) (gs:List δ),(xs.take i).zip (gs.take i)=(xs.zip gs).take i
 | 0,_,_=>by simp
 | i+1, [],_=>by simp
 | i+1,_::_, []=>by simp
 | i+1,x::xs,g::gs=>by simp[EN i xs gs]
theorem EO {γ δ:Type}:∀(i:Nat) (xs:List γ) (gs:List δ),(xs.drop i).zip (gs.drop i)=(xs.zip gs).drop i
 | 0,_,_=>by simp
 | i+1, [],_=>by simp
 | i+1,_::_, []=>by simp
 | i+1,x::xs,g::gs=>by simp[EO i xs gs]
theorem IG {xs:List α} {gs:List OG} (hl:gs.length=xs.length) (i:Nat) (x:α) (og:OG):zg (xs.take i++x::xs.drop i) (lK gs i og)=(zg xs gs).take i++(x,og)::(zg xs gs).drop i:=by
 unfold zg lK
 rw[List.zip_append (by simp[hl]),List.zip_cons_cons,EN,EO]
theorem QI {xs y:List α} {gs:List OG} (hl:gs.length=xs.length) {i:Int} {x:α} (og:OG) (h:o4 xs i x=some y):o4 (zg xs gs) i (x,og)=some (zg y (lK gs i.toNat og)):=by
 obtain⟨h1,h2,h3,rfl⟩:=kW h
 unfold o4
 rw[uP hl,if_pos ⟨h1,h2,h3⟩,IG hl]
theorem MV {xs y:List α} {gs:List OG} (hl:gs.length=xs.length) {i:Int} {x:α} (og:OG) (h:o4 xs i x=some y):(nl l (zg y (lK gs i.toNat og))).Perm ((l x,og)::nl l (zg xs gs)):=by
 obtain⟨h1,h2,h3,rfl⟩:=kW h
 rw[IG hl]
 unfold nl
 rw[List.map_append,List.map_cons]
 refine List.perm_middle.trans (List.Perm.cons _ ?_)
 rw[← List.map_append,List.take_append_drop]
theorem MW {xs y:List α} {i:Int} {x:α} (h:o4 xs i x=some y):y.length=xs.length+1:=by
 obtain⟨h1,h2,h3,rfl⟩:=kW h
 simp only[List.length_append,List.length_take,List.length_cons,List.length_drop]
 omega
theorem sO.ins {g:dF} {xs y:List α} (ok:sO l sz szi g xs) {i:Int} {x:α} (h:o4 xs i x=some y) (hx:l x= []) {g':cR} (og:OG) (hog:∀g2,og=some g2→bK g2 szi 0) (ok':bK g' sz (zg y (lK g.gs i.toNat og)).length):sO l sz szi ⟨g',lK g.gs i.toNat og⟩ y:=by
 obtain⟨h1,h2,h3,e⟩:=kW h
 have hl:(lK g.gs i.toNat og).length=y.length:=by
  rw[MW h,lK]
  have:=ok.len
  simp only[List.length_append,List.length_take,List.length_cons,List.length_drop]
  omega
 refine⟨by rw[uP hl] at ok'; exact ok',hl,λz hz g2 hg2=> ?_⟩
 have hz2:=(MV (l:=l) ok.len og h).mem_iff.1 hz
 rcases List.mem_cons.1 hz2 with rfl | hz2
 ·simp only[hx]
  exact hog g2 hg2
 ·exact ok.el z hz2 g2 hg2
theorem lX.ins {g:dF} {xs y:List α} (ok:lX l sz szi g xs) {i:Int} {x:α} (h:o4 xs i x=some y) (hx:l x= []) {g':cR} (ok':bK g' sz (zg y (lK g.gs i.toNat (some g0))).length):lX l sz szi ⟨g',lK g.gs i.toNat (some g0)⟩ y:=
 ⟨ok.k.ins h hx (some g0) (λg2 e=>by cases e; exact bK.g0 szi) ok',λog ho=>by
  unfold lK at ho
  rcases List.mem_append.1 ho with ho | ho
  ·exact ok.own og (List.mem_of_mem_take ho)
  ·rcases List.mem_cons.1 ho with rfl | ho
   ·exact nofun
   ·exact ok.own og (List.mem_of_mem_drop ho)⟩
theorem QJ (hk:bV h0 L) (bl:List HL) (hL:hD bl=L) (b:Nat) {xs y:List α} {gs:List OG} (hl:gs.length=xs.length) {i:Int} {x:α} {og:OG} (hog:oT og=none) (h:o4 xs i x=some y) (hb:bl[b]? =some (kA ty ci (nl l (zg xs gs))))
    (hL':hD (bl.set b (kA ty ci (nl l (zg y (lK gs i.toNat og)))))=L'):hp h0 L=hp h0 L'∧bV h0 L':=by
  subst hL hL'
  have p:(kA ty ci (nl l (zg y (lK gs i.toNat og)))).Perm ((none,.obj ty (fl ci (l x) (oS og)))::kA ty ci (nl l (zg xs gs))):=by
    have:=(MV (l:=l) hl og h).map λz:List β×OG=>(oT z.2,iE.obj ty (fl ci z.1 (oS z.2)))
    simp only[List.map_cons,hog] at this
    exact this
  obtain⟨e1,k1⟩:=gU (oJ hb) hk
  have k2:bV h0 ((none,iE.obj ty (fl ci (l x) (oS og)))::(kA ty ci (nl l (zg xs gs))++(bl.eraseIdx b).flatten)):=⟨k1,nofun⟩
  obtain⟨e3,k3⟩:=gU ((p.append_right _).symm.trans (pM _ hb).symm) k2
  exact⟨e1.trans e3,k3⟩
end
end Go.Vm
