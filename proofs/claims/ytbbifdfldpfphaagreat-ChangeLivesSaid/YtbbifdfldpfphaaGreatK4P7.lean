import Derived.Test.YtbbifdfldpfphaaGreatK4P6
import Derived.Test.YtbbifdfldpfphaaGreatK4P3
import Derived.Test.YtbbifdfldpfphaaGreatK4P4
import Derived.Test.YtbbifdfldpfphaaGreatK4P5
set_option linter.unusedSimpArgs false
set_option linter.unusedVariables false
set_option maxHeartbeats 4000000
set_option maxRecDepth 100000
namespace Go.Proofs.YtbbifdfldpfphaaGreat
open Go.Vm
def KC (m:Nat) (p0:aU):Option (Bool):=
 after (if (decide (p0.Kind < 1))=true then (some (.brk true)) else some (.brk (decide (3 < p0.Kind))):Option (Lp (Bool) (Bool))) λj7=>some j7
theorem aFK {u:Nat} {p0:aU} {o:Bool} (h:aF) (m:KC u p0=some o):
 aL Tryz.prog 122 [.agg (a8 p0)] h (λr h'=>r= .sc (.bool o)∧h'=h):=by
 refine fQ 11 [.tmp 2] Tryz.func122 rfl rfl rfl rfl ?_
 unfold KC at m
 refine v (gO rfl rfl λk2 K3=>vs (fL m (σ:=Bool) (λs=> [(some k2,.obj 38 (a8 p0))]) (λs=>.c 2 (.sc (.bool s)) .nil) (λx m=> ?_) ?_))
 refine v (vl 0 _ bZ rfl rfl rfl ?_)
 apply vi m <;> intro b8 m
 rw[b8]
 exact iZ m
 rw[b8]
 exact vl 0 _ bZ rfl rfl rfl (iZ m)
 rintro _ j7 m
 refine v ?_
 obtain rfl:=eE m
 exact dU rfl
theorem ZN:aN Tryz.prog 122=true:=by kernel_rfl
def tG (m:Nat) (p0:List aU) (p1:aU→Option Bool) (q0:Int):Option (Lp (Int) (Int)):=
 if (decide (q0 < (p0.length:Int)))=true then ((ix p0 q0).bind λx0=>(p1 x0).bind λy0=>if y0=true then (some (.ret q0)) else some (.go (IntKind.wrap .i64 (q0+1)))) else some (.brk q0)
def NF (m:Nat) (p0:List aU) (p1:aU→Option Bool):Option (Int):=
 after (aT (λs=>tG m p0 p1 s) m 0) λr0=>some (-1)
theorem aFL {w:Nat} {p0:List aU} {p1:aU→Option Bool} {o:Int} (h:aF) {p1F:Nat} {p1C:List AV} (p1B:aN Tryz.prog p1F=true) (p1H:∀x0 o h0,iG h h0→p1 x0=some o→aL Tryz.prog p1F ([.agg (a8 x0)]++p1C) h0 (λr h'=>r= .sc (.bool o)∧h'=h0)) (m:NF w p0 p1=some o):
 aL Tryz.prog 175 [.sl none 37 (List.map a8 p0),.fn (.func p1F) p1C] h (λr h'=>r=nZ o∧h'=h):=by
 refine fQ 19 [.tmp 4] Tryz.func175 rfl rfl rfl rfl ?_
 unfold NF at m
 refine v (v (dE pB rfl (jN m (σ:=Int) (λs=> []) (λs=>.c 0 (.sl none 37 (List.map a8 p0)) (.c 1 (.fn (.func p1F) p1C) (.c 7 (nZ (p0.length:Int)) (.c 8 (nZ s) .nil)))) (lx (.k4 .nil)) ?_ ?_)))
 rintro _ q0 x m
 replace m:tG w p0 p1 q0=some x:=m
 unfold tG at m
 refine v (v ?_)
 apply vi m <;> intro c0 m
 refine v (v (v (v (vx m wN rfl rfl λx1 _ m=>va (.agg (a8 x1)) GV rfl rfl ?_))))
 obtain⟨_,Y0,m⟩:=aC m
 refine vn (λu=>cC (p1H _ _ _ (aS (List.nil_sublist _) u).1 Y0) rfl p1B rfl) (v ?_)
 apply vi m <;> intro c1 m
 refine v (v (fZ m λm=> ?_))
 obtain rfl:=eE m
 exact dU rfl
 exact v (v (f8 m))
 exact v (wS m)
 rintro _ r0 m
 refine v (v ?_)
 cases m
 exact dU rfl
theorem ZO:aN Tryz.prog 175=true:=by kernel_rfl
def KD (m:Nat) (p0:List aU) (p1:aU→Option Bool):Option (Bool):=
 (NF m p0 p1).bind λy3=>some (decide (0≤y3))
theorem ZP {w:Nat} {p0:List aU} {p1:aU→Option Bool} {o:Bool} (h:aF) {p1F:Nat} {p1C:List AV} (p1B:aN Tryz.prog p1F=true) (p1H:∀x0 o h0,iG h h0→p1 x0=some o→aL Tryz.prog p1F ([.agg (a8 x0)]++p1C) h0 (λr h'=>r= .sc (.bool o)∧h'=h0)) (m:KD w p0 p1=some o):
 aL Tryz.prog 121 [.sl none 37 (List.map a8 p0),.fn (.func p1F) p1C] h (λr h'=>r= .sc (.bool o)∧h'=h):=by
 refine fQ 9 [.tmp 4] Tryz.func121 rfl rfl rfl rfl ?_
 unfold KD at m
 refine v (v ?_)
 obtain⟨_,Y4,m⟩:=aC m
 refine vn (λu=>cC (aFL _ p1B (λx0 o h0 hs ho=>p1H x0 o h0 ((aS (List.nil_sublist _) u).1.trans hs) ho) Y4) rfl ZO rfl) (v ?_)
 cases m
 exact dU rfl
theorem SH:aN Tryz.prog 121=true:=by kernel_rfl
def QU (m:Nat) (p0:aH) (c0:List Int):Option (Bool):=
 some ((c0:List Int).any λz=>p0.Seq==z)
theorem aFM {w:Nat} {p0:aH} {c0:List Int} {o:Bool} (h:aF) {c0K c0M:cE} (c0H:h c0K=some (.obj 161 [.mpv c0M])) (c0G:h c0M=some (.mp (gM kI (c0:List Int)))) (m:QU w p0 c0=some o):
 aL Tryz.prog 125 [.agg (bP p0),.ptr c0K 0] h (λr h'=>r= .sc (.bool o)∧h'=h):=by
 refine fQ 8 [.tmp 3] Tryz.func125 rfl rfl rfl rfl ?_
 unfold QU at m
 refine v (gO rfl rfl λk2 K3=>v (vn (λu=>o6 (.mpv c0M) RT rfl (kN u c0H) rfl) (vl 0 _ bZ rfl rfl rfl (vn (λu=>GF RU zb4 (xR.int u3) rfl rfl (kN u c0G)) (v ?_)))))
 cases m
 exact dU rfl
theorem ZQ:aN Tryz.prog 125=true:=by kernel_rfl
def n7 (m:Nat) (p1:aH→Option Bool) (q0:List aH) (q1:Int) (q2:Int):Option (Lp ((List aH)×Int×Int) ((List aH))):=
 if (decide (q2 < (q0.length:Int)))=true then ((ix q0 q2).bind λx0=>(p1 x0).bind λy0=>after (if (!y0)=true then ((ix q0 q1).bind λ_=>some (.brk (q0.set q1.toNat (x0),IntKind.wrap .i64 (q1+1)))) else some (.brk (q0,q1)):Option (Lp ((List aH)×Int) (Lp ((List aH)×Int×Int) ((List aH))))) λ⟨j0,j1⟩=>some (.go (j0,j1,IntKind.wrap .i64 (q2+1)))) else some (.brk (q0,q1,q2))
def FF (m:Nat) (p0:List aH) (p1:aH→Option Bool):Option ((List aH)):=
 (vW m p0 p1).bind λy3=>if (y3==(-1))=true then (some p0) else after (aT (λs=>n7 m p1 s.1 s.2.1 s.2.2) m (p0,y3,IntKind.wrap .i64 (y3+1))) λ⟨r0,r1,r2⟩=>grd (decide (0≤r1) && decide (r1 < (r0.length:Int))) <| grd (decide (0≤r1) && decide (r1≤(r0.length:Int))) <| some (r0.take r1.toNat)
theorem ZR {w:Nat} {p0:List aH} {p1:aH→Option Bool} {o:(List aH)} (h:aF) {g_p0:cU} (ok_p0:bK g_p0 4 p0.length) (K0:bV h [(dO g_p0 p0)]) {p1F:Nat} {p1C:List AV} (p1B:aN Tryz.prog p1F=true) (p1H:∀x0 o h0,iG h h0→p1 x0=some o→aL Tryz.prog p1F ([.agg (bP x0)]++p1C) h0 (λr h'=>r= .sc (.bool o)∧h'=h0)) (m:FF w p0 p1=some o):
 aL Tryz.prog 124 [aZ g_p0,.fn (.func p1F) p1C] (hp h [(dO g_p0 p0)]) (λr h'=>∃g:cU,bK g 4 o.length∧bV h [(g.t,.obj 60 (fl bP o g.sp))]∧r=aZ g∧h'=hp h [(g.t,.obj 60 (fl bP o g.sp))]):=by
 refine uE K0 42 [.tmp 4] Tryz.func124 rfl rfl rfl rfl ?_
 unfold FF at m
 refine vs (v0 (vs (v0 ?_)))
 obtain⟨_,Y4,m⟩:=aC m
 refine ve λu=>dC ((bE u [0] rfl rfl).1.trans (cW h [(dO g_p0 p0)] []).symm) (cM (SF (hp h []) ok_p0 (cL [(dO g_p0 p0)] [] (bE u [0] rfl rfl).2).2 p1B (λx0 o h0 hs ho=>p1H x0 o h0 ((aS (List.nil_sublist _) (cL [(dO g_p0 p0)] [] (bE u [0] rfl rfl).2).1).1.trans hs) ho) Y4) rfl EU rfl ?_)
 rintro x h' ⟨rfl,rfl⟩
 refine qk u ((cW h [(dO g_p0 p0)] []).trans (bE u [0] rfl rfl).1.symm) (vs (vs (v0 (v0 ?_))))
 apply vi m <;> intro c7 m
 refine vs (v0 (v0 ?_))
 obtain rfl:=eE m
 exact vr λu=>dX.one (.inl rfl) (aS (h0:=h) (L':= [(dO g_p0 p0)]) (.refl _) u).1 (bJ.refl _ _) ⟨g_p0,ok_p0,(aS (h0:=h) (L':= [(dO g_p0 p0)]) (.refl _) u).2,rfl,rfl⟩
 refine v0 (vs (vs (v0 (nP m (σ:=(List aH)×Int×Int) (τ:=cU) (λg s=> [(dO g s.1)]) (λg s=>bK g 4 (s.1:List aH).length) (λg s=>.c 0 (aZ g) (.c 1 (.fn (.func p1F) p1C) (.c 5 (nZ s.2.1) (.c 6 (nZ s.2.2) .nil)))) g_p0 ok_p0 (lx (.k4 .nil)) ?_ ?_))))
 rintro ag0 ⟨q0,q1,q2⟩ x O0 m
 replace m:n7 w p1 q0 q1 q2=some x:=m
 unfold n7 at m
 refine vs (vs (v0 (bW (dQ jQ O0 rfl) (v0 ?_))))
 apply vi m <;> intro c0 m
 refine v0 (vs (v0 (vs (v0 ?_))))
 obtain⟨x1,X0,m⟩:=aC m
 refine bW (cP X0 iJ O0 rfl rfl) (vn (λu=>dW (fo:=0) (.agg (bP x1)) X0 eJ O0 rG rfl (aI 0 u rfl) (λ_=>rfl)) (ve λu=>bH (V2) u uZ rfl rfl λk86 K1=>qk K1 rfl (ve λu=>aK 0 (bP x1) u rfl rfl rfl rfl JZ rfl rfl λK2=>qk K2 rfl (vs (v0 (vl 0 (.agg (bP x1)) rG rfl rfl rfl ?_))))))
 obtain⟨_,Y0,m⟩:=aC m
 refine vn (λu=>cC (p1H _ _ _ (aS (List.nil_sublist _) u).1 Y0) rfl p1B rfl) (pJ m (σ:=(List aH)×Int) (τ:=cU) (λg s=> [(some k86,.obj 60 (bP x1)),(dO g s.1)]) (λg s=>bK g 4 (s.1:List aH).length) (λg s=>.c 0 (aZ g) (.c 1 (.fn (.func p1F) p1C) (.c 5 (nZ s.2) (.c 6 (nZ q2) .nil)))) (λx m=> ?_) ?_)
 refine v0 ?_
 apply vi m <;> intro c1 m
 refine vs (v0 (vl 0 (.agg (bP x1)) rG rfl rfl rfl ?_))
 obtain⟨_,X1,m⟩:=aC m
 exact bW (cP X1 iJ O0 rfl rfl) (ve λu=>cK (fo:=0) (x1:aH) 1 u X1 eJ O0 rfl rfl rfl rfl (cX.refl _ _) JZ rfl rfl λK3=>qk K3 rfl (v0 (eW m ag0 (bK.set O0) (lx (.k4 .nil)))))
 exact v0 (eW m ag0 O0 (lx (.k4 .nil)))
 rintro ag1 ⟨j0,j1⟩ O1 m
 exact v0 (eW m ag1 O1 (lJ [1] rfl rfl (.k4 .nil)))
 exact v0 (lK m ag0 O0 (lx (.k4 .nil)))
 rintro ag2 ⟨r0,r1,r2⟩ t0 m
 refine vs (v0 ?_)
 obtain⟨Z0,m⟩:=m0 m
 refine bW (CL Z0 iJ t0 rfl rfl) (ve λu=>BA 0 u Z0 eJ t0 u25 uZ rfl rfl rfl rfl λsp0 O2 K4=>qk K4 rfl (vs (v0 ?_)))
 obtain⟨Z1,m⟩:=m0 m
 refine bW (CM Z1 t0 iJ rfl rfl) (v0 ?_)
 cases m
 exact vr λu=>dX.one (.inl rfl) (aS (h0:=h) (L':= [((⟨ag2.t,r1.toNat,ag2.cap,sp0⟩:cU).t,.obj 60 (fl bP (r0.take r1.toNat:List aH) (⟨ag2.t,r1.toNat,ag2.cap,sp0⟩:cU).sp))]) (.refl _) u).1 (bJ.refl _ _) ⟨(⟨ag2.t,r1.toNat,ag2.cap,sp0⟩:cU),O2,(aS (h0:=h) (L':= [((⟨ag2.t,r1.toNat,ag2.cap,sp0⟩:cU).t,.obj 60 (fl bP (r0.take r1.toNat:List aH) (⟨ag2.t,r1.toNat,ag2.cap,sp0⟩:cU).sp))]) (.refl _) u).2,rfl,rfl⟩
theorem ZS:aN Tryz.prog 124=true:=by kernel_rfl
def oZ (m:Nat) (p0:aA) (p1:aR) (x0:aP) (q0:List Int) (q1:Int) (q2:List aH) (q3:List aB) (q4:List aQ) (q5:Int):Option (Lp ((List Int)×Int×(List aH)×(List aB)×(List aQ)×Int) (Int×Int×fD)):=
 if (decide (q5 < (p1.Items.length:Int)))=true then ((ix p1.Items q5).bind λx1=>(HI m ({ Seq:=q1,Snaps:=q2,Chunks:=q3,Exps:=q4,Vols:=(p0.Vols.set p1.Vol.toNat ({ x0 with State:=2})).set p1.Vol.toNat ({ ({ x0 with State:=2}:aP) with Files:=IntKind.wrap .i64 ((({ x0 with State:=2}:aP).Files)+1)})}:aA) x1 ({ Vol:=p1.Vol,File:=({ ({ x0 with State:=2}:aP) with Files:=IntKind.wrap .i64 ((({ x0 with State:=2}:aP).Files)+1)}:aP).Files,Off:=x1.Off,Len:=x1.Len}:bG)).bind λy0=>if (y0.1 !=0)=true then (some (.ret (y0.1,y0.2.1,y0.2.2.1,y0.2.2.2.1,y0.2.2.2.2,(p0.Vols.set p1.Vol.toNat ({ x0 with State:=2})).set p1.Vol.toNat ({ ({ x0 with State:=2}:aP) with Files:=IntKind.wrap .i64 ((({ x0 with State:=2}:aP).Files)+1)})))) else after (if (x1.Kind==3)=true then (some (.brk (mK (q0:List Int) x1.Of))) else some (.brk q0):Option (Lp ((List Int)) (Lp ((List Int)×Int×(List aH)×(List aB)×(List aQ)×Int) (Int×Int×fD)))) λj0=>(wP m y0.2.2.2.1 x1.Id).bind λy1=>after (if (x1.Kind==1)=true then (if y1.2=true then (some (.brk ((({ ({ x0 with State:=2}:aP) with Files:=IntKind.wrap .i64 ((({ x0 with State:=2}:aP).Files)+1)}:aP).Pool)==0))) else some (.brk false)) else some (.brk false):Option (Lp (Bool) (Lp ((List Int)×Int×(List aH)×(List aB)×(List aQ)×Int) (Int×Int×fD)))) λj1=>after (if j1=true then ((ix y0.2.2.2.1 y1.1).bind λx2=>(ix (y0.2.2.2.1.set y1.1.toNat ({ x2 with Staged:=false})) y1.1).bind λx3=>some (.brk ((y0.2.2.2.1.set y1.1.toNat ({ x2 with Staged:=false})).set y1.1.toNat ({ x3 with Data:=([]:List Int)})))) else some (.brk y0.2.2.2.1):Option (Lp ((List aB)) (Lp ((List Int)×Int×(List aH)×(List aB)×(List aQ)×Int) (Int×Int×fD)))) λj2=>some (.go (j0,y0.2.1,y0.2.2.1,j2,y0.2.2.2.2,IntKind.wrap .i64 (q5+1)))) else some (.brk (q0,q1,q2,q3,q4,q5))
def VY (m:Nat) (p0:aA) (p1:aR):Option (Int×Int×fD):=
 (KD m p1.Items (λx0=>KC m x0)).bind λy6=>after (if (decide (p1.Vol < 0))=true then (some (.brk true)) else if (decide ((p0.Vols.length:Int)≤p1.Vol))=true then (some (.brk true)) else (ix p0.Vols p1.Vol).bind λx1=>if (x1.State==3)=true then (some (.brk true)) else if (decide ((p1.Items.length:Int) < 1))=true then (some (.brk true)) else if (decide (64 < (p1.Items.length:Int)))=true then (some (.brk true)) else some (.brk (!(!y6))):Option (Lp (Bool) (Int×Int×fD))) λj0=>if j0=true then (some (1,p0.Seq,p0.Snaps,p0.Chunks,p0.Exps,p0.Vols)) else (ix p0.Vols p1.Vol).bind λx2=>after (aT (λs=>oZ m p0 p1 x2 s.1 s.2.1 s.2.2.1 s.2.2.2.1 s.2.2.2.2.1 s.2.2.2.2.2) m ([],p0.Seq,p0.Snaps,p0.Chunks,p0.Exps,0)) λ⟨r0,r1,r2,r3,r4,r5⟩=>(FF m r2 (λx0=>QU m x0 (r0:List Int))).bind λy0=>after (if (decide ((y0.length:Int) < (r2.length:Int)))=true then ((HH m ({ Seq:=r1,Snaps:=y0,Chunks:=r3,Exps:=r4,Vols:=(p0.Vols.set p1.Vol.toNat ({ x2 with State:=2})).set p1.Vol.toNat ({ ({ x2 with State:=2}:aP) with Files:=IntKind.wrap .i64 ((({ x2 with State:=2}:aP).Files)+1)})}:aA)).bind λy1=>some (.brk y1)) else some (.brk r3):Option (Lp ((List aB)) (Int×Int×fD))) λj1=>some (0,r1,y0,j1,r4,(p0.Vols.set p1.Vol.toNat ({ x2 with State:=2})).set p1.Vol.toNat ({ ({ x2 with State:=2}:aP) with Files:=IntKind.wrap .i64 ((({ x2 with State:=2}:aP).Files)+1)}))
theorem W74 {w:Nat} {p0:aA} {p1:aR} {o:Int×Int×fD} (h:aF) {p0K:cE} {gS:dH} (ok_Snaps:mD aH.Locs 4 4 gS (p0.Snaps:List aH)) {gC:dH} (oC:mD aB.Locs 35 4 gC (p0.Chunks:List aB)) {gE:dH} (oE:mD aQ.Locs 3 4 gE (p0.Exps:List aQ)) {gV:cU} (oV:bK gV 4 p0.Vols.length) (K0:bV h ([OC p0K p0.Seq gS.a gC.a gE.a gV,bM gS p0.Snaps,aW gC p0.Chunks,bR gE p0.Exps,aM gV p0.Vols]++((bQ gS p0.Snaps)++((a9 gC p0.Chunks)++(bS gE p0.Exps))))) (m:VY w p0 p1=some o):
 aL Tryz.prog 74 [.ptr p0K 0,.agg (aD p1)] (hp h ([OC p0K p0.Seq gS.a gC.a gE.a gV,bM gS p0.Snaps,aW gC p0.Chunks,bR gE p0.Exps,aM gV p0.Vols]++((bQ gS p0.Snaps)++((a9 gC p0.Chunks)++(bS gE p0.Exps))))) (λr h'=>∃g_Snaps':cU,bK g_Snaps' 4 (o.2.2.1:List aH).length∧∃g_Chunks':cU,bK g_Chunks' 35 (o.2.2.2.1:List aB).length∧∃g_Exps':cU,bK g_Exps' 3 (o.2.2.2.2.1:List aQ).length∧∃g_Vols':cU,bK g_Vols' 4 (o.2.2.2.2.2:List aP).length∧bV h [OC p0K o.2.1 g_Snaps' g_Chunks' g_Exps' g_Vols',bF g_Snaps' o.2.2.1,aV g_Chunks' o.2.2.2.1,bX g_Exps' o.2.2.2.2.1,aM g_Vols' o.2.2.2.2.2]∧r=nZ o.1∧h'=hp h [OC p0K o.2.1 g_Snaps' g_Chunks' g_Exps' g_Vols',bF g_Snaps' o.2.2.1,aV g_Chunks' o.2.2.2.1,bX g_Exps' o.2.2.2.2.1,aM g_Vols' o.2.2.2.2.2]):=by
 refine uE K0 168 [.tmp 4] Tryz.func74 rfl rfl rfl rfl ?_
 unfold VY at m
 refine vs (v0 (gO rfl rfl λk2 K3=>vs (v0 (dN gU rfl rfl (vl 0 _ kZ rfl rfl rfl ?_)))))
 obtain⟨_,Y7,m⟩:=aC m
 refine bW (cC (ZP _ ZN (λx0 o h0 hs ho=>aFK _ ho) Y7) rfl SH rfl) (vs (vs (fL m (σ:=Bool) (λs=>([(some k2,.obj 62 (aD p1)),OC p0K p0.Seq gS.a gC.a gE.a gV,bM gS p0.Snaps,aW gC p0.Chunks,bR gE p0.Exps,aM gV p0.Vols]++((bQ gS p0.Snaps)++((a9 gC p0.Chunks)++(bS gE p0.Exps))))) (λs=>.c 0 (.ptr p0K 0) (.c 3 (.ptr k2 0) (.c 58 (.sc (.bool s)) .nil))) (λx m=> ?_) ?_)))
 refine v0 (wU (by kernel_rfl) (dN fG rfl rfl (vl 0 _ bZ rfl rfl rfl ?_)))
 apply vi m <;> intro b0 m
 rw[b0]
 exact gK m
 rw[b0]
 refine dN fG rfl rfl (vl 0 _ bZ rfl rfl rfl (jM rfl (dN fP rfl rfl (vl 1 (aZ gV) iP rfl rfl rfl (bW (dQ rE oV rfl) ?_)))))
 apply vi m <;> intro b1 m
 rw[b1]
 exact gK m
 rw[b1]
 refine jM rfl (dN fP rfl rfl (vl 1 (aZ gV) iP rfl rfl rfl (dN fG rfl rfl (vl 0 _ bZ rfl rfl rfl ?_))))
 obtain⟨x1,X0,m⟩:=aC m
 refine bW (cP X0 lQ oV rfl rfl) (bW (cV (bK.ne oV X0) m5 rfl rfl) (vn (λu=>dW (fo:=2) (nZ x1.State) X0 eA oV bZ rfl (aI 5 u rfl) (λ_=>rfl)) ?_))
 apply vi m <;> intro b2 m
 rw[b2]
 exact gK m
 rw[b2]
 refine dN gU rfl rfl (vl 0 _ kZ rfl rfl rfl (dE pB rfl ?_))
 apply vi m <;> intro b3 m
 rw[b3]
 exact gK m
 rw[b3]
 refine dN gU rfl rfl (vl 0 _ kZ rfl rfl rfl (dE pB rfl ?_))
 apply vi m <;> intro b4 m
 rw[b4]
 exact gK m
 rw[b4]
 exact gK m
 rintro _ j0 m
 refine v0 ?_
 apply vi m <;> intro c0 m
 refine vs (v0 (v0 ?_))
 cases m
 exact C3 (D2 (L':=([(some k2,.obj 62 (aD p1)),OC p0K p0.Seq gS.a gC.a gE.a gV,bF gS.a p0.Snaps,aW gC p0.Chunks,bR gE p0.Exps,aM gV p0.Vols]++((a9 gC p0.Chunks)++(bS gE p0.Exps)))) [[_], [_], [_], [_], [_], [_],_,_,_] rfl 2 6 eQ qJ ok_Snaps.k rfl rfl (by decide) rfl) (C3 (D2 (L':=([(some k2,.obj 62 (aD p1)),OC p0K p0.Seq gS.a gC.a gE.a gV,bF gS.a p0.Snaps,aV gC.a p0.Chunks,bR gE p0.Exps,aM gV p0.Vols]++(bS gE p0.Exps))) [[_], [_], [_], [_], [_], [_],_,_] rfl 3 6 eQ n6 oC.k rfl rfl (by decide) rfl) (C3 (D2 (L':= [(some k2,.obj 62 (aD p1)),OC p0K p0.Seq gS.a gC.a gE.a gV,bF gS.a p0.Snaps,aV gC.a p0.Chunks,bX gE.a p0.Exps,aM gV p0.Vols]) [[_], [_], [_], [_], [_], [_],_] rfl 4 6 eQ vN oE.k rfl rfl (by decide) rfl) (vr λu=>dX.of1 (.inl rfl) (fT _ _ (.sc (.int _ _)) rfl) (bI u [1,2,3,4,5] rfl).2 (bJ.refl _ _) ⟨gS.a,ok_Snaps.k.a,gC.a,oC.k.a,gE.a,oE.k.a,gV,oV,(bI u [1,2,3,4,5] rfl).1,rfl,rfl⟩)))
 refine v0 (vs (v0 (wU (by kernel_rfl) (jM rfl (dN fP rfl rfl (vl 1 (aZ gV) iP rfl rfl rfl (dN fG rfl rfl (vl 0 _ bZ rfl rfl rfl ?_))))))))
 obtain⟨x2,X1,m⟩:=aC m
 refine bW (cP X1 lQ oV rfl rfl) (vs (v0 (bW (iW (bK.ne oV X1) rfl) (bW (cV (bK.ne oV X1) m5 rfl rfl) (ve λu=>cK (fo:=2) ({ x2 with State:=2}:aP) 5 u X1 eA oV rfl rfl rfl rfl (cX.refl _ _) AA rfl rfl λK1=>qk K1 rfl (vs (v0 (bW (iW (bK.ne (bK.set oV) (dG (x':=({ x2 with State:=2}:aP)) X1)) rfl) (bW (cV (bK.ne (bK.set oV) (dG (x':=({ x2 with State:=2}:aP)) X1)) pS rfl rfl) (vn (λu=>dW (fo:=3) (nZ (({ x2 with State:=2}:aP).Files)) (dG (x':=({ x2 with State:=2}:aP)) X1) eA (bK.set oV) bZ rfl (aI 5 u rfl) (λ_=>rfl)) (bW (iW (bK.ne (bK.set oV) (dG (x':=({ x2 with State:=2}:aP)) X1)) rfl) (bW (cV (bK.ne (bK.set oV) (dG (x':=({ x2 with State:=2}:aP)) X1)) pS rfl rfl) (ve λu=>cK (fo:=3) ({ ({ x2 with State:=2}:aP) with Files:=IntKind.wrap .i64 ((({ x2 with State:=2}:aP).Files)+1)}:aP) 5 u (dG (x':=({ x2 with State:=2}:aP)) X1) eA (bK.set oV) rfl rfl rfl rfl (cX.refl _ _) AA rfl rfl λK2=>qk K2 rfl (vs (v0 (ve λu=>B8 u λk36 K4=>qk K4 rfl (ve λu=>bH ([.sc (.map none)]) u (show uC Tryz.prog 161=some [.map none] by kernel_rfl) rfl rfl λk39 K5=>qk K5 rfl (ve λu=>aK 0 ([.mpv k36]) u rfl rfl rfl rfl W3 rfl rfl λK6=>qk K6 rfl ?_))))))))))))))))))
 refine vs (vs (v0 (dN gU rfl rfl (vl 2 _ kZ rfl rfl rfl (dE pB rfl (nP m (σ:=(List Int)×Int×(List aH)×(List aB)×(List aQ)×Int) (τ:=dH×dH×dH) (λg s=>([(some k39,.obj 161 ([.mpv k36])),(some k36,.mp (gM kI (s.1:List Int))),(some k2,.obj 62 (aD p1)),OC p0K s.2.1 g.1.a g.2.1.a g.2.2.a gV,bM g.1 s.2.2.1,aW g.2.1 s.2.2.2.1,bR g.2.2 s.2.2.2.2.1,aM gV ((p0.Vols.set p1.Vol.toNat ({ x2 with State:=2})).set p1.Vol.toNat ({ ({ x2 with State:=2}:aP) with Files:=IntKind.wrap .i64 ((({ x2 with State:=2}:aP).Files)+1)}))]++((bQ g.1 s.2.2.1)++((a9 g.2.1 s.2.2.2.1)++(bS g.2.2 s.2.2.2.2.1))))) (λg s=>mD aH.Locs 4 4 g.1 (s.2.2.1:List aH)∧mD aB.Locs 35 4 g.2.1 (s.2.2.2.1:List aB)∧mD aQ.Locs 3 4 g.2.2 (s.2.2.2.2.1:List aQ)) (λg s=>.c 0 (.ptr p0K 0) (.c 3 (.ptr k2 0) (.c 6 (wH gV.t (p1.Vol.toNat*4+0)) (.c 7 (.ptr k39 0) (.c 78 (.sl none 37 (List.map a8 p1.Items)) (.c 79 (nZ (p1.Items.length:Int)) (.c 80 (nZ s.2.2.2.2.2) .nil))))))) (gS,gC,gE) (⟨ok_Snaps,oC,oE⟩) (lx (.k7 .nil)) ?_ ?_))))))
 rintro⟨ng0,ng1,ng2⟩ ⟨q0,q1,q2,q3,q4,q5⟩ x ⟨O0,O1,O2⟩ m
 replace m:oZ w p0 p1 x2 q0 q1 q2 q3 q4 q5=some x:=m
 unfold oZ at m
 refine vs (v0 (vs (v0 ?_)))
 apply vi m <;> intro c1 m
 refine v0 (vs (v0 (vs (v0 (vx m wN rfl rfl λx3 _ m=>va (.agg (a8 x3)) GV rfl rfl (ve λu=>bH (([nZ 0]:List AV)++bL kG++(I9:List AV)) u TK rfl rfl λk284 K7=>qk K7 rfl (ve λu=>aK 0 (a8 x3) u rfl rfl rfl rfl TJ rfl rfl λK8=>qk K8 rfl (vs (v0 (vz [(1000000,some k284,.obj 38 (a8 x3)),(1000000,some k2,.obj 62 (aD p1)),(1000000,gV.t,.obj 49 (fl cI ((p0.Vols.set p1.Vol.toNat ({ x2 with State:=2})).set p1.Vol.toNat ({ ({ x2 with State:=2}:aP) with Files:=IntKind.wrap .i64 ((({ x2 with State:=2}:aP).Files)+1)}):List aP) gV.sp))] mixed (λu=>⟨λ_=>aI 0 u rfl,λ_=>aI 3 u rfl,λ_=>aI 8 u rfl,trivial⟩) λu=>zP 0 rfl rfl (zL 1 0 (.agg (a8 x3)) rfl GV rfl rfl rfl (zF 2 rfl fG rfl (zL 3 1 (nZ p1.Vol) rfl bZ rfl rfl rfl (zC 4 rfl (eS (wH _ _) rfl) (zC 5 rfl (iW (bK.ne (bK.set (bK.set oV)) (dG (x':=({ ({ x2 with State:=2}:aP) with Files:=IntKind.wrap .i64 ((({ x2 with State:=2}:aP).Files)+1)}:aP)) (dG (x':=({ x2 with State:=2}:aP)) X1))) rfl) (zC 6 rfl (cV (bK.ne (bK.set (bK.set oV)) (dG (x':=({ ({ x2 with State:=2}:aP) with Files:=IntKind.wrap .i64 ((({ x2 with State:=2}:aP).Files)+1)}:aP)) (dG (x':=({ x2 with State:=2}:aP)) X1))) pS rfl rfl) (wJ 7 rfl (λ_ _ hi hB=>dW (fo:=3) (nZ (({ ({ x2 with State:=2}:aP) with Files:=IntKind.wrap .i64 ((({ x2 with State:=2}:aP).Files)+1)}:aP).Files)) (dG (x':=({ ({ x2 with State:=2}:aP) with Files:=IntKind.wrap .i64 ((({ x2 with State:=2}:aP).Files)+1)}:aP)) (dG (x':=({ x2 with State:=2}:aP)) X1)) eA (bK.set (bK.set oV)) bZ rfl (fV.get 2 hi rfl (hB 1000000 (by kernel_rfl))) (λ_=>rfl)) ?_)))))))))))))))))
 refine zF 8 rfl GW rfl (zL 9 0 (nZ x3.Off) rfl bZ rfl rfl rfl (zF 10 rfl GX rfl (zL 11 0 (nZ x3.Len) rfl bZ rfl rfl rfl (zC 12 rfl (fI (aO ({ Vol:=p1.Vol,File:=({ ({ x2 with State:=2}:aP) with Files:=IntKind.wrap .i64 ((({ x2 with State:=2}:aP).Files)+1)}:aP).Files,Off:=x3.Off,Len:=x3.Len}:bG)) W1 rfl) ?_))))
 obtain⟨y0,Y0,m⟩:=aC m
 refine zE 13 rfl ?_
 have ho0:=mB (A:=([OC p0K q1 ng0.a ng1.a ng2.a gV,bM ng0 q2,aW ng1 q3,bR ng2 q4,aM gV ((p0.Vols.set p1.Vol.toNat ({ x2 with State:=2})).set p1.Vol.toNat ({ ({ x2 with State:=2}:aP) with Files:=IntKind.wrap .i64 ((({ x2 with State:=2}:aP).Files)+1)}))]++((bQ ng0 q2)++((a9 ng1 q3)++(bS ng2 q4))))) (R:= [(some k284,.obj 38 (a8 x3)),(some k39,.obj 161 ([.mpv k36])),(some k36,.mp (gM kI (q0:List Int))),(some k2,.obj 62 (aD p1))]) u [[_], [_], [_], [_], [_], [_], [_], [_], [_],_,_,_] rfl [4,5,6,7,8,9,10,11] [0,1,2,3] rfl rfl rfl
 refine dC ho0.1 (cM (aFJ (p0:=({ Seq:=q1,Snaps:=q2,Chunks:=q3,Exps:=q4,Vols:=(p0.Vols.set p1.Vol.toNat ({ x2 with State:=2})).set p1.Vol.toNat ({ ({ x2 with State:=2}:aP) with Files:=IntKind.wrap .i64 ((({ x2 with State:=2}:aP).Files)+1)})}:aA)) _ (O0) (O1) (O2) ((bK.set (bK.set oV))) ho0.2.2 Y0) rfl ZM rfl ?_)
 rintro x h' ⟨ng3,O3,ng4,O4,ng5,O5,K9,rfl,rfl⟩
 have K10:=mC (L':=([(some k284,.obj 38 (a8 x3)),(some k39,.obj 161 ([.mpv k36])),(some k36,.mp (gM kI (q0:List Int))),(some k2,.obj 62 (aD p1)),OC p0K y0.2.1 ng3.a ng4.a ng5.a gV,bM ng3 y0.2.2.1,aW ng4 y0.2.2.2.1,bR ng5 y0.2.2.2.2,aM gV ((p0.Vols.set p1.Vol.toNat ({ x2 with State:=2})).set p1.Vol.toNat ({ ({ x2 with State:=2}:aP) with Files:=IntKind.wrap .i64 ((({ x2 with State:=2}:aP).Files)+1)}))]++((bQ ng3 y0.2.2.1)++((a9 ng4 y0.2.2.2.1)++(bS ng5 y0.2.2.2.2))))) ho0.2.1 K9 [[_], [_], [_], [_], [_],_,_,_] [[_], [_], [_], [_]] rfl rfl [8,9,10,11,0,1,2,3,4,5,6,7] rfl rfl
 refine kT K10.1 (⟨⟨λ_=>aI 0 K10.2 rfl,λ_=>aI 3 K10.2 rfl,λ_=>aI 8 K10.2 rfl,trivial⟩, ?_⟩)
 refine zC 14 rfl (iI (.sc (.int _ _)) rfl) (zX (qk (f:=.c 10 _ (TD 97 _ _ _ _ _ _ _ _ _ _ _ _ _ _ _)) K10.2 rfl (vs (vs (v0 (v0 ?_))))))
 apply vi m <;> intro c2 m
 refine vs (v0 (v0 (fZ m λm=> ?_)))
 cases m
 refine C3 (D2 (L':=([(some k284,.obj 38 (a8 x3)),(some k39,.obj 161 ([.mpv k36])),(some k36,.mp (gM kI (q0:List Int))),(some k2,.obj 62 (aD p1)),OC p0K y0.2.1 ng3.a ng4.a ng5.a gV,bF ng3.a y0.2.2.1,aW ng4 y0.2.2.2.1,bR ng5 y0.2.2.2.2,aM gV ((p0.Vols.set p1.Vol.toNat ({ x2 with State:=2})).set p1.Vol.toNat ({ ({ x2 with State:=2}:aP) with Files:=IntKind.wrap .i64 ((({ x2 with State:=2}:aP).Files)+1)}))]++((a9 ng4 y0.2.2.2.1)++(bS ng5 y0.2.2.2.2)))) [[_], [_], [_], [_], [_], [_], [_], [_], [_],_,_,_] rfl 5 9 eQ qJ O3.k rfl rfl (by decide) rfl) (C3 (D2 (L':=([(some k284,.obj 38 (a8 x3)),(some k39,.obj 161 ([.mpv k36])),(some k36,.mp (gM kI (q0:List Int))),(some k2,.obj 62 (aD p1)),OC p0K y0.2.1 ng3.a ng4.a ng5.a gV,bF ng3.a y0.2.2.1,aV ng4.a y0.2.2.2.1,bR ng5 y0.2.2.2.2,aM gV ((p0.Vols.set p1.Vol.toNat ({ x2 with State:=2})).set p1.Vol.toNat ({ ({ x2 with State:=2}:aP) with Files:=IntKind.wrap .i64 ((({ x2 with State:=2}:aP).Files)+1)}))]++(bS ng5 y0.2.2.2.2))) [[_], [_], [_], [_], [_], [_], [_], [_], [_],_,_] rfl 6 9 eQ n6 O4.k rfl rfl (by decide) rfl) (C3 (D2 (L':= [(some k284,.obj 38 (a8 x3)),(some k39,.obj 161 ([.mpv k36])),(some k36,.mp (gM kI (q0:List Int))),(some k2,.obj 62 (aD p1)),OC p0K y0.2.1 ng3.a ng4.a ng5.a gV,bF ng3.a y0.2.2.1,aV ng4.a y0.2.2.2.1,bX ng5.a y0.2.2.2.2,aM gV ((p0.Vols.set p1.Vol.toNat ({ x2 with State:=2})).set p1.Vol.toNat ({ ({ x2 with State:=2}:aP) with Files:=IntKind.wrap .i64 ((({ x2 with State:=2}:aP).Files)+1)}))]) [[_], [_], [_], [_], [_], [_], [_], [_], [_],_] rfl 7 9 eQ vN O5.k rfl rfl (by decide) rfl) ?_))
 exact vr λu=>dX.of1 (.inl rfl) (fT _ _ (.sc (.int _ _)) rfl) (bI u [4,5,6,7,8] rfl).2 (bJ.refl _ _) ⟨ng3.a,O3.k.a,ng4.a,O4.k.a,ng5.a,O5.k.a,gV,(bK.set (bK.set oV)),(bI u [4,5,6,7,8] rfl).1,rfl,rfl⟩
 refine v0 (vs (vs (v0 (dN lY rfl rfl (vl 0 _ bZ rfl rfl rfl (fL m (σ:=(List Int)) (λs=>([(some k284,.obj 38 (a8 x3)),(some k39,.obj 161 ([.mpv k36])),(some k36,.mp (gM kI (s:List Int))),(some k2,.obj 62 (aD p1)),OC p0K y0.2.1 ng3.a ng4.a ng5.a gV,bM ng3 y0.2.2.1,aW ng4 y0.2.2.2.1,bR ng5 y0.2.2.2.2,aM gV ((p0.Vols.set p1.Vol.toNat ({ x2 with State:=2})).set p1.Vol.toNat ({ ({ x2 with State:=2}:aP) with Files:=IntKind.wrap .i64 ((({ x2 with State:=2}:aP).Files)+1)}))]++((bQ ng3 y0.2.2.1)++((a9 ng4 y0.2.2.2.1)++(bS ng5 y0.2.2.2.2))))) (λs=>.c 0 (.ptr p0K 0) (.c 3 (.ptr k2 0) (.c 6 (wH gV.t (p1.Vol.toNat*4+0)) (.c 7 (.ptr k39 0) (.c 9 (.ptr k284 0) (.c 78 (.sl none 37 (List.map a8 p1.Items)) (.c 79 (nZ (p1.Items.length:Int)) (.c 80 (nZ q5) .nil)))))))) (λx m=> ?_) ?_))))))
 refine v0 ?_
 apply vi m <;> intro c3 m
 exact v0 (vl 1 _ RT rfl rfl rfl (dN uX rfl rfl (vl 0 _ bZ rfl rfl rfl (ve λu=>LQ 2 u RU (xR.int u3) rfl rfl rfl rfl λK11=>qk K11 rfl (ID m)))))
 exact v0 (ID m)
 rintro _ j1 m
 refine vs (v0 (wU (by kernel_rfl) (jM rfl (dN dY rfl rfl (vl 4 (aZ ng4.a) eU rfl rfl rfl (dN uW rfl rfl (vl 0 (.agg (bL x3.Id)) fR rfl rfl rfl ?_)))))))
 obtain⟨y1,Y1,m⟩:=aC m
 refine vn (λu=>cC (fF (.cons (Br.awN 6 cR eQ FD O4.k u rfl (UQ [[_], [_], [_], [_], [_], [_], [_], [_], [_],_,_,_] rfl 10 rfl)) (.cons (Br.refl _ _) .nil)) rfl (QA _ Y1)) rfl IF rfl) (vs (fL m (σ:=Bool) (λs=>([(some k284,.obj 38 (a8 x3)),(some k39,.obj 161 ([.mpv k36])),(some k36,.mp (gM kI (j1:List Int))),(some k2,.obj 62 (aD p1)),OC p0K y0.2.1 ng3.a ng4.a ng5.a gV,bM ng3 y0.2.2.1,aW ng4 y0.2.2.2.1,bR ng5 y0.2.2.2.2,aM gV ((p0.Vols.set p1.Vol.toNat ({ x2 with State:=2})).set p1.Vol.toNat ({ ({ x2 with State:=2}:aP) with Files:=IntKind.wrap .i64 ((({ x2 with State:=2}:aP).Files)+1)}))]++((bQ ng3 y0.2.2.1)++((a9 ng4 y0.2.2.2.1)++(bS ng5 y0.2.2.2.2))))) (λs=>.c 0 (.ptr p0K 0) (.c 3 (.ptr k2 0) (.c 6 (wH gV.t (p1.Vol.toNat*4+0)) (.c 7 (.ptr k39 0) (.c 11 (nZ y1.1) (.c 78 (.sl none 37 (List.map a8 p1.Items)) (.c 79 (nZ (p1.Items.length:Int)) (.c 80 (nZ q5) (.c 129 (.sc (.bool s)) .nil))))))))) (λx m=> ?_) ?_))
 refine v0 (dN lY rfl rfl (vl 0 _ bZ rfl rfl rfl ?_))
 apply vi m <;> intro b5 m
 rw[b5]
 apply vi m <;> intro b6 m
 rw[b6]
 exact bW (iW (bK.ne (bK.set (bK.set oV)) (dG (x':=({ ({ x2 with State:=2}:aP) with Files:=IntKind.wrap .i64 ((({ x2 with State:=2}:aP).Files)+1)}:aP)) (dG (x':=({ x2 with State:=2}:aP)) X1))) rfl) (bW (cV (bK.ne (bK.set (bK.set oV)) (dG (x':=({ ({ x2 with State:=2}:aP) with Files:=IntKind.wrap .i64 ((({ x2 with State:=2}:aP).Files)+1)}:aP)) (dG (x':=({ x2 with State:=2}:aP)) X1))) LY rfl rfl) (vn (λu=>dW (fo:=0) (nZ (({ ({ x2 with State:=2}:aP) with Files:=IntKind.wrap .i64 ((({ x2 with State:=2}:aP).Files)+1)}:aP).Pool)) (dG (x':=({ ({ x2 with State:=2}:aP) with Files:=IntKind.wrap .i64 ((({ x2 with State:=2}:aP).Files)+1)}:aP)) (dG (x':=({ x2 with State:=2}:aP)) X1)) eA (bK.set (bK.set oV)) bZ rfl (aI 8 u rfl) (λ_=>rfl)) (gq9 m)))
 rw[b6]
 exact gq9 m
 rw[b5]
 exact gq9 m
 rintro _ j2 m
 refine pJ m (σ:=(List aB)) (τ:=dH) (λg s=>([(some k284,.obj 38 (a8 x3)),(some k39,.obj 161 ([.mpv k36])),(some k36,.mp (gM kI (j1:List Int))),(some k2,.obj 62 (aD p1)),OC p0K y0.2.1 ng3.a g.a ng5.a gV,bM ng3 y0.2.2.1,aW g s,bR ng5 y0.2.2.2.2,aM gV ((p0.Vols.set p1.Vol.toNat ({ x2 with State:=2})).set p1.Vol.toNat ({ ({ x2 with State:=2}:aP) with Files:=IntKind.wrap .i64 ((({ x2 with State:=2}:aP).Files)+1)}))]++((bQ ng3 y0.2.2.1)++((a9 g s)++(bS ng5 y0.2.2.2.2))))) (λg s=>mD aB.Locs 35 4 g (s:List aB)) (λg s=>.c 0 (.ptr p0K 0) (.c 3 (.ptr k2 0) (.c 6 (wH gV.t (p1.Vol.toNat*4+0)) (.c 7 (.ptr k39 0) (.c 78 (.sl none 37 (List.map a8 p1.Items)) (.c 79 (nZ (p1.Items.length:Int)) (.c 80 (nZ q5) .nil))))))) (λx m=> ?_) ?_
 refine v0 ?_
 apply vi m <;> intro c4 m
 refine v0 (vz [(1000000,some p0K,.obj 30 ([nZ y0.2.1,aZ ng3.a,aZ ng4.a,aZ ng5.a,aZ gV]))] mixed (λu=>⟨λ_=>aI 4 u rfl,trivial⟩) λu=>zP 0 rfl rfl (zN 1 rfl rfl (zF 2 rfl dY rfl (zL 3 0 (aZ ng4.a) rfl eU rfl rfl rfl (zI 4 rfl rfl (zP 5 rfl rfl (zN 6 rfl rfl (zF 7 rfl dY rfl (zL 8 0 (aZ ng4.a) rfl eU rfl rfl rfl (zI 9 rfl rfl ?_))))))))))
 obtain⟨x4,X2,m⟩:=aC m
 refine zC 10 rfl (cP (O4.k.ix X2) fJ O4.k.z rfl rfl) (zC 11 rfl (cV (bK.ne O4.k.z (O4.k.ix X2)) oI rfl rfl) (zE 12 rfl (cK (fo:=32) (x':=(({ x4 with Staged:=false}:aB),(gx ng4.gs y1.1.toNat))) 6 u (O4.k.ix X2) iS O4.k.z rfl rfl rfl rfl (cX.refl _ _) VQ rfl rfl ?_)))
 intro K12
 have hs0:tB aB.Locs 35 4 ng4 (y0.2.2.2.1:List aB):=O4.k
 have hn0:hp h _=hp h ([(some k284,.obj 38 (a8 x3)),(some k39,.obj 161 ([.mpv k36])),(some k36,.mp (gM kI (j1:List Int))),(some k2,.obj 62 (aD p1)),OC p0K y0.2.1 ng3.a ng4.a ng5.a gV,bM ng3 y0.2.2.1,aW ng4 (y0.2.2.2.1.set y1.1.toNat ({ x4 with Staged:=false})),bR ng5 y0.2.2.2.2,aM gV ((p0.Vols.set p1.Vol.toNat ({ x2 with State:=2})).set p1.Vol.toNat ({ ({ x2 with State:=2}:aP) with Files:=IntKind.wrap .i64 ((({ x2 with State:=2}:aP).Files)+1)}))]++((bQ ng3 y0.2.2.1)++((a9 ng4 (y0.2.2.2.1.set y1.1.toNat ({ x4 with Staged:=false})))++(bS ng5 y0.2.2.2.2))))∧bV h ([(some k284,.obj 38 (a8 x3)),(some k39,.obj 161 ([.mpv k36])),(some k36,.mp (gM kI (j1:List Int))),(some k2,.obj 62 (aD p1)),OC p0K y0.2.1 ng3.a ng4.a ng5.a gV,bM ng3 y0.2.2.1,aW ng4 (y0.2.2.2.1.set y1.1.toNat ({ x4 with Staged:=false})),bR ng5 y0.2.2.2.2,aM gV ((p0.Vols.set p1.Vol.toNat ({ x2 with State:=2})).set p1.Vol.toNat ({ ({ x2 with State:=2}:aP) with Files:=IntKind.wrap .i64 ((({ x2 with State:=2}:aP).Files)+1)}))]++((bQ ng3 y0.2.2.1)++((a9 ng4 (y0.2.2.2.1.set y1.1.toNat ({ x4 with Staged:=false})))++(bS ng5 y0.2.2.2.2)))):=eqN (L:=_) K12 (by unfold aW; (try unfold a9); rw[(hs0.set (x':=({ x4 with Staged:=false}:aB)) X2 rfl).2.2,← (hs0.set (x':=({ x4 with Staged:=false}:aB)) X2 rfl).2.1]; first | done | rfl)
 refine kT hn0.1 (⟨⟨λ_=>aI 4 hn0.2 rfl,trivial⟩, ?_⟩)
 obtain⟨x5,X3,m⟩:=aC m
 refine zC 13 rfl (cP ((O4.set (x':=({ x4 with Staged:=false}:aB)) X2 rfl).k.ix X3) fJ ((O4.set (x':=({ x4 with Staged:=false}:aB)) X2 rfl).k.z) rfl rfl) (zC 14 rfl (cV (bK.ne ((O4.set (x':=({ x4 with Staged:=false}:aB)) X2 rfl).k.z) ((O4.set (x':=({ x4 with Staged:=false}:aB)) X2 rfl).k.ix X3)) jR rfl rfl) (zE 15 rfl (cK (fo:=33) (x':=(({ x5 with Data:=([]:List Int)}:aB),(gx ng4.gs y1.1.toNat))) 6 hn0.2 ((O4.set (x':=({ x4 with Staged:=false}:aB)) X2 rfl).k.ix X3) iS ((O4.set (x':=({ x4 with Staged:=false}:aB)) X2 rfl).k.z) rfl rfl rfl rfl (.cons (aY _) .nil) CQ rfl rfl ?_)))
 intro K13
 have hs1:tB aB.Locs 35 4 ng4 (y0.2.2.2.1.set y1.1.toNat ({ x4 with Staged:=false}):List aB):=(O4.set (x':=({ x4 with Staged:=false}:aB)) X2 rfl).k
 have hn1:hp h _=hp h ([(some k284,.obj 38 (a8 x3)),(some k39,.obj 161 ([.mpv k36])),(some k36,.mp (gM kI (j1:List Int))),(some k2,.obj 62 (aD p1)),OC p0K y0.2.1 ng3.a ng4.a ng5.a gV,bM ng3 y0.2.2.1,aW ng4 ((y0.2.2.2.1.set y1.1.toNat ({ x4 with Staged:=false})).set y1.1.toNat ({ x5 with Data:=([]:List Int)})),bR ng5 y0.2.2.2.2,aM gV ((p0.Vols.set p1.Vol.toNat ({ x2 with State:=2})).set p1.Vol.toNat ({ ({ x2 with State:=2}:aP) with Files:=IntKind.wrap .i64 ((({ x2 with State:=2}:aP).Files)+1)}))]++((bQ ng3 y0.2.2.1)++((a9 ng4 ((y0.2.2.2.1.set y1.1.toNat ({ x4 with Staged:=false})).set y1.1.toNat ({ x5 with Data:=([]:List Int)})))++(bS ng5 y0.2.2.2.2))))∧bV h ([(some k284,.obj 38 (a8 x3)),(some k39,.obj 161 ([.mpv k36])),(some k36,.mp (gM kI (j1:List Int))),(some k2,.obj 62 (aD p1)),OC p0K y0.2.1 ng3.a ng4.a ng5.a gV,bM ng3 y0.2.2.1,aW ng4 ((y0.2.2.2.1.set y1.1.toNat ({ x4 with Staged:=false})).set y1.1.toNat ({ x5 with Data:=([]:List Int)})),bR ng5 y0.2.2.2.2,aM gV ((p0.Vols.set p1.Vol.toNat ({ x2 with State:=2})).set p1.Vol.toNat ({ ({ x2 with State:=2}:aP) with Files:=IntKind.wrap .i64 ((({ x2 with State:=2}:aP).Files)+1)}))]++((bQ ng3 y0.2.2.1)++((a9 ng4 ((y0.2.2.2.1.set y1.1.toNat ({ x4 with Staged:=false})).set y1.1.toNat ({ x5 with Data:=([]:List Int)})))++(bS ng5 y0.2.2.2.2)))):=eqN (L:=_) K13 (by unfold aW; (try unfold a9); rw[(hs1.set (x':=({ x5 with Data:=([]:List Int)}:aB)) X3 rfl).2.2,← (hs1.set (x':=({ x5 with Data:=([]:List Int)}:aB)) X3 rfl).2.1]; first | done | rfl)
 refine kT hn1.1 (⟨⟨λ_=>aI 4 hn1.2 rfl,trivial⟩, ?_⟩)
 exact zX (qk (f:=TD 143 _ _ _ _ _ _ _ _ _ _ _ _ _ _ _) hn1.2 rfl (eW m ng4 ((O4.set (x':=({ x4 with Staged:=false}:aB)) X2 rfl).set (x':=({ x5 with Data:=([]:List Int)}:aB)) X3 rfl) (lx (.k7 .nil))))
 exact v0 (eW m ng4 O4 (lx (.k7 .nil)))
 rintro ng6 j3 O6 m
 exact v0 (eW m (ng3,ng6,ng5) ⟨O3,O6,O5⟩ (lxB [[_], [_], [_], [_], [_], [_], [_], [_], [_],_,_,_] rfl [1,2,3,4,5,6,7,8,9,10,11] rfl rfl (.k7 .nil)))
 exact v0 (lK m (ng0,ng1,ng2) ⟨O0,O1,O2⟩ (lx (.k7 .nil)))
 rintro⟨ng7,ng8,ng9⟩ ⟨r0,r1,r2,r3,r4,r5⟩ ⟨t0,t1,t2⟩ m
 refine vs (v0 (jM rfl (dN dV rfl rfl (vl 3 (aZ ng7.a) fC rfl rfl rfl (bW (dQ jQ t0.k.a rfl) (vs (qC (D2 (L':=([(some k39,.obj 161 ([.mpv k36])),(some k36,.mp (gM kI (r0:List Int))),(some k2,.obj 62 (aD p1)),OC p0K r1 ng7.a ng8.a ng9.a gV,bF ng7.a r2,aW ng8 r3,bR ng9 r4,aM gV ((p0.Vols.set p1.Vol.toNat ({ x2 with State:=2})).set p1.Vol.toNat ({ ({ x2 with State:=2}:aP) with Files:=IntKind.wrap .i64 ((({ x2 with State:=2}:aP).Files)+1)}))]++((a9 ng8 r3)++(bS ng9 r4)))) [[_], [_], [_], [_], [_], [_], [_], [_],_,_,_] rfl 4 8 eQ qJ t0.k rfl rfl (by decide) rfl) (qC (D2 (L':=([(some k39,.obj 161 ([.mpv k36])),(some k36,.mp (gM kI (r0:List Int))),(some k2,.obj 62 (aD p1)),OC p0K r1 ng7.a ng8.a ng9.a gV,bF ng7.a r2,aV ng8.a r3,bR ng9 r4,aM gV ((p0.Vols.set p1.Vol.toNat ({ x2 with State:=2})).set p1.Vol.toNat ({ ({ x2 with State:=2}:aP) with Files:=IntKind.wrap .i64 ((({ x2 with State:=2}:aP).Files)+1)}))]++(bS ng9 r4))) [[_], [_], [_], [_], [_], [_], [_], [_],_,_] rfl 5 8 eQ n6 t1.k rfl rfl (by decide) rfl) (qC (D2 (L':= [(some k39,.obj 161 ([.mpv k36])),(some k36,.mp (gM kI (r0:List Int))),(some k2,.obj 62 (aD p1)),OC p0K r1 ng7.a ng8.a ng9.a gV,bF ng7.a r2,aV ng8.a r3,bX ng9.a r4,aM gV ((p0.Vols.set p1.Vol.toNat ({ x2 with State:=2})).set p1.Vol.toNat ({ ({ x2 with State:=2}:aP) with Files:=IntKind.wrap .i64 ((({ x2 with State:=2}:aP).Files)+1)}))]) [[_], [_], [_], [_], [_], [_], [_], [_],_] rfl 6 8 eQ vN t2.k rfl rfl (by decide) rfl) (v0 (jM rfl (dN dV rfl rfl (vl 3 (aZ ng7.a) fC rfl rfl rfl ?_)))))))))))))
 obtain⟨y2,Y2,m⟩:=aC m
 refine ve λu=>dC ((bE u [4,0,1,2,3,5,6,7] rfl rfl).1.trans (cW h [bF ng7.a r2] [(some k39,.obj 161 ([.mpv k36])),(some k36,.mp (gM kI (r0:List Int))),(some k2,.obj 62 (aD p1)),OC p0K r1 ng7.a ng8.a ng9.a gV,aV ng8.a r3,bX ng9.a r4,aM gV ((p0.Vols.set p1.Vol.toNat ({ x2 with State:=2})).set p1.Vol.toNat ({ ({ x2 with State:=2}:aP) with Files:=IntKind.wrap .i64 ((({ x2 with State:=2}:aP).Files)+1)}))]).symm) (cM (ZR (hp h [(some k39,.obj 161 ([.mpv k36])),(some k36,.mp (gM kI (r0:List Int))),(some k2,.obj 62 (aD p1)),OC p0K r1 ng7.a ng8.a ng9.a gV,aV ng8.a r3,bX ng9.a r4,aM gV ((p0.Vols.set p1.Vol.toNat ({ x2 with State:=2})).set p1.Vol.toNat ({ ({ x2 with State:=2}:aP) with Files:=IntKind.wrap .i64 ((({ x2 with State:=2}:aP).Files)+1)}))]) t0.k.a (cL [bF ng7.a r2] [(some k39,.obj 161 ([.mpv k36])),(some k36,.mp (gM kI (r0:List Int))),(some k2,.obj 62 (aD p1)),OC p0K r1 ng7.a ng8.a ng9.a gV,aV ng8.a r3,bX ng9.a r4,aM gV ((p0.Vols.set p1.Vol.toNat ({ x2 with State:=2})).set p1.Vol.toNat ({ ({ x2 with State:=2}:aP) with Files:=IntKind.wrap .i64 ((({ x2 with State:=2}:aP).Files)+1)}))] (bE u [4,0,1,2,3,5,6,7] rfl rfl).2).2 ZQ (λx0 o h0 hs ho=>aFM _ (hs _ _ (bC 0 (cL [bF ng7.a r2] [(some k39,.obj 161 ([.mpv k36])),(some k36,.mp (gM kI (r0:List Int))),(some k2,.obj 62 (aD p1)),OC p0K r1 ng7.a ng8.a ng9.a gV,aV ng8.a r3,bX ng9.a r4,aM gV ((p0.Vols.set p1.Vol.toNat ({ x2 with State:=2})).set p1.Vol.toNat ({ ({ x2 with State:=2}:aP) with Files:=IntKind.wrap .i64 ((({ x2 with State:=2}:aP).Files)+1)}))] (bE u [4,0,1,2,3,5,6,7] rfl rfl).2).1 rfl)) (hs _ _ (bC 1 (cL [bF ng7.a r2] [(some k39,.obj 161 ([.mpv k36])),(some k36,.mp (gM kI (r0:List Int))),(some k2,.obj 62 (aD p1)),OC p0K r1 ng7.a ng8.a ng9.a gV,aV ng8.a r3,bX ng9.a r4,aM gV ((p0.Vols.set p1.Vol.toNat ({ x2 with State:=2})).set p1.Vol.toNat ({ ({ x2 with State:=2}:aP) with Files:=IntKind.wrap .i64 ((({ x2 with State:=2}:aP).Files)+1)}))] (bE u [4,0,1,2,3,5,6,7] rfl rfl).2).1 rfl)) ho) Y2) rfl ZS rfl ?_)
 rintro x h' ⟨ag0,O7,K14,rfl,rfl⟩
 have K15:=bE (L':= [(some k39,.obj 161 ([.mpv k36])),(some k36,.mp (gM kI (r0:List Int))),(some k2,.obj 62 (aD p1)),(hO p0K r1 ng7.a ng8.a ng9.a gV),bF ag0 y2,aV ng8.a r3,bX ng9.a r4,aM gV ((p0.Vols.set p1.Vol.toNat ({ x2 with State:=2})).set p1.Vol.toNat ({ ({ x2 with State:=2}:aP) with Files:=IntKind.wrap .i64 ((({ x2 with State:=2}:aP).Files)+1)}))]) (dI (cL [bF ng7.a r2] [(some k39,.obj 161 ([.mpv k36])),(some k36,.mp (gM kI (r0:List Int))),(some k2,.obj 62 (aD p1)),OC p0K r1 ng7.a ng8.a ng9.a gV,aV ng8.a r3,bX ng9.a r4,aM gV ((p0.Vols.set p1.Vol.toNat ({ x2 with State:=2})).set p1.Vol.toNat ({ ({ x2 with State:=2}:aP) with Files:=IntKind.wrap .i64 ((({ x2 with State:=2}:aP).Files)+1)}))] (bE u [4,0,1,2,3,5,6,7] rfl rfl).2).1 K14) [1,2,3,4,0,5,6,7] rfl rfl
 refine qk K15.2 ((cW h [bF ag0 y2] [(some k39,.obj 161 ([.mpv k36])),(some k36,.mp (gM kI (r0:List Int))),(some k2,.obj 62 (aD p1)),OC p0K r1 ng7.a ng8.a ng9.a gV,aV ng8.a r3,bX ng9.a r4,aM gV ((p0.Vols.set p1.Vol.toNat ({ x2 with State:=2})).set p1.Vol.toNat ({ ({ x2 with State:=2}:aP) with Files:=IntKind.wrap .i64 ((({ x2 with State:=2}:aP).Files)+1)}))]).trans K15.1) (jM rfl (dN dV rfl rfl (ve λu=>aK 3 ([nZ r1,aZ ag0,aZ ng8.a,aZ ng9.a,aZ gV]) u rfl rfl (cD rfl) (cG (bY _ _ _) rfl) GT rfl rfl λK16=>qk K16 rfl (vs (vs (v0 (jM rfl (dN dV rfl rfl (vl 3 (aZ ag0) fC rfl rfl rfl (bW (dQ jQ O7 rfl) (pJ m (σ:=(List aB)) (τ:=cU) (λg s=> [(some k39,.obj 161 ([.mpv k36])),(some k36,.mp (gM kI (r0:List Int))),(some k2,.obj 62 (aD p1)),OC p0K r1 ag0 g ng9.a gV,bF ag0 y2,aV g s,bX ng9.a r4,aM gV ((p0.Vols.set p1.Vol.toNat ({ x2 with State:=2})).set p1.Vol.toNat ({ ({ x2 with State:=2}:aP) with Files:=IntKind.wrap .i64 ((({ x2 with State:=2}:aP).Files)+1)}))]) (λg s=>bK g 35 (s:List aB).length) (λg s=>.nil) (λx m=> ?_) ?_)))))))))))
 refine v0 ?_
 apply vi m <;> intro c5 m
 refine v0 ?_
 obtain⟨y3,Y3,m⟩:=aC m
 refine ve λu=>dC ((bE u [3,4,5,6,7,0,1,2] rfl rfl).1.trans (cW h [OC p0K r1 ag0 ng8.a ng9.a gV,bF ag0 y2,aV ng8.a r3,bX ng9.a r4,aM gV ((p0.Vols.set p1.Vol.toNat ({ x2 with State:=2})).set p1.Vol.toNat ({ ({ x2 with State:=2}:aP) with Files:=IntKind.wrap .i64 ((({ x2 with State:=2}:aP).Files)+1)}))] [(some k39,.obj 161 ([.mpv k36])),(some k36,.mp (gM kI (r0:List Int))),(some k2,.obj 62 (aD p1))]).symm) (cM (ZH (p0:=({ Seq:=r1,Snaps:=y2,Chunks:=r3,Exps:=r4,Vols:=(p0.Vols.set p1.Vol.toNat ({ x2 with State:=2})).set p1.Vol.toNat ({ ({ x2 with State:=2}:aP) with Files:=IntKind.wrap .i64 ((({ x2 with State:=2}:aP).Files)+1)})}:aA)) (hp h [(some k39,.obj 161 ([.mpv k36])),(some k36,.mp (gM kI (r0:List Int))),(some k2,.obj 62 (aD p1))]) O7 t1.k.a t2.k.a (bK.set (bK.set oV)) (cL [OC p0K r1 ag0 ng8.a ng9.a gV,bF ag0 y2,aV ng8.a r3,bX ng9.a r4,aM gV ((p0.Vols.set p1.Vol.toNat ({ x2 with State:=2})).set p1.Vol.toNat ({ ({ x2 with State:=2}:aP) with Files:=IntKind.wrap .i64 ((({ x2 with State:=2}:aP).Files)+1)}))] [(some k39,.obj 161 ([.mpv k36])),(some k36,.mp (gM kI (r0:List Int))),(some k2,.obj 62 (aD p1))] (bE u [3,4,5,6,7,0,1,2] rfl rfl).2).2 Y3) rfl SG rfl ?_)
 rintro x h' ⟨ag1,O8,K17,rfl,rfl⟩
 have K18:=bE (L':= [(some k39,.obj 161 ([.mpv k36])),(some k36,.mp (gM kI (r0:List Int))),(some k2,.obj 62 (aD p1)),OC p0K r1 ag0 ag1 ng9.a gV,bF ag0 y2,aV ag1 y3,bX ng9.a r4,aM gV ((p0.Vols.set p1.Vol.toNat ({ x2 with State:=2})).set p1.Vol.toNat ({ ({ x2 with State:=2}:aP) with Files:=IntKind.wrap .i64 ((({ x2 with State:=2}:aP).Files)+1)}))]) (dI (cL [OC p0K r1 ag0 ng8.a ng9.a gV,bF ag0 y2,aV ng8.a r3,bX ng9.a r4,aM gV ((p0.Vols.set p1.Vol.toNat ({ x2 with State:=2})).set p1.Vol.toNat ({ ({ x2 with State:=2}:aP) with Files:=IntKind.wrap .i64 ((({ x2 with State:=2}:aP).Files)+1)}))] [(some k39,.obj 161 ([.mpv k36])),(some k36,.mp (gM kI (r0:List Int))),(some k2,.obj 62 (aD p1))] (bE u [3,4,5,6,7,0,1,2] rfl rfl).2).1 K17) [5,6,7,0,1,2,3,4] rfl rfl
 exact qk K18.2 ((cW h [OC p0K r1 ag0 ag1 ng9.a gV,bF ag0 y2,aV ag1 y3,bX ng9.a r4,aM gV ((p0.Vols.set p1.Vol.toNat ({ x2 with State:=2})).set p1.Vol.toNat ({ ({ x2 with State:=2}:aP) with Files:=IntKind.wrap .i64 ((({ x2 with State:=2}:aP).Files)+1)}))] [(some k39,.obj 161 ([.mpv k36])),(some k36,.mp (gM kI (r0:List Int))),(some k2,.obj 62 (aD p1))]).trans K18.1) (eW m ag1 O8 (lx .nil))
 exact v0 (eW m ng8.a t1.k.a (lx .nil))
 rintro ag2 j4 O9 m
 refine vs (v0 (v0 ?_))
 cases m
 exact vr λu=>dX.of1 (.inl rfl) (fT _ _ (.sc (.int _ _)) rfl) (bI u [3,4,5,6,7] rfl).2 (bJ.refl _ _) ⟨ag0,O7,ag2,O9,ng9.a,t2.k.a,gV,(bK.set (bK.set oV)),(bI u [3,4,5,6,7] rfl).1,rfl,rfl⟩
theorem aFN:aN Tryz.prog 74=true:=by kernel_rfl
open Go.Vm
def tH (m:Nat) (p0:List aB) (p1:aB→Option Bool) (q0:Int):Option (Lp (Int) (Int)):=
 if (decide (q0 < (p0.length:Int)))=true then ((ix p0 q0).bind λx0=>(p1 x0).bind λy0=>if y0=true then (some (.ret q0)) else some (.go (IntKind.wrap .i64 (q0+1)))) else some (.brk q0)
def NG (m:Nat) (p0:List aB) (p1:aB→Option Bool):Option (Int):=
 after (aT (λs=>tH m p0 p1 s) m 0) λr0=>some (-1)
theorem aFO {w:Nat} {p0:List aB} {p1:aB→Option Bool} {o:Int} (h:aF) {g_p0:cU} (ok_p0:bK g_p0 35 p0.length) (K0:bV h [(cH g_p0 p0)]) {p1F:Nat} {p1C:List AV} (p1B:aN Tryz.prog p1F=true) (p1H:∀x0 o h0,iG h h0→p1 x0=some o→aL Tryz.prog p1F ([.agg (aJ x0)]++p1C) h0 (λr h'=>r= .sc (.bool o)∧h'=h0)) (m:NG w p0 p1=some o):
 aL Tryz.prog 53 [aZ g_p0,.fn (.func p1F) p1C] (hp h [(cH g_p0 p0)]) (λr h'=>r=nZ o∧h'=hp h [(cH g_p0 p0)]):=by
 refine uE K0 19 [.tmp 4] Tryz.func53 rfl rfl rfl rfl ?_
 unfold NG at m
 refine vs (v0 (vs (vs (v0 (bW (dQ iX ok_p0 rfl) ?_)))))
 refine jN m (σ:=Int) (λs=> [(cH g_p0 p0)]) (λs=>.c 0 (aZ g_p0) (.c 1 (.fn (.func p1F) p1C) (.c 7 (nZ (p0.length:Int)) (.c 8 (nZ s) .nil)))) (lx (.k4 .nil)) ?_ ?_
 rintro _ q0 x m
 replace m:tH w p0 p1 q0=some x:=m
 unfold tH at m
 refine vs (v0 (vs (v0 ?_)))
 apply vi m <;> intro c0 m
 refine v0 (vs (v0 (vs (v0 (vs (v0 ?_))))))
 obtain⟨x1,X0,m⟩:=aC m
 refine bW (cP X0 fJ ok_p0 rfl rfl) (vn (λu=>dW (fo:=0) (.agg (aJ x1)) X0 cR ok_p0 lZ rfl (aI 0 u rfl) (λ_=>rfl)) ?_)
 obtain⟨_,Y0,m⟩:=aC m
 refine vn (λu=>cC (p1H _ _ _ (aS (List.nil_sublist _) u).1 Y0) rfl p1B rfl) (v0 ?_)
 apply vi m <;> intro c1 m
 refine vs (v0 (v0 ?_))
 refine fZ m λm=> ?_
 obtain rfl:=eE m
 exact vr λu=>dX.of1 (.inl rfl) (fT _ _ (.sc (.int _ _)) rfl) (bI u [0] rfl).2 (bJ.refl _ _) ⟨rfl,rfl⟩
 refine v0 (v0 ?_)
 exact f8 m
 refine v0 ?_
 exact wS m
 rintro _ r0 m
 refine vs (v0 (v0 ?_))
 cases m
 exact vr λu=>dX.of1 (.inl rfl) (fT _ _ (.sc (.int _ _)) rfl) (bI u [0] rfl).2 (bJ.refl _ _) ⟨rfl,rfl⟩
def p6 (m:Nat) (p0:List aQ) (p1:aQ→Option Bool) (q0:Int):Option (Lp (Int) (Int)):=
 if (decide (q0 < (p0.length:Int)))=true then ((ix p0 q0).bind λx0=>(p1 x0).bind λy0=>if y0=true then (some (.ret q0)) else some (.go (IntKind.wrap .i64 (q0+1)))) else some (.brk q0)
def FG (m:Nat) (p0:List aQ) (p1:aQ→Option Bool):Option (Int):=
 after (aT (λs=>p6 m p0 p1 s) m 0) λr0=>some (-1)
theorem ZT {w:Nat} {p0:List aQ} {p1:aQ→Option Bool} {o:Int} (h:aF) {g_p0:cU} (ok_p0:bK g_p0 3 p0.length) (K0:bV h [(fA g_p0 p0)]) {p1F:Nat} {p1C:List AV} (p1B:aN Tryz.prog p1F=true) (p1H:∀x0 o h0,iG h h0→p1 x0=some o→aL Tryz.prog p1F ([.agg (cF x0)]++p1C) h0 (λr h'=>r= .sc (.bool o)∧h'=h0)) (m:FG w p0 p1=some o):
 aL Tryz.prog 181 [aZ g_p0,.fn (.func p1F) p1C] (hp h [(fA g_p0 p0)]) (λr h'=>r=nZ o∧h'=hp h [(fA g_p0 p0)]):=by
 refine uE K0 19 [.tmp 4] Tryz.func181 rfl rfl rfl rfl ?_
 unfold FG at m
 refine vs (v0 (vs (vs (v0 (bW (dQ nW ok_p0 rfl) ?_)))))
 refine jN m (σ:=Int) (λs=> [(fA g_p0 p0)]) (λs=>.c 0 (aZ g_p0) (.c 1 (.fn (.func p1F) p1C) (.c 7 (nZ (p0.length:Int)) (.c 8 (nZ s) .nil)))) (lx (.k4 .nil)) ?_ ?_
 rintro _ q0 x m
 replace m:p6 w p0 p1 q0=some x:=m
 unfold p6 at m
 refine vs (v0 (vs (v0 ?_)))
 apply vi m <;> intro c0 m
 refine v0 (vs (v0 (vs (v0 (vs (v0 ?_))))))
 obtain⟨x1,X0,m⟩:=aC m
 refine bW (cP X0 iE ok_p0 rfl rfl) (vn (λu=>dW (fo:=0) (.agg (cF x1)) X0 fM ok_p0 rH rfl (aI 0 u rfl) (λ_=>rfl)) ?_)
 obtain⟨_,Y0,m⟩:=aC m
 refine vn (λu=>cC (p1H _ _ _ (aS (List.nil_sublist _) u).1 Y0) rfl p1B rfl) (v0 ?_)
 apply vi m <;> intro c1 m
 refine vs (v0 (v0 ?_))
 refine fZ m λm=> ?_
 obtain rfl:=eE m
 exact vr λu=>dX.of1 (.inl rfl) (fT _ _ (.sc (.int _ _)) rfl) (bI u [0] rfl).2 (bJ.refl _ _) ⟨rfl,rfl⟩
 refine v0 (v0 ?_)
 exact f8 m
 refine v0 ?_
 exact wS m
 rintro _ r0 m
 refine vs (v0 (v0 ?_))
 cases m
 exact vr λu=>dX.of1 (.inl rfl) (fT _ _ (.sc (.int _ _)) rfl) (bI u [0] rfl).2 (bJ.refl _ _) ⟨rfl,rfl⟩
theorem ZU:aN Tryz.prog 181=true:=by kernel_rfl
def QV (m:Nat) (p0:bG) (c0:aR):Option (Bool):=
 some (p0.Vol==c0.Vol)
theorem aFP {w:Nat} {p0:bG} {c0:aR} {o:Bool} (h:aF) {c0K:cE} (c0H:h c0K=some (.obj 62 (aD c0))) (m:QV w p0 c0=some o):
 aL Tryz.prog 127 [.agg (aO p0),.ptr c0K 0] h (λr h'=>r= .sc (.bool o)∧h'=h):=by
 refine fQ 9 [.tmp 3] Tryz.func127 rfl rfl rfl rfl ?_
 unfold QV at m
 refine v ?_
 refine gO rfl rfl λk2 K3=> ?_
 refine v (vl 0 _ bZ rfl rfl rfl (vn (λu=>o6 (nZ c0.Vol) bZ rfl (kN u c0H) rfl) (v ?_)))
 cases m
 exact dU rfl
theorem ZV:aN Tryz.prog 127=true:=by kernel_rfl
def zD (m:Nat) (p0:List bG) (c0:aR):Option ((List bG)):=
 (MY m p0 (λx0=>QV m x0 c0)).bind λy3=>some y3
theorem NH {w:Nat} {p0:List bG} {c0:aR} {o:(List bG)} (h:aF) {g_p0:cU} (ok_p0:bK g_p0 4 p0.length) (K0:bV h [fH g_p0 p0]) {c0K:cE} (c0H:h c0K=some (.obj 62 (aD c0))) (m:zD w p0 c0=some o):
 aL Tryz.prog 126 [aZ g_p0,.ptr c0K 0] (hp h [fH g_p0 p0]) (λr h'=>∃g:cU,bK g 4 o.length∧bV h [(g.t,.obj 81 (fl aO o g.sp))]∧r=aZ g∧h'=hp h [(g.t,.obj 81 (fl aO o g.sp))]):=by
 refine uE K0 7 [.tmp 3] Tryz.func126 rfl rfl rfl rfl ?_
 unfold zD at m
 refine vs (v0 (vs (v0 ?_)))
 obtain⟨y3,Y4,m⟩:=aC m
 refine ve λu=>dC ((bE u [0] rfl rfl).1.trans (cW h [fH g_p0 p0] []).symm) (cM (aE7 (hp h []) ok_p0 (cL [fH g_p0 p0] [] (bE u [0] rfl rfl).2).2 ZV (λ_ o h0 hs ho=>aFP _ (hs _ _ (kN (cL [fH g_p0 p0] [] (bE u [0] rfl rfl).2).1 c0H)) ho) Y4) rfl aE8 rfl ?_)
 rintro x h' ⟨ag5,O6,K7,rfl,rfl⟩
 have K8:=bE (L':= [fH ag5 y3]) (dI (cL [fH g_p0 p0] [] (bE u [0] rfl rfl).2).1 K7) [0] rfl rfl
 refine qk K8.2 ((cW h [fH ag5 y3] []).trans K8.1) ?_
 refine v0 ?_
 obtain rfl:=eE m
 exact vr λu=>dX.one (.inl rfl) (aS (h0:=h) (L':= [fH ag5 y3]) (.refl _) u).1 (bJ.refl _ _) ⟨ag5,O6,(aS (h0:=h) (L':= [fH ag5 y3]) (.refl _) u).2,rfl,rfl⟩
theorem NI:aN Tryz.prog 126=true:=by kernel_rfl
def NJ (m:Nat) (p0:aB):Option (Bool):=
 after (if (!p0.Staged)=true then (some (.brk ((p0.Locs.length:Int)==0))) else some (.brk false):Option (Lp (Bool) (Bool))) λj7=>some j7
theorem aFQ {u:Nat} {p0:aB} {o:Bool} (h:aF) (m:NJ u p0=some o):
 aL Tryz.prog 129 [.agg (aJ p0)] h (λr h'=>r= .sc (.bool o)∧h'=h):=by
 refine fQ 12 [.tmp 2] Tryz.func129 rfl rfl rfl rfl ?_
 unfold NJ at m
 refine v ?_
 refine gO rfl rfl λk2 K3=> ?_
 refine vs ?_
 refine fL m (σ:=Bool) (λs=> [(some k2,.obj 44 (aJ p0))]) (λs=>.c 2 (.sc (.bool s)) .nil) (λx m=> ?_) ?_
 refine v (vl 0 _ CN rfl rfl rfl ?_)
 apply vi m <;> intro b8 m
 rw[b8]
 refine vl 0 _ eZ rfl rfl rfl (dE i9 rfl ?_)
 exact iZ m
 rw[b8]
 exact iZ m
 rintro _ j7 m
 refine v ?_
 obtain rfl:=eE m
 exact dU rfl
theorem ZW:aN Tryz.prog 129=true:=by kernel_rfl
def n8 (m:Nat) (p1:aB→Option Bool) (q0:List aB) (q1:Int) (q2:Int):Option (Lp ((List aB)×Int×Int) ((List aB))):=
 if (decide (q2 < (q0.length:Int)))=true then ((ix q0 q2).bind λx0=>(p1 x0).bind λy0=>after (if (!y0)=true then ((ix q0 q1).bind λ_=>some (.brk (q0.set q1.toNat (x0),IntKind.wrap .i64 (q1+1)))) else some (.brk (q0,q1)):Option (Lp ((List aB)×Int) (Lp ((List aB)×Int×Int) ((List aB))))) λ⟨j0,j1⟩=>some (.go (j0,j1,IntKind.wrap .i64 (q2+1)))) else some (.brk (q0,q1,q2))
def FH (m:Nat) (p0:List aB) (p1:aB→Option Bool):Option ((List aB)):=
 (NG m p0 p1).bind λy3=>if (y3==(-1))=true then (some p0) else after (aT (λs=>n8 m p1 s.1 s.2.1 s.2.2) m (p0,y3,IntKind.wrap .i64 (y3+1))) λ⟨r0,r1,r2⟩=>grd (decide (0≤r1) && decide (r1 < (r0.length:Int))) <| grd (decide (0≤r1) && decide (r1≤(r0.length:Int))) <| some (r0.take r1.toNat)
theorem ZX {w:Nat} {p0:List aB} {p1:aB→Option Bool} {o:(List aB)} (h:aF) {g_p0:cU} (ok_p0:bK g_p0 35 p0.length) (K0:bV h [(cH g_p0 p0)]) {p1F:Nat} {p1C:List AV} (p1B:aN Tryz.prog p1F=true) (p1H:∀x0 o h0,iG h h0→p1 x0=some o→aL Tryz.prog p1F ([.agg (aJ x0)]++p1C) h0 (λr h'=>r= .sc (.bool o)∧h'=h0)) (m:FH w p0 p1=some o):
 aL Tryz.prog 128 [aZ g_p0,.fn (.func p1F) p1C] (hp h [(cH g_p0 p0)]) (λr h'=>∃g:cU,bK g 35 o.length∧bV h [(g.t,.obj 44 (fl aJ o g.sp))]∧r=aZ g∧h'=hp h [(g.t,.obj 44 (fl aJ o g.sp))]):=by
 refine uE K0 42 [.tmp 4] Tryz.func128 rfl rfl rfl rfl ?_
 unfold FH at m
 refine vs (v0 (vs (v0 ?_)))
 obtain⟨_,Y4,m⟩:=aC m
 refine ve λu=>dC ((bE u [0] rfl rfl).1.trans (cW h [(cH g_p0 p0)] []).symm) (cM (aFO (hp h []) ok_p0 (cL [(cH g_p0 p0)] [] (bE u [0] rfl rfl).2).2 p1B (λx0 o h0 hs ho=>p1H x0 o h0 ((aS (List.nil_sublist _) (cL [(cH g_p0 p0)] [] (bE u [0] rfl rfl).2).1).1.trans hs) ho) Y4) rfl YC rfl ?_)
 rintro x h' ⟨rfl,rfl⟩
 refine qk u ((cW h [(cH g_p0 p0)] []).trans (bE u [0] rfl rfl).1.symm) ?_
 refine vs (vs (v0 (v0 ?_)))
 apply vi m <;> intro c7 m
 refine vs (v0 (v0 ?_))
 obtain rfl:=eE m
 exact vr λu=>dX.one (.inl rfl) (aS (h0:=h) (L':= [(cH g_p0 p0)]) (.refl _) u).1 (bJ.refl _ _) ⟨g_p0,ok_p0,(aS (h0:=h) (L':= [(cH g_p0 p0)]) (.refl _) u).2,rfl,rfl⟩
 refine v0 (vs (vs (v0 ?_)))
 refine nP m (σ:=(List aB)×Int×Int) (τ:=cU) (λg s=> [(cH g s.1)]) (λg s=>bK g 35 (s.1:List aB).length) (λg s=>.c 0 (aZ g) (.c 1 (.fn (.func p1F) p1C) (.c 5 (nZ s.2.1) (.c 6 (nZ s.2.2) .nil)))) g_p0 ok_p0 (lx (.k4 .nil)) ?_ ?_
 rintro ag0 ⟨q0,q1,q2⟩ x O0 m
 replace m:n8 w p1 q0 q1 q2=some x:=m
 unfold n8 at m
 refine vs (vs (v0 (bW (dQ iX O0 rfl) (v0 ?_))))
 apply vi m <;> intro c0 m
 refine v0 (vs (v0 (vs (v0 ?_))))
 obtain⟨x1,X0,m⟩:=aC m
 refine bW (cP X0 fJ O0 rfl rfl) (vn (λu=>dW (fo:=0) (.agg (aJ x1)) X0 cR O0 lZ rfl (aI 0 u rfl) (λ_=>rfl)) ?_)
 refine ve λu=>bH (bL kG++(KT:List AV)) u nR rfl rfl λk86 K1=>qk K1 rfl ?_
 refine ve λu=>aK 0 (aJ x1) u rfl rfl rfl rfl xY rfl rfl λK2=>qk K2 rfl ?_
 refine vs (v0 (vl 0 (.agg (aJ x1)) lZ rfl rfl rfl ?_))
 obtain⟨_,Y0,m⟩:=aC m
 refine vn (λu=>cC (p1H _ _ _ (aS (List.nil_sublist _) u).1 Y0) rfl p1B rfl) ?_
 refine pJ m (σ:=(List aB)×Int) (τ:=cU) (λg s=> [(some k86,.obj 44 (aJ x1)),(cH g s.1)]) (λg s=>bK g 35 (s.1:List aB).length) (λg s=>.c 0 (aZ g) (.c 1 (.fn (.func p1F) p1C) (.c 5 (nZ s.2) (.c 6 (nZ q2) .nil)))) (λx m=> ?_) ?_
 refine v0 ?_
 apply vi m <;> intro c1 m
 refine vs (v0 (vl 0 (.agg (aJ x1)) lZ rfl rfl rfl ?_))
 obtain⟨_,X1,m⟩:=aC m
 refine bW (cP X1 fJ O0 rfl rfl) ?_
 refine ve λu=>cK (fo:=0) (x1:aB) 1 u X1 cR O0 rfl rfl rfl rfl (cX.refl _ _) xY rfl rfl λK3=>qk K3 rfl ?_
 refine v0 ?_
 exact eW m ag0 (bK.set O0) (lx (.k4 .nil))
 refine v0 ?_
 exact eW m ag0 O0 (lx (.k4 .nil))
 rintro ag1 ⟨j0,j1⟩ O1 m
 refine v0 ?_
 exact eW m ag1 O1 (lJ [1] rfl rfl (.k4 .nil))
 refine v0 ?_
 exact lK m ag0 O0 (lx (.k4 .nil))
 rintro ag2 ⟨r0,r1,r2⟩ t0 m
 refine vs (v0 ?_)
 obtain⟨Z0,m⟩:=m0 m
 refine bW (CL Z0 fJ t0 rfl rfl) ?_
 refine ve λu=>BA 0 u Z0 cR t0 u26 nR rfl rfl rfl rfl λsp0 O2 K4=>qk K4 rfl ?_
 refine vs (v0 ?_)
 obtain⟨Z1,m⟩:=m0 m
 refine bW (CM Z1 t0 fJ rfl rfl) (v0 ?_)
 cases m
 exact vr λu=>dX.one (.inl rfl) (aS (h0:=h) (L':= [((⟨ag2.t,r1.toNat,ag2.cap,sp0⟩:cU).t,.obj 44 (fl aJ (r0.take r1.toNat:List aB) (⟨ag2.t,r1.toNat,ag2.cap,sp0⟩:cU).sp))]) (.refl _) u).1 (bJ.refl _ _) ⟨(⟨ag2.t,r1.toNat,ag2.cap,sp0⟩:cU),O2,(aS (h0:=h) (L':= [((⟨ag2.t,r1.toNat,ag2.cap,sp0⟩:cU).t,.obj 44 (fl aJ (r0.take r1.toNat:List aB) (⟨ag2.t,r1.toNat,ag2.cap,sp0⟩:cU).sp))]) (.refl _) u).2,rfl,rfl⟩
theorem ZY:aN Tryz.prog 128=true:=by kernel_rfl
def QW (m:Nat) (p0:aQ):Option (Bool):=
 some ((p0.Locs.length:Int)==0)
theorem aFR {u:Nat} {p0:aQ} {o:Bool} (h:aF) (m:QW u p0=some o):
 aL Tryz.prog 131 [.agg (cF p0)] h (λr h'=>r= .sc (.bool o)∧h'=h):=by
 refine fQ 7 [.tmp 2] Tryz.func131 rfl rfl rfl rfl ?_
 unfold QW at m
 refine v ?_
 refine gO rfl rfl λk2 K3=> ?_
 refine v (vl 0 _ eZ rfl rfl rfl (dE i9 rfl (v ?_)))
 cases m
 exact dU rfl
theorem ZZ:aN Tryz.prog 131=true:=by kernel_rfl
def n9 (m:Nat) (p1:aQ→Option Bool) (q0:List aQ) (q1:Int) (q2:Int):Option (Lp ((List aQ)×Int×Int) ((List aQ))):=
 if (decide (q2 < (q0.length:Int)))=true then ((ix q0 q2).bind λx0=>(p1 x0).bind λy0=>after (if (!y0)=true then ((ix q0 q1).bind λ_=>some (.brk (q0.set q1.toNat (x0),IntKind.wrap .i64 (q1+1)))) else some (.brk (q0,q1)):Option (Lp ((List aQ)×Int) (Lp ((List aQ)×Int×Int) ((List aQ))))) λ⟨j0,j1⟩=>some (.go (j0,j1,IntKind.wrap .i64 (q2+1)))) else some (.brk (q0,q1,q2))
def FI (m:Nat) (p0:List aQ) (p1:aQ→Option Bool):Option ((List aQ)):=
 (FG m p0 p1).bind λy3=>if (y3==(-1))=true then (some p0) else after (aT (λs=>n9 m p1 s.1 s.2.1 s.2.2) m (p0,y3,IntKind.wrap .i64 (y3+1))) λ⟨r0,r1,r2⟩=>grd (decide (0≤r1) && decide (r1 < (r0.length:Int))) <| grd (decide (0≤r1) && decide (r1≤(r0.length:Int))) <| some (r0.take r1.toNat)
theorem Z7 {w:Nat} {p0:List aQ} {p1:aQ→Option Bool} {o:(List aQ)} (h:aF) {g_p0:cU} (ok_p0:bK g_p0 3 p0.length) (K0:bV h [(fA g_p0 p0)]) {p1F:Nat} {p1C:List AV} (p1B:aN Tryz.prog p1F=true) (p1H:∀x0 o h0,iG h h0→p1 x0=some o→aL Tryz.prog p1F ([.agg (cF x0)]++p1C) h0 (λr h'=>r= .sc (.bool o)∧h'=h0)) (m:FI w p0 p1=some o):
 aL Tryz.prog 130 [aZ g_p0,.fn (.func p1F) p1C] (hp h [(fA g_p0 p0)]) (λr h'=>∃g:cU,bK g 3 o.length∧bV h [(g.t,.obj 99 (fl cF o g.sp))]∧r=aZ g∧h'=hp h [(g.t,.obj 99 (fl cF o g.sp))]):=by
 refine uE K0 42 [.tmp 4] Tryz.func130 rfl rfl rfl rfl ?_
 unfold FI at m
 refine vs (v0 (vs (v0 ?_)))
 obtain⟨_,Y4,m⟩:=aC m
 refine ve λu=>dC ((bE u [0] rfl rfl).1.trans (cW h [(fA g_p0 p0)] []).symm) (cM (ZT (hp h []) ok_p0 (cL [(fA g_p0 p0)] [] (bE u [0] rfl rfl).2).2 p1B (λx0 o h0 hs ho=>p1H x0 o h0 ((aS (List.nil_sublist _) (cL [(fA g_p0 p0)] [] (bE u [0] rfl rfl).2).1).1.trans hs) ho) Y4) rfl ZU rfl ?_)
 rintro x h' ⟨rfl,rfl⟩
 refine qk u ((cW h [(fA g_p0 p0)] []).trans (bE u [0] rfl rfl).1.symm) ?_
 refine vs (vs (v0 (v0 ?_)))
 apply vi m <;> intro c7 m
 refine vs (v0 (v0 ?_))
 obtain rfl:=eE m
 exact vr λu=>dX.one (.inl rfl) (aS (h0:=h) (L':= [(fA g_p0 p0)]) (.refl _) u).1 (bJ.refl _ _) ⟨g_p0,ok_p0,(aS (h0:=h) (L':= [(fA g_p0 p0)]) (.refl _) u).2,rfl,rfl⟩
 refine v0 (vs (vs (v0 ?_)))
 refine nP m (σ:=(List aQ)×Int×Int) (τ:=cU) (λg s=> [(fA g s.1)]) (λg s=>bK g 3 (s.1:List aQ).length) (λg s=>.c 0 (aZ g) (.c 1 (.fn (.func p1F) p1C) (.c 5 (nZ s.2.1) (.c 6 (nZ s.2.2) .nil)))) g_p0 ok_p0 (lx (.k4 .nil)) ?_ ?_
 rintro ag0 ⟨q0,q1,q2⟩ x O0 m
 replace m:n9 w p1 q0 q1 q2=some x:=m
 unfold n9 at m
 refine vs (vs (v0 (bW (dQ nW O0 rfl) (v0 ?_))))
 apply vi m <;> intro c0 m
 refine v0 (vs (v0 (vs (v0 ?_))))
 obtain⟨x1,X0,m⟩:=aC m
 refine bW (cP X0 iE O0 rfl rfl) (vn (λu=>dW (fo:=0) (.agg (cF x1)) X0 fM O0 rH rfl (aI 0 u rfl) (λ_=>rfl)) ?_)
 refine ve λu=>bH ([nZ 0,nZ 0,sZ]) u oL rfl rfl λk86 K1=>qk K1 rfl ?_
 refine ve λu=>aK 0 (cF x1) u rfl rfl rfl rfl yB rfl rfl λK2=>qk K2 rfl ?_
 refine vs (v0 (vl 0 (.agg (cF x1)) rH rfl rfl rfl ?_))
 obtain⟨_,Y0,m⟩:=aC m
 refine vn (λu=>cC (p1H _ _ _ (aS (List.nil_sublist _) u).1 Y0) rfl p1B rfl) ?_
 refine pJ m (σ:=(List aQ)×Int) (τ:=cU) (λg s=> [(some k86,.obj 99 (cF x1)),(fA g s.1)]) (λg s=>bK g 3 (s.1:List aQ).length) (λg s=>.c 0 (aZ g) (.c 1 (.fn (.func p1F) p1C) (.c 5 (nZ s.2) (.c 6 (nZ q2) .nil)))) (λx m=> ?_) ?_
 refine v0 ?_
 apply vi m <;> intro c1 m
 refine vs (v0 (vl 0 (.agg (cF x1)) rH rfl rfl rfl ?_))
 obtain⟨_,X1,m⟩:=aC m
 refine bW (cP X1 iE O0 rfl rfl) ?_
 refine ve λu=>cK (fo:=0) (x1:aQ) 1 u X1 fM O0 rfl rfl rfl rfl (cX.refl _ _) yB rfl rfl λK3=>qk K3 rfl ?_
 refine v0 ?_
 exact eW m ag0 (bK.set O0) (lx (.k4 .nil))
 refine v0 ?_
 exact eW m ag0 O0 (lx (.k4 .nil))
 rintro ag1 ⟨j0,j1⟩ O1 m
 refine v0 ?_
 exact eW m ag1 O1 (lJ [1] rfl rfl (.k4 .nil))
 refine v0 ?_
 exact lK m ag0 O0 (lx (.k4 .nil))
 rintro ag2 ⟨r0,r1,r2⟩ t0 m
 refine vs (v0 ?_)
 obtain⟨Z0,m⟩:=m0 m
 refine bW (CL Z0 iE t0 rfl rfl) ?_
 refine ve λu=>BA 0 u Z0 fM t0 u27 oL rfl rfl rfl rfl λsp0 O2 K4=>qk K4 rfl ?_
 refine vs (v0 ?_)
 obtain⟨Z1,m⟩:=m0 m
 refine bW (CM Z1 t0 iE rfl rfl) (v0 ?_)
 cases m
 exact vr λu=>dX.one (.inl rfl) (aS (h0:=h) (L':= [((⟨ag2.t,r1.toNat,ag2.cap,sp0⟩:cU).t,.obj 99 (fl cF (r0.take r1.toNat:List aQ) (⟨ag2.t,r1.toNat,ag2.cap,sp0⟩:cU).sp))]) (.refl _) u).1 (bJ.refl _ _) ⟨(⟨ag2.t,r1.toNat,ag2.cap,sp0⟩:cU),O2,(aS (h0:=h) (L':= [((⟨ag2.t,r1.toNat,ag2.cap,sp0⟩:cU).t,.obj 99 (fl cF (r0.take r1.toNat:List aQ) (⟨ag2.t,r1.toNat,ag2.cap,sp0⟩:cU).sp))]) (.refl _) u).2,rfl,rfl⟩
theorem Z8:aN Tryz.prog 130=true:=by kernel_rfl
def zG (m:Nat) (p0:aA) (p1:aR) (q0:List aH) (q1:Int):Option (Lp ((List aH)×Int) (Int×fD)):=
 if (decide (q1 < (p0.Snaps.length:Int)))=true then ((ix q0 q1).bind λx0=>(zD m x0.Locs p1).bind λy0=>(ix q0 q1).bind λx1=>some (.go (q0.set q1.toNat ({ x1 with Locs:=y0}),IntKind.wrap .i64 (q1+1)))) else some (.brk (q0,q1))
def zH (m:Nat) (p0:aA) (p1:aR) (q0:List aB) (q1:Int):Option (Lp ((List aB)×Int) (Int×fD)):=
 if (decide (q1 < (p0.Chunks.length:Int)))=true then ((ix q0 q1).bind λx0=>(zD m x0.Locs p1).bind λy0=>(ix q0 q1).bind λx1=>some (.go (q0.set q1.toNat ({ x1 with Locs:=y0}),IntKind.wrap .i64 (q1+1)))) else some (.brk (q0,q1))
def zJ (m:Nat) (p0:aA) (p1:aR) (q0:List aQ) (q1:Int):Option (Lp ((List aQ)×Int) (Int×fD)):=
 if (decide (q1 < (p0.Exps.length:Int)))=true then ((ix q0 q1).bind λx0=>(zD m x0.Locs p1).bind λy0=>(ix q0 q1).bind λx1=>some (.go (q0.set q1.toNat ({ x1 with Locs:=y0}),IntKind.wrap .i64 (q1+1)))) else some (.brk (q0,q1))
def VZ (m:Nat) (p0:aA) (p1:aR):Option (Int×fD):=
 after (if (decide (p1.Vol < 0))=true then (some (.brk true)) else if (decide ((p0.Vols.length:Int)≤p1.Vol))=true then (some (.brk true)) else (ix p0.Vols p1.Vol).bind λx1=>some (.brk (x1.State !=2)):Option (Lp (Bool) (Int×fD))) λj0=>if j0=true then (some (1,p0.Snaps,p0.Chunks,p0.Exps,p0.Vols)) else (ix p0.Vols p1.Vol).bind λx2=>(ix (p0.Vols.set p1.Vol.toNat ({ x2 with State:=3})) p1.Vol).bind λx3=>after (aT (λs=>zG m p0 p1 s.1 s.2) m (p0.Snaps,0)) λ⟨r0,r1⟩=>after (aT (λs=>zH m p0 p1 s.1 s.2) m (p0.Chunks,0)) λ⟨r2,r3⟩=>after (aT (λs=>zJ m p0 p1 s.1 s.2) m (p0.Exps,0)) λ⟨r4,r5⟩=>(FH m r2 (λx0=>NJ m x0)).bind λy0=>(FI m r4 (λx0=>QW m x0)).bind λy1=>some (0,r0,y0,y1,(p0.Vols.set p1.Vol.toNat ({ x2 with State:=3})).set p1.Vol.toNat ({ x3 with Files:=0}))
theorem W75 {w:Nat} {p0:aA} {p1:aR} {o:Int×fD} (h:aF) {p0K:cE} {gS:dH} (ok_Snaps:mD aH.Locs 4 4 gS (p0.Snaps:List aH)) {gC:dH} (oC:mD aB.Locs 35 4 gC (p0.Chunks:List aB)) {gE:dH} (oE:mD aQ.Locs 3 4 gE (p0.Exps:List aQ)) {gV:cU} (oV:bK gV 4 p0.Vols.length) (K0:bV h ([OC p0K p0.Seq gS.a gC.a gE.a gV,bM gS p0.Snaps,aW gC p0.Chunks,bR gE p0.Exps,aM gV p0.Vols]++((bQ gS p0.Snaps)++((a9 gC p0.Chunks)++(bS gE p0.Exps))))) (m:VZ w p0 p1=some o):
 aL Tryz.prog 75 [.ptr p0K 0,.agg (aD p1)] (hp h ([OC p0K p0.Seq gS.a gC.a gE.a gV,bM gS p0.Snaps,aW gC p0.Chunks,bR gE p0.Exps,aM gV p0.Vols]++((bQ gS p0.Snaps)++((a9 gC p0.Chunks)++(bS gE p0.Exps))))) (λr h'=>∃g_Snaps':cU,bK g_Snaps' 4 (o.2.1:List aH).length∧∃g_Chunks':cU,bK g_Chunks' 35 (o.2.2.1:List aB).length∧∃g_Exps':cU,bK g_Exps' 3 (o.2.2.2.1:List aQ).length∧∃g_Vols':cU,bK g_Vols' 4 (o.2.2.2.2:List aP).length∧bV h [OC p0K p0.Seq g_Snaps' g_Chunks' g_Exps' g_Vols',bF g_Snaps' o.2.1,aV g_Chunks' o.2.2.1,bX g_Exps' o.2.2.2.1,aM g_Vols' o.2.2.2.2]∧r=nZ o.1∧h'=hp h [OC p0K p0.Seq g_Snaps' g_Chunks' g_Exps' g_Vols',bF g_Snaps' o.2.1,aV g_Chunks' o.2.2.1,bX g_Exps' o.2.2.2.1,aM g_Vols' o.2.2.2.2]):=by
 refine uE K0 145 [.tmp 4] Tryz.func75 rfl rfl rfl rfl ?_
 unfold VZ at m
 refine vs (v0 ?_)
 refine gO rfl rfl λk2 K3=> ?_
 refine vs (vs ?_)
 refine fL m (σ:=Bool) (λs=>([(some k2,.obj 62 (aD p1)),OC p0K p0.Seq gS.a gC.a gE.a gV,bM gS p0.Snaps,aW gC p0.Chunks,bR gE p0.Exps,aM gV p0.Vols]++((bQ gS p0.Snaps)++((a9 gC p0.Chunks)++(bS gE p0.Exps))))) (λs=>.c 0 (.ptr p0K 0) (.c 3 (.ptr k2 0) (.c 33 (.sc (.bool s)) .nil))) (λx m=> ?_) ?_
 refine v0 (wU (by kernel_rfl) (dN fG rfl rfl (vl 0 _ bZ rfl rfl rfl ?_)))
 apply vi m <;> intro b0 m
 rw[b0]
 exact gK m
 rw[b0]
 refine dN fG rfl rfl (vl 0 _ bZ rfl rfl rfl (jM rfl (dN fP rfl rfl (vl 1 (aZ gV) iP rfl rfl rfl (bW (dQ rE oV rfl) ?_)))))
 apply vi m <;> intro b1 m
 rw[b1]
 exact gK m
 rw[b1]
 refine jM rfl (dN fP rfl rfl (vl 1 (aZ gV) iP rfl rfl rfl (dN fG rfl rfl (vl 0 _ bZ rfl rfl rfl ?_))))
 obtain⟨x1,X0,m⟩:=aC m
 refine bW (cP X0 lQ oV rfl rfl) (bW (cV (bK.ne oV X0) m5 rfl rfl) (vn (λu=>dW (fo:=2) (nZ x1.State) X0 eA oV bZ rfl (aI 5 u rfl) (λ_=>rfl)) ?_))
 exact gK m
 rintro _ j0 m
 refine v0 ?_
 apply vi m <;> intro c0 m
 refine vs (v0 (v0 ?_))
 cases m
 refine C3 (D2 (L':=([(some k2,.obj 62 (aD p1)),OC p0K p0.Seq gS.a gC.a gE.a gV,bF gS.a p0.Snaps,aW gC p0.Chunks,bR gE p0.Exps,aM gV p0.Vols]++((a9 gC p0.Chunks)++(bS gE p0.Exps)))) [[_], [_], [_], [_], [_], [_],_,_,_] rfl 2 6 eQ qJ ok_Snaps.k rfl rfl (by decide) rfl) ?_
 refine C3 (D2 (L':=([(some k2,.obj 62 (aD p1)),OC p0K p0.Seq gS.a gC.a gE.a gV,bF gS.a p0.Snaps,aV gC.a p0.Chunks,bR gE p0.Exps,aM gV p0.Vols]++(bS gE p0.Exps))) [[_], [_], [_], [_], [_], [_],_,_] rfl 3 6 eQ n6 oC.k rfl rfl (by decide) rfl) ?_
 refine C3 (D2 (L':= [(some k2,.obj 62 (aD p1)),OC p0K p0.Seq gS.a gC.a gE.a gV,bF gS.a p0.Snaps,aV gC.a p0.Chunks,bX gE.a p0.Exps,aM gV p0.Vols]) [[_], [_], [_], [_], [_], [_],_] rfl 4 6 eQ vN oE.k rfl rfl (by decide) rfl) ?_
 exact vr λu=>dX.of1 (.inl rfl) (fT _ _ (.sc (.int _ _)) rfl) (bI u [1,2,3,4,5] rfl).2 (bJ.refl _ _) ⟨gS.a,ok_Snaps.k.a,gC.a,oC.k.a,gE.a,oE.k.a,gV,oV,(bI u [1,2,3,4,5] rfl).1,rfl,rfl⟩
 refine v0 (vs (v0 ?_))
 refine vz [(1000000,some p0K,.obj 30 ([nZ p0.Seq,aZ gS.a,aZ gC.a,aZ gE.a,aZ gV])),(1000000,some k2,.obj 62 (aD p1))] mixed (λu=>⟨λ_=>aI 1 u rfl,λ_=>aI 0 u rfl,trivial⟩) λu=> ?_
 refine zP 0 rfl rfl ?_
 refine zN 1 rfl rfl ?_
 refine zF 2 rfl fP rfl ?_
 refine zL 3 0 (aZ gV) rfl iP rfl rfl rfl ?_
 refine zF 4 rfl fG rfl ?_
 refine zL 5 1 (nZ p1.Vol) rfl bZ rfl rfl rfl ?_
 refine zP 6 rfl rfl ?_
 refine zN 7 rfl rfl ?_
 refine zF 8 rfl fP rfl ?_
 refine zL 9 0 (aZ gV) rfl iP rfl rfl rfl ?_
 refine zF 10 rfl fG rfl ?_
 refine zL 11 1 (nZ p1.Vol) rfl bZ rfl rfl rfl ?_
 obtain⟨x2,X1,m⟩:=aC m
 refine zC 12 rfl (cP X1 lQ oV rfl rfl) ?_
 refine zC 13 rfl (cV (bK.ne oV X1) m5 rfl rfl) ?_
 refine zE 14 rfl (cK (fo:=2) ({ x2 with State:=3}:aP) 5 u X1 eA oV rfl rfl rfl rfl (cX.refl _ _) AA rfl rfl λK1=>⟨⟨λ_=>aI 1 K1 rfl,λ_=>aI 0 K1 rfl,trivial⟩, ?_⟩)
 obtain⟨x3,X2,m⟩:=aC m
 refine zC 15 rfl (cP X2 lQ (bK.set oV) rfl rfl) ?_
 refine zC 16 rfl (cV (bK.ne (bK.set oV) X2) pS rfl rfl) ?_
 refine zE 17 rfl (cK (fo:=3) ({ x3 with Files:=0}:aP) 5 K1 X2 eA (bK.set oV) rfl rfl rfl rfl (cX.refl _ _) AA rfl rfl λK2=>⟨⟨λ_=>aI 1 K2 rfl,λ_=>aI 0 K2 rfl,trivial⟩, ?_⟩)
 refine zX (qk (f:=TE 49 _ _ _ _ _ _ _ _ _ _ _ _ _ _ _ _ _) K2 rfl ?_)
 refine vs (v0 (vs (vs (v0 (jM rfl (dN dV rfl rfl (vl 1 (aZ gS.a) fC rfl rfl rfl (bW (dQ jQ ok_Snaps.k.a rfl) ?_))))))))
 refine nP m (σ:=(List aH)×Int) (τ:=dH) (λg s=>([(some k2,.obj 62 (aD p1)),OC p0K p0.Seq g.a gC.a gE.a gV,bM g s.1,aW gC p0.Chunks,bR gE p0.Exps,aM gV ((p0.Vols.set p1.Vol.toNat ({ x2 with State:=3})).set p1.Vol.toNat ({ x3 with Files:=0}))]++((bQ g s.1)++((a9 gC p0.Chunks)++(bS gE p0.Exps))))) (λg s=>mD aH.Locs 4 4 g (s.1:List aH)) (λg s=>.c 0 (.ptr p0K 0) (.c 5 (.fn (.func 126) [.ptr k2 0]) (.c 55 (nZ (p0.Snaps.length:Int)) (.c 56 (nZ s.2) .nil)))) gS ok_Snaps (lx (.k4 .nil)) ?_ ?_
 rintro ng0 ⟨q0,q1⟩ x O0 m
 replace m:zG w p0 p1 q0 q1=some x:=m
 unfold zG at m
 refine vs (v0 (vs (v0 ?_)))
 apply vi m <;> intro c1 m
 refine v0 (vs (v0 (vs (v0 (v0 ?_)))))
 refine vz [(1000000,some p0K,.obj 30 ([nZ p0.Seq,aZ ng0.a,aZ gC.a,aZ gE.a,aZ gV])),(17,ng0.a.t,.obj 60 (fl kO (zg (q0:List aH) ng0.gs) ng0.a.sp))] mixed (λu=>⟨λ_=>aI 1 u rfl,λ_=>aI 2 u rfl,trivial⟩) λu=> ?_
 refine zP 0 rfl rfl ?_
 refine zN 1 rfl rfl ?_
 refine zF 2 rfl dV rfl ?_
 refine zL 3 0 (aZ ng0.a) rfl fC rfl rfl rfl ?_
 refine zI 4 rfl rfl ?_
 refine zC 5 rfl (eS (.fn _ _) rfl) ?_
 refine zP 6 rfl rfl ?_
 refine zN 7 rfl rfl ?_
 refine zF 8 rfl dV rfl ?_
 refine zL 9 0 (aZ ng0.a) rfl fC rfl rfl rfl ?_
 refine zI 10 rfl rfl ?_
 obtain⟨x4,X3,m⟩:=aC m
 refine zC 11 rfl (cP (O0.k.ix X3) iJ O0.k.z rfl rfl) ?_
 refine zC 12 rfl (cV (bK.ne O0.k.z (O0.k.ix X3)) jS rfl rfl) ?_
 obtain⟨gv0,hg0,ga0,gn0⟩:=O0.gx X3
 refine wJ 13 rfl (λ_ _ hi hB=>fB (dW (fo:=3) (awO aO 4 (gx ng0.gs q1.toNat) x4.Locs) (O0.k.ix X3) kP O0.k.z eZ rfl (fV.get 1 hi rfl (hB 17 (by kernel_rfl))) (λ_=>rfl)) (bJ.of_eq (congrArg (λz=>awO aO 4 z x4.Locs) hg0))) ?_
 obtain⟨y0,Y0,m⟩:=aC m
 refine zE 14 rfl ?_
 have ho0:=qI (R:=([(some k2,.obj 62 (aD p1)),OC p0K p0.Seq ng0.a gC.a gE.a gV,bM ng0 q0,aW gC p0.Chunks,bR gE p0.Exps,aM gV ((p0.Vols.set p1.Vol.toNat ({ x2 with State:=3})).set p1.Vol.toNat ({ x3 with Files:=0}))]++((kK 81 aO ((nl aH.Locs (zg (q0:List aH) ng0.gs)).eraseIdx q1.toNat))++((a9 gC p0.Chunks)++(bS gE p0.Exps))))) u [[_], [_], [_], [_], [_], [_],_,_,_] rfl 6 rfl gn0 rfl
 have ho1:=cL [(eG gv0 x4.Locs)] _ ho0.2
 refine dC (ho0.1.trans (cW h [(eG gv0 x4.Locs)] _).symm) (cM (NH _ ga0 ho1.2 (bC 0 ho1.1 rfl) Y0) rfl NI rfl ?_)
 rintro x h' ⟨ag0,O1,K4,rfl,rfl⟩
 refine kT (cW h [fH ag0 y0] _) ?_
 refine⟨⟨λ_=>aI 2 (dI ho1.1 K4) rfl,λ_=>aI 3 (dI ho1.1 K4) rfl,trivial⟩, ?_⟩
 obtain⟨x5,X4,m⟩:=aC m
 refine zC 15 rfl (cP (O0.k.ix X4) iJ O0.k.z rfl rfl) ?_
 refine zC 16 rfl (cV (bK.ne O0.k.z (O0.k.ix X4)) jS rfl rfl) ?_
 refine zE 17 rfl (cK (fo:=3) (x':=(({ x5 with Locs:=y0}:aH),some ag0)) 3 (dI ho1.1 K4) (O0.k.ix X4) kP O0.k.z rfl rfl (cD rfl) (cG (bY _ _ _) rfl) (cX.refl _ _) nX rfl rfl ?_)
 intro K5
 have O2:=O0.setL (x':=({ x5 with Locs:=y0}:aH)) X4 ag0 O1
 have hr0:=tC (L':=(eG ag0 y0)::(([(some k2,.obj 62 (aD p1)),OC p0K p0.Seq ng0.a gC.a gE.a gV,(ng0.a.t,.obj 60 (fl kO (((zg (q0:List aH) ng0.gs)).set q1.toNat (({ x5 with Locs:=y0}:aH),some ag0)) ng0.a.sp)),aW gC p0.Chunks,bR gE p0.Exps,aM gV ((p0.Vols.set p1.Vol.toNat ({ x2 with State:=3})).set p1.Vol.toNat ({ x3 with Files:=0}))]:HL)++((kK 81 aO ((nl aH.Locs (zg (q0:List aH) ng0.gs)).eraseIdx q1.toNat))++((a9 gC p0.Chunks)++(bS gE p0.Exps))))) K5 [[_], [_], [_], [_], [_], [_], [_],_,_,_] rfl [0,1,2,3,4,5,6,7,8,9] rfl rfl
 have hj0:=oW (L':=([(some k2,.obj 62 (aD p1)),OC p0K p0.Seq ((⟨ng0.a,ng0.gs.set q1.toNat (some ag0)⟩:dH).a) gC.a gE.a gV,bM (⟨ng0.a,ng0.gs.set q1.toNat (some ag0)⟩:dH) (q0.set q1.toNat ({ x5 with Locs:=y0})),aW gC p0.Chunks,bR gE p0.Exps,aM gV ((p0.Vols.set p1.Vol.toNat ({ x2 with State:=3})).set p1.Vol.toNat ({ x3 with Files:=0}))]++((bQ (⟨ng0.a,ng0.gs.set q1.toNat (some ag0)⟩:dH) (q0.set q1.toNat ({ x5 with Locs:=y0})))++((a9 gC p0.Chunks)++(bS gE p0.Exps))))) [[_], [_], [_], [_], [_], [_],_,_,_] rfl 6 (zs:=nl aH.Locs (zg (q0:List aH) ng0.gs)) (j:=q1.toNat) (aH.Locs ({ x5 with Locs:=y0}:aH),some ag0) (jO (O0.k.nlat X4)) rfl hr0.2 (by rw[← (O0.k.setL (x':=({ x5 with Locs:=y0}:aH)) X4 ag0 O1).2.2,(O0.k.setL (x':=({ x5 with Locs:=y0}:aH)) X4 ag0 O1).2.1]; rfl)
 refine kT (hr0.1.trans hj0.1) ?_
 refine⟨⟨λ_=>aI 1 hj0.2 rfl,λe=>absurd e (by decide),trivial⟩, ?_⟩
 refine zX (qk (f:=wK 75 _ _ _ _ _ _ _ _ _ _ _ _ _ _ _ _ _ _) hj0.2 rfl ?_)
 refine v0 ?_
 exact eW m (⟨ng0.a,ng0.gs.set q1.toNat (some ag0)⟩:dH) O2 (lx (.k4 .nil))
 refine v0 ?_
 exact lK m ng0 O0 (lx (.k4 .nil))
 rintro ng1 ⟨r0,r1⟩ t0 m
 refine vs (vs (v0 (jM rfl (dN dY rfl rfl (vl 1 (aZ gC.a) eU rfl rfl rfl (bW (dQ iX oC.k.a rfl) ?_))))))
 refine nP m (σ:=(List aB)×Int) (τ:=dH) (λg s=>([(some k2,.obj 62 (aD p1)),OC p0K p0.Seq ng1.a g.a gE.a gV,bM ng1 r0,aW g s.1,bR gE p0.Exps,aM gV ((p0.Vols.set p1.Vol.toNat ({ x2 with State:=3})).set p1.Vol.toNat ({ x3 with Files:=0}))]++((bQ ng1 r0)++((a9 g s.1)++(bS gE p0.Exps))))) (λg s=>mD aB.Locs 35 4 g (s.1:List aB)) (λg s=>.c 0 (.ptr p0K 0) (.c 5 (.fn (.func 126) [.ptr k2 0]) (.c 81 (nZ (p0.Chunks.length:Int)) (.c 82 (nZ s.2) .nil)))) gC oC (lx (.k4 .nil)) ?_ ?_
 rintro ng2 ⟨q2,q3⟩ x O3 m
 replace m:zH w p0 p1 q2 q3=some x:=m
 unfold zH at m
 refine vs (v0 (vs (v0 ?_)))
 apply vi m <;> intro c2 m
 refine v0 (vs (v0 (vs (v0 (v0 ?_)))))
 refine vz [(1000000,some p0K,.obj 30 ([nZ p0.Seq,aZ ng1.a,aZ ng2.a,aZ gE.a,aZ gV])),(17,ng2.a.t,.obj 44 (fl jK (zg (q2:List aB) ng2.gs) ng2.a.sp))] mixed (λu=>⟨λ_=>aI 1 u rfl,λ_=>aI 3 u rfl,trivial⟩) λu=> ?_
 refine zP 0 rfl rfl ?_
 refine zN 1 rfl rfl ?_
 refine zF 2 rfl dY rfl ?_
 refine zL 3 0 (aZ ng2.a) rfl eU rfl rfl rfl ?_
 refine zI 4 rfl rfl ?_
 refine zC 5 rfl (eS (.fn _ _) rfl) ?_
 refine zP 6 rfl rfl ?_
 refine zN 7 rfl rfl ?_
 refine zF 8 rfl dY rfl ?_
 refine zL 9 0 (aZ ng2.a) rfl eU rfl rfl rfl ?_
 refine zI 10 rfl rfl ?_
 obtain⟨x6,X5,m⟩:=aC m
 refine zC 11 rfl (cP (O3.k.ix X5) fJ O3.k.z rfl rfl) ?_
 refine zC 12 rfl (cV (bK.ne O3.k.z (O3.k.ix X5)) iY rfl rfl) ?_
 obtain⟨gv1,hg1,ga1,gn1⟩:=O3.gx X5
 refine wJ 13 rfl (λ_ _ hi hB=>fB (dW (fo:=34) (awO aO 4 (gx ng2.gs q3.toNat) x6.Locs) (O3.k.ix X5) iS O3.k.z eZ rfl (fV.get 1 hi rfl (hB 17 (by kernel_rfl))) (λ_=>rfl)) (bJ.of_eq (congrArg (λz=>awO aO 4 z x6.Locs) hg1))) ?_
 obtain⟨y1,Y1,m⟩:=aC m
 refine zE 14 rfl ?_
 have ho2:=qI (R:=([(some k2,.obj 62 (aD p1)),OC p0K p0.Seq ng1.a ng2.a gE.a gV,bM ng1 r0,aW ng2 q2,bR gE p0.Exps,aM gV ((p0.Vols.set p1.Vol.toNat ({ x2 with State:=3})).set p1.Vol.toNat ({ x3 with Files:=0}))]++((bQ ng1 r0)++((kK 81 aO ((nl aB.Locs (zg (q2:List aB) ng2.gs)).eraseIdx q3.toNat))++(bS gE p0.Exps))))) u [[_], [_], [_], [_], [_], [_],_,_,_] rfl 7 rfl gn1 rfl
 have ho3:=cL [(eG gv1 x6.Locs)] _ ho2.2
 refine dC (ho2.1.trans (cW h [(eG gv1 x6.Locs)] _).symm) (cM (NH _ ga1 ho3.2 (bC 0 ho3.1 rfl) Y1) rfl NI rfl ?_)
 rintro x h' ⟨ag1,O4,K6,rfl,rfl⟩
 refine kT (cW h [fH ag1 y1] _) ?_
 refine⟨⟨λ_=>aI 2 (dI ho3.1 K6) rfl,λ_=>aI 4 (dI ho3.1 K6) rfl,trivial⟩, ?_⟩
 obtain⟨x7,X6,m⟩:=aC m
 refine zC 15 rfl (cP (O3.k.ix X6) fJ O3.k.z rfl rfl) ?_
 refine zC 16 rfl (cV (bK.ne O3.k.z (O3.k.ix X6)) iY rfl rfl) ?_
 refine zE 17 rfl (cK (fo:=34) (x':=(({ x7 with Locs:=y1}:aB),some ag1)) 4 (dI ho3.1 K6) (O3.k.ix X6) iS O3.k.z rfl rfl (cD rfl) (cG (bY _ _ _) rfl) (cX.refl _ _) nX rfl rfl ?_)
 intro K7
 have O5:=O3.setL (x':=({ x7 with Locs:=y1}:aB)) X6 ag1 O4
 have hr1:=tC (L':=(eG ag1 y1)::(([(some k2,.obj 62 (aD p1)),OC p0K p0.Seq ng1.a ng2.a gE.a gV,bM ng1 r0,(ng2.a.t,.obj 44 (fl jK (((zg (q2:List aB) ng2.gs)).set q3.toNat (({ x7 with Locs:=y1}:aB),some ag1)) ng2.a.sp)),bR gE p0.Exps,aM gV ((p0.Vols.set p1.Vol.toNat ({ x2 with State:=3})).set p1.Vol.toNat ({ x3 with Files:=0}))]:HL)++((bQ ng1 r0)++((kK 81 aO ((nl aB.Locs (zg (q2:List aB) ng2.gs)).eraseIdx q3.toNat))++(bS gE p0.Exps))))) K7 [[_], [_], [_], [_], [_], [_], [_],_,_,_] rfl [0,1,2,3,4,5,6,7,8,9] rfl rfl
 have hj1:=oW (L':=([(some k2,.obj 62 (aD p1)),OC p0K p0.Seq ng1.a ((⟨ng2.a,ng2.gs.set q3.toNat (some ag1)⟩:dH).a) gE.a gV,bM ng1 r0,aW (⟨ng2.a,ng2.gs.set q3.toNat (some ag1)⟩:dH) (q2.set q3.toNat ({ x7 with Locs:=y1})),bR gE p0.Exps,aM gV ((p0.Vols.set p1.Vol.toNat ({ x2 with State:=3})).set p1.Vol.toNat ({ x3 with Files:=0}))]++((bQ ng1 r0)++((a9 (⟨ng2.a,ng2.gs.set q3.toNat (some ag1)⟩:dH) (q2.set q3.toNat ({ x7 with Locs:=y1})))++(bS gE p0.Exps))))) [[_], [_], [_], [_], [_], [_],_,_,_] rfl 7 (zs:=nl aB.Locs (zg (q2:List aB) ng2.gs)) (j:=q3.toNat) (aB.Locs ({ x7 with Locs:=y1}:aB),some ag1) (jO (O3.k.nlat X6)) rfl hr1.2 (by rw[← (O3.k.setL (x':=({ x7 with Locs:=y1}:aB)) X6 ag1 O4).2.2,(O3.k.setL (x':=({ x7 with Locs:=y1}:aB)) X6 ag1 O4).2.1]; rfl)
 refine kT (hr1.1.trans hj1.1) ?_
 refine⟨⟨λ_=>aI 1 hj1.2 rfl,λe=>absurd e (by decide),trivial⟩, ?_⟩
 refine zX (qk (f:=wK 101 _ _ _ _ _ _ _ _ _ _ _ _ _ _ _ _ _ _) hj1.2 rfl ?_)
 refine v0 ?_
 exact eW m (⟨ng2.a,ng2.gs.set q3.toNat (some ag1)⟩:dH) O5 (lx (.k4 .nil))
 refine v0 ?_
 exact lK m ng2 O3 (lx (.k4 .nil))
 rintro ng3 ⟨r2,r3⟩ t1 m
 refine vs (vs (v0 (jM rfl (dN eR rfl rfl (vl 1 (aZ gE.a) iF rfl rfl rfl (bW (dQ nW oE.k.a rfl) ?_))))))
 refine nP m (σ:=(List aQ)×Int) (τ:=dH) (λg s=>([(some k2,.obj 62 (aD p1)),OC p0K p0.Seq ng1.a ng3.a g.a gV,bM ng1 r0,aW ng3 r2,bR g s.1,aM gV ((p0.Vols.set p1.Vol.toNat ({ x2 with State:=3})).set p1.Vol.toNat ({ x3 with Files:=0}))]++((bQ ng1 r0)++((a9 ng3 r2)++(bS g s.1))))) (λg s=>mD aQ.Locs 3 4 g (s.1:List aQ)) (λg s=>.c 0 (.ptr p0K 0) (.c 5 (.fn (.func 126) [.ptr k2 0]) (.c 107 (nZ (p0.Exps.length:Int)) (.c 108 (nZ s.2) .nil)))) gE oE (lx (.k4 .nil)) ?_ ?_
 rintro ng4 ⟨q4,q5⟩ x O6 m
 replace m:zJ w p0 p1 q4 q5=some x:=m
 unfold zJ at m
 refine vs (v0 (vs (v0 ?_)))
 apply vi m <;> intro c3 m
 refine v0 (vs (v0 (vs (v0 (v0 ?_)))))
 refine vz [(1000000,some p0K,.obj 30 ([nZ p0.Seq,aZ ng1.a,aZ ng3.a,aZ ng4.a,aZ gV])),(17,ng4.a.t,.obj 99 (fl lG (zg (q4:List aQ) ng4.gs) ng4.a.sp))] mixed (λu=>⟨λ_=>aI 1 u rfl,λ_=>aI 4 u rfl,trivial⟩) λu=> ?_
 refine zP 0 rfl rfl ?_
 refine zN 1 rfl rfl ?_
 refine zF 2 rfl eR rfl ?_
 refine zL 3 0 (aZ ng4.a) rfl iF rfl rfl rfl ?_
 refine zI 4 rfl rfl ?_
 refine zC 5 rfl (eS (.fn _ _) rfl) ?_
 refine zP 6 rfl rfl ?_
 refine zN 7 rfl rfl ?_
 refine zF 8 rfl eR rfl ?_
 refine zL 9 0 (aZ ng4.a) rfl iF rfl rfl rfl ?_
 refine zI 10 rfl rfl ?_
 obtain⟨x8,X7,m⟩:=aC m
 refine zC 11 rfl (cP (O6.k.ix X7) iE O6.k.z rfl rfl) ?_
 refine zC 12 rfl (cV (bK.ne O6.k.z (O6.k.ix X7)) lD rfl rfl) ?_
 obtain⟨gv2,hg2,ga2,gn2⟩:=O6.gx X7
 refine wJ 13 rfl (λ_ _ hi hB=>fB (dW (fo:=2) (awO aO 4 (gx ng4.gs q5.toNat) x8.Locs) (O6.k.ix X7) oY O6.k.z eZ rfl (fV.get 1 hi rfl (hB 17 (by kernel_rfl))) (λ_=>rfl)) (bJ.of_eq (congrArg (λz=>awO aO 4 z x8.Locs) hg2))) ?_
 obtain⟨y2,Y2,m⟩:=aC m
 refine zE 14 rfl ?_
 have ho4:=qI (R:=([(some k2,.obj 62 (aD p1)),OC p0K p0.Seq ng1.a ng3.a ng4.a gV,bM ng1 r0,aW ng3 r2,bR ng4 q4,aM gV ((p0.Vols.set p1.Vol.toNat ({ x2 with State:=3})).set p1.Vol.toNat ({ x3 with Files:=0}))]++((bQ ng1 r0)++((a9 ng3 r2)++(kK 81 aO ((nl aQ.Locs (zg (q4:List aQ) ng4.gs)).eraseIdx q5.toNat)))))) u [[_], [_], [_], [_], [_], [_],_,_,_] rfl 8 rfl gn2 rfl
 have ho5:=cL [(eG gv2 x8.Locs)] _ ho4.2
 refine dC (ho4.1.trans (cW h [(eG gv2 x8.Locs)] _).symm) (cM (NH _ ga2 ho5.2 (bC 0 ho5.1 rfl) Y2) rfl NI rfl ?_)
 rintro x h' ⟨ag2,O7,K8,rfl,rfl⟩
 refine kT (cW h [fH ag2 y2] _) ?_
 refine⟨⟨λ_=>aI 2 (dI ho5.1 K8) rfl,λ_=>aI 5 (dI ho5.1 K8) rfl,trivial⟩, ?_⟩
 obtain⟨x9,X8,m⟩:=aC m
 refine zC 15 rfl (cP (O6.k.ix X8) iE O6.k.z rfl rfl) ?_
 refine zC 16 rfl (cV (bK.ne O6.k.z (O6.k.ix X8)) lD rfl rfl) ?_
 refine zE 17 rfl (cK (fo:=2) (x':=(({ x9 with Locs:=y2}:aQ),some ag2)) 5 (dI ho5.1 K8) (O6.k.ix X8) oY O6.k.z rfl rfl (cD rfl) (cG (bY _ _ _) rfl) (cX.refl _ _) nX rfl rfl ?_)
 intro K9
 have O8:=O6.setL (x':=({ x9 with Locs:=y2}:aQ)) X8 ag2 O7
 have hr2:=tC (L':=(eG ag2 y2)::(([(some k2,.obj 62 (aD p1)),OC p0K p0.Seq ng1.a ng3.a ng4.a gV,bM ng1 r0,aW ng3 r2,(ng4.a.t,.obj 99 (fl lG (((zg (q4:List aQ) ng4.gs)).set q5.toNat (({ x9 with Locs:=y2}:aQ),some ag2)) ng4.a.sp)),aM gV ((p0.Vols.set p1.Vol.toNat ({ x2 with State:=3})).set p1.Vol.toNat ({ x3 with Files:=0}))]:HL)++((bQ ng1 r0)++((a9 ng3 r2)++(kK 81 aO ((nl aQ.Locs (zg (q4:List aQ) ng4.gs)).eraseIdx q5.toNat)))))) K9 [[_], [_], [_], [_], [_], [_], [_],_,_,_] rfl [0,1,2,3,4,5,6,7,8,9] rfl rfl
 have hj2:=oW (L':=([(some k2,.obj 62 (aD p1)),OC p0K p0.Seq ng1.a ng3.a ((⟨ng4.a,ng4.gs.set q5.toNat (some ag2)⟩:dH).a) gV,bM ng1 r0,aW ng3 r2,bR (⟨ng4.a,ng4.gs.set q5.toNat (some ag2)⟩:dH) (q4.set q5.toNat ({ x9 with Locs:=y2})),aM gV ((p0.Vols.set p1.Vol.toNat ({ x2 with State:=3})).set p1.Vol.toNat ({ x3 with Files:=0}))]++((bQ ng1 r0)++((a9 ng3 r2)++(bS (⟨ng4.a,ng4.gs.set q5.toNat (some ag2)⟩:dH) (q4.set q5.toNat ({ x9 with Locs:=y2}))))))) [[_], [_], [_], [_], [_], [_],_,_,_] rfl 8 (zs:=nl aQ.Locs (zg (q4:List aQ) ng4.gs)) (j:=q5.toNat) (aQ.Locs ({ x9 with Locs:=y2}:aQ),some ag2) (jO (O6.k.nlat X8)) rfl hr2.2 (by rw[← (O6.k.setL (x':=({ x9 with Locs:=y2}:aQ)) X8 ag2 O7).2.2,(O6.k.setL (x':=({ x9 with Locs:=y2}:aQ)) X8 ag2 O7).2.1]; rfl)
 refine kT (hr2.1.trans hj2.1) ?_
 refine⟨⟨λ_=>aI 1 hj2.2 rfl,λe=>absurd e (by decide),trivial⟩, ?_⟩
 refine zX (qk (f:=wK 127 _ _ _ _ _ _ _ _ _ _ _ _ _ _ _ _ _ _) hj2.2 rfl ?_)
 refine v0 ?_
 exact eW m (⟨ng4.a,ng4.gs.set q5.toNat (some ag2)⟩:dH) O8 (lx (.k4 .nil))
 refine v0 ?_
 exact lK m ng4 O6 (lx (.k4 .nil))
 rintro ng5 ⟨r4,r5⟩ t2 m
 refine vs (qC (D2 (L':=([(some k2,.obj 62 (aD p1)),OC p0K p0.Seq ng1.a ng3.a ng5.a gV,bF ng1.a r0,aW ng3 r2,bR ng5 r4,aM gV ((p0.Vols.set p1.Vol.toNat ({ x2 with State:=3})).set p1.Vol.toNat ({ x3 with Files:=0}))]++((a9 ng3 r2)++(bS ng5 r4)))) [[_], [_], [_], [_], [_], [_],_,_,_] rfl 2 6 eQ qJ t0.k rfl rfl (by decide) rfl) (qC (D2 (L':=([(some k2,.obj 62 (aD p1)),OC p0K p0.Seq ng1.a ng3.a ng5.a gV,bF ng1.a r0,aV ng3.a r2,bR ng5 r4,aM gV ((p0.Vols.set p1.Vol.toNat ({ x2 with State:=3})).set p1.Vol.toNat ({ x3 with Files:=0}))]++(bS ng5 r4))) [[_], [_], [_], [_], [_], [_],_,_] rfl 3 6 eQ n6 t1.k rfl rfl (by decide) rfl) (qC (D2 (L':= [(some k2,.obj 62 (aD p1)),OC p0K p0.Seq ng1.a ng3.a ng5.a gV,bF ng1.a r0,aV ng3.a r2,bX ng5.a r4,aM gV ((p0.Vols.set p1.Vol.toNat ({ x2 with State:=3})).set p1.Vol.toNat ({ x3 with Files:=0}))]) [[_], [_], [_], [_], [_], [_],_] rfl 4 6 eQ vN t2.k rfl rfl (by decide) rfl) (v0 (jM rfl (dN dY rfl rfl (vl 1 (aZ ng3.a) eU rfl rfl rfl ?_)))))))
 obtain⟨y3,Y3,m⟩:=aC m
 refine ve λu=>dC ((bE u [3,0,1,2,4,5] rfl rfl).1.trans (cW h [aV ng3.a r2] [(some k2,.obj 62 (aD p1)),OC p0K p0.Seq ng1.a ng3.a ng5.a gV,bF ng1.a r0,bX ng5.a r4,aM gV ((p0.Vols.set p1.Vol.toNat ({ x2 with State:=3})).set p1.Vol.toNat ({ x3 with Files:=0}))]).symm) (cM (ZX (hp h [(some k2,.obj 62 (aD p1)),OC p0K p0.Seq ng1.a ng3.a ng5.a gV,bF ng1.a r0,bX ng5.a r4,aM gV ((p0.Vols.set p1.Vol.toNat ({ x2 with State:=3})).set p1.Vol.toNat ({ x3 with Files:=0}))]) t1.k.a (cL [aV ng3.a r2] [(some k2,.obj 62 (aD p1)),OC p0K p0.Seq ng1.a ng3.a ng5.a gV,bF ng1.a r0,bX ng5.a r4,aM gV ((p0.Vols.set p1.Vol.toNat ({ x2 with State:=3})).set p1.Vol.toNat ({ x3 with Files:=0}))] (bE u [3,0,1,2,4,5] rfl rfl).2).2 ZW (λx0 o h0 hs ho=>aFQ _ ho) Y3) rfl ZY rfl ?_)
 rintro x h' ⟨ag3,O9,K10,rfl,rfl⟩
 have K11:=bE (L':= [(some k2,.obj 62 (aD p1)),(hO p0K p0.Seq ng1.a ng3.a ng5.a gV),bF ng1.a r0,aV ag3 y3,bX ng5.a r4,aM gV ((p0.Vols.set p1.Vol.toNat ({ x2 with State:=3})).set p1.Vol.toNat ({ x3 with Files:=0}))]) (dI (cL [aV ng3.a r2] [(some k2,.obj 62 (aD p1)),OC p0K p0.Seq ng1.a ng3.a ng5.a gV,bF ng1.a r0,bX ng5.a r4,aM gV ((p0.Vols.set p1.Vol.toNat ({ x2 with State:=3})).set p1.Vol.toNat ({ x3 with Files:=0}))] (bE u [3,0,1,2,4,5] rfl rfl).2).1 K10) [1,2,3,0,4,5] rfl rfl
 refine qk K11.2 ((cW h [aV ag3 y3] [(some k2,.obj 62 (aD p1)),OC p0K p0.Seq ng1.a ng3.a ng5.a gV,bF ng1.a r0,bX ng5.a r4,aM gV ((p0.Vols.set p1.Vol.toNat ({ x2 with State:=3})).set p1.Vol.toNat ({ x3 with Files:=0}))]).trans K11.1) ?_
 refine jM rfl (dN dY rfl rfl ?_)
 refine ve λu=>aK 1 ([nZ p0.Seq,aZ ng1.a,aZ ag3,aZ ng5.a,aZ gV]) u rfl rfl (cD rfl) (cG (bY _ _ _) rfl) AD rfl rfl λK12=>qk K12 rfl ?_
 refine vs (v0 (jM rfl (dN eR rfl rfl (vl 1 (aZ ng5.a) iF rfl rfl rfl ?_))))
 obtain⟨y4,Y4,m⟩:=aC m
 refine ve λu=>dC ((bE u [4,0,1,2,3,5] rfl rfl).1.trans (cW h [bX ng5.a r4] [(some k2,.obj 62 (aD p1)),OC p0K p0.Seq ng1.a ag3 ng5.a gV,bF ng1.a r0,aV ag3 y3,aM gV ((p0.Vols.set p1.Vol.toNat ({ x2 with State:=3})).set p1.Vol.toNat ({ x3 with Files:=0}))]).symm) (cM (Z7 (hp h [(some k2,.obj 62 (aD p1)),OC p0K p0.Seq ng1.a ag3 ng5.a gV,bF ng1.a r0,aV ag3 y3,aM gV ((p0.Vols.set p1.Vol.toNat ({ x2 with State:=3})).set p1.Vol.toNat ({ x3 with Files:=0}))]) t2.k.a (cL [bX ng5.a r4] [(some k2,.obj 62 (aD p1)),OC p0K p0.Seq ng1.a ag3 ng5.a gV,bF ng1.a r0,aV ag3 y3,aM gV ((p0.Vols.set p1.Vol.toNat ({ x2 with State:=3})).set p1.Vol.toNat ({ x3 with Files:=0}))] (bE u [4,0,1,2,3,5] rfl rfl).2).2 ZZ (λx0 o h0 hs ho=>aFR _ ho) Y4) rfl Z8 rfl ?_)
 rintro x h' ⟨ag4,O10,K13,rfl,rfl⟩
 have K14:=bE (L':= [(some k2,.obj 62 (aD p1)),(hO p0K p0.Seq ng1.a ag3 ng5.a gV),bF ng1.a r0,aV ag3 y3,bX ag4 y4,aM gV ((p0.Vols.set p1.Vol.toNat ({ x2 with State:=3})).set p1.Vol.toNat ({ x3 with Files:=0}))]) (dI (cL [bX ng5.a r4] [(some k2,.obj 62 (aD p1)),OC p0K p0.Seq ng1.a ag3 ng5.a gV,bF ng1.a r0,aV ag3 y3,aM gV ((p0.Vols.set p1.Vol.toNat ({ x2 with State:=3})).set p1.Vol.toNat ({ x3 with Files:=0}))] (bE u [4,0,1,2,3,5] rfl rfl).2).1 K13) [1,2,3,4,0,5] rfl rfl
 refine qk K14.2 ((cW h [bX ag4 y4] [(some k2,.obj 62 (aD p1)),OC p0K p0.Seq ng1.a ag3 ng5.a gV,bF ng1.a r0,aV ag3 y3,aM gV ((p0.Vols.set p1.Vol.toNat ({ x2 with State:=3})).set p1.Vol.toNat ({ x3 with Files:=0}))]).trans K14.1) ?_
 refine jM rfl (dN eR rfl rfl ?_)
 refine ve λu=>aK 1 ([nZ p0.Seq,aZ ng1.a,aZ ag3,aZ ag4,aZ gV]) u rfl rfl (cD rfl) (cG (bY _ _ _) rfl) JU rfl rfl λK15=>qk K15 rfl ?_
 refine vs (v0 (v0 ?_))
 cases m
 exact vr λu=>dX.of1 (.inl rfl) (fT _ _ (.sc (.int _ _)) rfl) (bI u [1,2,3,4,5] rfl).2 (bJ.refl _ _) ⟨ng1.a,t0.k.a,ag3,O9,ag4,O10,gV,(bK.set (bK.set oV)),(bI u [1,2,3,4,5] rfl).1,rfl,rfl⟩
theorem aFS:aN Tryz.prog 75=true:=by kernel_rfl
open Go.Vm
def QX (m:Nat) (p0:List bO):Option (List bO):=app [] p0
theorem aFT {w:Nat} {p0:List bO} {o:List bO} (h:aF) (m:QX w p0=some o):
 aL Tryz.prog 170 [.sl none 32 (List.map bL p0)] h (λr h'=>∃t,(t=none→o= [])∧bV h [(t,.tok 36 32 (o.length*32))]∧r=ow t 32 (List.map bL o)∧h'=hp h [(t,.tok 36 32 (o.length*32))]):=by
 refine jL 8 [.tmp 2] Tryz.func170 rfl rfl rfl rfl ?_
 unfold QX at m
 refine gY λK1 H1=>eI (rT (iI (.sc (.slice _ _ _)) rfl) (fS (H1 _ _ (gY λK1 H1=>gY λK2 H2=>eI (vE rfl (lN (kF rfl (by rw[u0]; rfl) (by rw[bN]; exact rfl) (.inl ⟨_,_,_,rfl,λb hb=> ?_⟩))))))))
 refine fS (H2 _ _ (nM rfl (λhc=> ?_) (λhc=> ?_)))
 have h0:p0= []:=by
   cases p0 with
   | nil=>rfl
   | cons x l=>have:=hb (by simp); rw[this] at hc; cases hc
 subst h0
 obtain⟨rfl, -⟩:=jE m
 exact gY λK1 H1=>eI (rT (iI (.sc (.slice _ _ _)) rfl) (fS (H1 _ _ (iU (dX.one (.inl rfl) (iG.refl _) (jF _ _) ⟨none,λ_=>rfl,bV.none (bV.nil _),rfl,rfl⟩)))))
 exact mF (H1 _ _ (gY λK1 H1=>eI (lN (LM (c:=bL) (bV.nil _) CU λu=>vE rfl (lN (fE (c:=bL) 0 m CU rfl rfl rfl (λ_=>rfl) u rfl λtg ot u=>rT (iI (ow _ _ _) rfl) (fS (H1 _ _ (iU (dX.one (.inl rfl) (iG.refl _) (bJ.refl _ _) ⟨tg,ot,u,rfl,rfl⟩))))))))))
theorem Z9:aN Tryz.prog 170=true:=by kernel_rfl
def IQ (m:Nat) (p0:List dJ):Option (List dJ):=app [] p0
theorem aAA {w:Nat} {p0:List dJ} {o:List dJ} (h:aF) (m:IQ w p0=some o):
 aL Tryz.prog 169 [.sl none 3 (List.map bT p0)] h (λr h'=>∃g:cU,bK g 3 o.length∧bV h [(g.t,.obj 70 (fl bT o g.sp))]∧r=aZ g∧h'=hp h [(g.t,.obj 70 (fl bT o g.sp))]):=by
 refine jL 8 [.tmp 2] Tryz.func169 rfl rfl rfl rfl ?_
 unfold IQ at m
 refine gY λK1 H1=>eI (rT (iI (.sc (.slice _ _ _)) rfl) (fS (H1 _ _ (gY λK1 H1=>gY λK2 H2=>eI (vE rfl (lN (kF rfl (by rw[pT]; rfl) (by rw[bN]; exact rfl) (.inl ⟨_,_,_,rfl,λb hb=> ?_⟩))))))))
 refine fS (H2 _ _ (nM rfl (λhc=> ?_) (λhc=> ?_)))
 have h0:p0= []:=by
   cases p0 with
   | nil=>rfl
   | cons x l=>have:=hb (by simp); rw[this] at hc; cases hc
 subst h0
 obtain⟨rfl, -⟩:=jE m
 exact gY λK1 H1=>eI (rT (iI (.sc (.slice _ _ _)) rfl) (fS (H1 _ _ (iU (dX.one (.inl rfl) (iG.refl _) (fY _) ⟨g0,bK.g0 _,bV.none (bV.nil _),rfl,rfl⟩)))))
 exact mF (H1 _ _ (gY λK1 H1=>eI (lN (qD (c:=bT) (bV.nil _) JY λu=>vE rfl (lN (gD (c:=bT) 0 m JY rfl yA rfl wT rfl rfl (bK.g0 _) u rfl λg ok u=>rT (iI (aw _ _ _) rfl) (fS (H1 _ _ (iU (dX.one (.inl rfl) (iG.refl _) (bJ.refl _ _) ⟨g,ok,u,rfl,rfl⟩))))))))))
theorem aAB:aN Tryz.prog 169=true:=by kernel_rfl
def tI (m:Nat) (y9:(List dJ)) (q0:List dJ) (q1:Int):Option (Lp ((List dJ)×Int) (bD)):=
 if (decide (q1 < (y9.length:Int)))=true then ((ix q0 q1).bind λx0=>(QX m x0.Ids).bind λy0=>(ix q0 q1).bind λx1=>some (.go (q0.set q1.toNat ({ x1 with Ids:=y0}),IntKind.wrap .i64 (q1+1)))) else some (.brk (q0,q1))
def KE (m:Nat) (p0:bD):Option (bD):=
 (IQ m p0.Parts).bind λy9=>after (aT (λs=>tI m y9 s.1 s.2) m (y9,0)) λ⟨r0,r1⟩=>some ({ Name:=p0.Name,Parts:=r0}:bD)
theorem aAC {w:Nat} {p0:bD} {o:bD} (h:aF) (m:KE w p0=some o):
 aL Tryz.prog 115 [.agg (aX p0)] h (λr h'=>r= .agg (aX o)∧h'=h):=by
 refine fQ 28 [.cell 2 58] Tryz.func115 rfl rfl rfl rfl ?_
 unfold KE at m
 refine vs (v0 (gO rfl rfl λk2 K3=>ve λu=>bH ([.sc (.string ByteArray.empty),sZ]) u L0 rfl rfl λk5 K6=>qk K6 rfl (vs (v0 (dN rF rfl rfl (vl 1 _ lB rfl rfl rfl ?_))))))
 obtain⟨y9,Y0,m⟩:=aC m
 refine ve λu=>cM (aAA _ Y0) rfl aAB rfl ?_
 rintro x h' ⟨ag0,O0,K0,rfl,rfl⟩
 refine qk (bV.co u K0) (iV _ _ _) (dN rF rfl rfl (ve λu=>aK 2 ([.sc (.string p0.Name),aZ ag0]) u rfl rfl (cD rfl) (cG (bY _ _ _) rfl) TL rfl rfl λK1=>qk K1 rfl (vs (vs (v0 (dN rF rfl rfl (vl 2 (aZ ag0) lB rfl rfl rfl (bW (dQ qN O0 rfl) (nP m (σ:=(List dJ)×Int) (τ:=cU) (λg s=> [(g.t,.obj 70 (fl bT (s.1:List dJ) g.sp)),(some k5,.obj 58 ([.sc (.string ByteArray.empty),sZ])),(some k2,.obj 58 ([.sc (.string p0.Name),aZ g]))]) (λg s=>bK g 3 (s.1:List dJ).length) (λg s=>.c 1 (.ptr k2 0) (.c 2 (.ptr k5 0) (.c 10 (nZ (y9.length:Int)) (.c 11 (nZ s.2) .nil)))) ag0 O0 (lx (.k4 .nil)) ?_ ?_)))))))))
 rintro ag1 ⟨q0,q1⟩ x O1 m
 replace m:tI w y9 q0 q1=some x:=m
 unfold tI at m
 refine vs (v0 (vs (v0 ?_)))
 apply vi m <;> intro c0 m
 refine v0 (vs (v0 (vs (v0 (v0 (vz [(1000000,some k2,.obj 58 ([.sc (.string p0.Name),aZ ag1])),(12,ag1.t,.obj 70 (fl bT (q0:List dJ) ag1.sp))] mixed (λu=>⟨λ_=>aI 2 u rfl,λ_=>aI 0 u rfl,trivial⟩) λu=>zF 0 rfl rF rfl (zL 1 0 (aZ ag1) rfl lB rfl rfl rfl (zI 2 rfl rfl (zF 3 rfl rF rfl (zL 4 0 (aZ ag1) rfl lB rfl rfl rfl (zI 5 rfl rfl ?_)))))))))))
 obtain⟨x0,X0,m⟩:=aC m
 refine zC 6 rfl (cP X0 pT O1 rfl rfl) (zC 7 rfl (cV (bK.ne O1 X0) L5 rfl rfl) (wJ 8 rfl (λ_ _ hi hB=>dW (fo:=2) (.sl none 32 (List.map bL x0.Ids)) X0 wT O1 pU rfl (fV.get 1 hi rfl (hB 12 (by kernel_rfl))) (λ_=>rfl)) ?_))
 obtain⟨y0,Y1,m⟩:=aC m
 refine zE 9 rfl (cM (aFT _ Y1) rfl Z9 rfl ?_)
 rintro x h' ⟨tg0,t0,K2,rfl,rfl⟩
 rw[iV]
 refine⟨⟨λ_=>aI 3 (bV.co u K2) rfl,λ_=>aI 1 (bV.co u K2) rfl,trivial⟩, ?_⟩
 obtain⟨x1,X1,m⟩:=aC m
 refine zC 10 rfl (cP X1 pT O1 rfl rfl) (zC 11 rfl (cV (bK.ne O1 X1) L5 rfl rfl) (zE 12 rfl (xV (s:=23) (.sl none 32 (List.map bL y0)) (aS (.cons _ (.refl _)) (bV.co u K2)).1 (Fz.ale (aS (.cons _ (.refl _)) (bV.co u K2)).1 (mZ _ 0 t0 (bV.co u K2) rfl (.refl _))) (cK (fo:=2) ({ x1 with Ids:=y0}:dJ) 0 ((aS (.cons _ (.refl _)) (bV.co u K2)).2) X1 wT O1 rfl rfl rfl rfl (cX.refl _ _) TV rfl rfl λK4=>⟨⟨λ_=>aI 2 K4 rfl,λe=>absurd e (by decide),trivial⟩, ?_⟩))))
 exact zX (qk (f:=JR 25 _ _ _ _ _ _ _ _ _ _ _ _ _) K4 rfl (v0 (eW m ag1 (bK.set O1) (lx (.k4 .nil)))))
 exact v0 (lK m ag1 O1 (lx (.k4 .nil)))
 rintro ag2 ⟨r0,r1⟩ t1 m
 refine vs (v0 (vl 2 (.agg ([.sc (.string p0.Name),aZ ag2])) m6 rfl rfl rfl (ve λu=>aK 1 ([.sc (.string p0.Name),aZ ag2]) u rfl rfl rfl (by repeat (first | exact rfl | refine cG (iO _ _ _) ?_ | refine cG (bY _ _ _) ?_ | refine cG (gG _ _ _ _) ?_ | refine cG rfl ?_)) AE rfl rfl λK5=>qk K5 rfl ?_)))
 refine v0 ?_
 cases m
 refine vrl λu=> ?_
 obtain⟨K7,le0⟩:=i8.fzO (n:=28) (f:=_) 0 0 ([.sc (.string p0.Name),.sl none 3 (List.map bT r0)]) u rfl (.cons (Fz.refl _ _ _) (.cons (Fz.aw 0 wT t1 u rfl (.refl _)) .nil))
 exact OT.mk le0 (dX.of1 (.inl rfl) (rA (.agg (aX ({ Name:=p0.Name,Parts:=r0}:bD))) m6 rfl (bC 0 K7 rfl) rfl) (aS (List.nil_sublist _) K7).1 (bJ.refl _ _) ⟨rfl,rfl⟩)
theorem SI:aN Tryz.prog 115=true:=by kernel_rfl
def NK (m:Nat) (p0:aB):Option (Bool):=
 after (if (!p0.Staged)=true then (some (.brk true)) else some (.brk (decide (0 < (p0.Locs.length:Int)))):Option (Lp (Bool) (Bool))) λj7=>some j7
theorem aFU {u:Nat} {p0:aB} {o:Bool} (h:aF) (m:NK u p0=some o):
 aL Tryz.prog 168 [.agg (aJ p0)] h (λr h'=>r= .sc (.bool o)∧h'=h):=by
 refine fQ 12 [.tmp 2] Tryz.func168 rfl rfl rfl rfl ?_
 unfold NK at m
 refine v (gO rfl rfl λk2 K3=>vs (fL m (σ:=Bool) (λs=> [(some k2,.obj 44 (aJ p0))]) (λs=>.c 2 (.sc (.bool s)) .nil) (λx m=> ?_) ?_))
 refine v (vl 0 _ CN rfl rfl rfl ?_)
 apply vi m <;> intro b8 m
 rw[b8]
 exact iZ m
 rw[b8]
 exact vl 0 _ eZ rfl rfl rfl (dE i9 rfl (iZ m))
 rintro _ j7 m
 refine v ?_
 obtain rfl:=eE m
 exact dU rfl
theorem aAD:aN Tryz.prog 168=true:=by kernel_rfl
def NL (m:Nat) (p0:List aB) (p1:aB→Option Bool):Option (Bool):=
 (YB m p0 p1).bind λy3=>some (decide (0≤y3))
theorem aAE {w:Nat} {p0:List aB} {p1:aB→Option Bool} {o:Bool} (h:aF) {p1F:Nat} {p1C:List AV} (p1B:aN Tryz.prog p1F=true) (p1H:∀x0 o h0,iG h h0→p1 x0=some o→aL Tryz.prog p1F ([.agg (aJ x0)]++p1C) h0 (λr h'=>r= .sc (.bool o)∧h'=h0)) (m:NL w p0 p1=some o):
 aL Tryz.prog 159 [.sl none 35 (List.map aJ p0),.fn (.func p1F) p1C] h (λr h'=>r= .sc (.bool o)∧h'=h):=by
 refine fQ 9 [.tmp 4] Tryz.func159 rfl rfl rfl rfl ?_
 unfold NL at m
 refine v (v ?_)
 obtain⟨_,Y4,m⟩:=aC m
 refine vn (λu=>cC (W53 _ p1B (λx0 o h0 hs ho=>p1H x0 o h0 ((aS (List.nil_sublist _) u).1.trans hs) ho) Y4) rfl YC rfl) (v ?_)
 cases m
 exact dU rfl
theorem SJ:aN Tryz.prog 159=true:=by kernel_rfl
def KF (m:Nat) (p0:List aB):Option (Bool):=
 (NL m p0 (λx0=>NK m x0)).bind λy3=>some (!y3)
theorem aAF {u:Nat} {p0:List aB} {o:Bool} (h:aF) (m:KF u p0=some o):
 aL Tryz.prog 114 [.sl none 35 (List.map aJ p0)] h (λr h'=>r= .sc (.bool o)∧h'=h):=by
 refine fQ 6 [.tmp 2] Tryz.func114 rfl rfl rfl rfl ?_
 unfold KF at m
 refine v (v ?_)
 obtain⟨_,Y4,m⟩:=aC m
 refine bW (cC (aAE _ aAD (λ_ o h0 hs ho=>aFU _ ho) Y4) rfl SJ rfl) (v ?_)
 cases m
 exact dU rfl
theorem SK:aN Tryz.prog 114=true:=by kernel_rfl
def rL (m:Nat) (p1:aR) (q0:List aB) (q1:Int):Option (Lp ((List aB)×Int) (Int×Int×(List aH)×(List aB))):=
 if (decide (q1 < (p1.Chunks.length:Int)))=true then ((ix p1.Chunks q1).bind λx0=>(wP m q0 x0.Id).bind λy0=>after (if (!y0.2)=true then ((pF q0 y0.1 (({ Id:=x0.Id,Staged:=false,Data:= [],Locs:= []}:aB):aB)).bind λy1=>some (.brk y1)) else some (.brk q0):Option (Lp ((List aB)) (Lp ((List aB)×Int) (Int×Int×(List aH)×(List aB))))) λj0=>(R0 m x0.Data).bind λy2=>(ix j0 y0.1).bind λx1=>(ix (j0.set y0.1.toNat ({ x1 with Staged:=true})) y0.1).bind λx2=>some (.go ((j0.set y0.1.toNat ({ x1 with Staged:=true})).set y0.1.toNat ({ x2 with Data:=y2}),IntKind.wrap .i64 (q1+1)))) else some (.brk (q0,q1))
def V0 (m:Nat) (p0:aA) (p1:aR):Option (Int×Int×(List aH)×(List aB)):=
 after (if (p1.Snap.Seq !=p0.Seq)=true then (some (.brk true)) else if (decide (0 < (p1.Snap.Locs.length:Int)))=true then (some (.brk true)) else (KF m p1.Chunks).bind λy0=>some (.brk (!y0)):Option (Lp (Bool) (Int×Int×(List aH)×(List aB)))) λj0=>if j0=true then (some (1,p0.Seq,p0.Snaps,p0.Chunks)) else (YA m ({ Seq:=p0.Seq,Snaps:=p0.Snaps,Chunks:=p0.Chunks,Exps:=p0.Exps,Vols:=p0.Vols}:aA) p1.Snap.Man.Name).bind λy1=>if (decide (0≤y1))=true then (some (9,p0.Seq,p0.Snaps,p0.Chunks)) else (KE m p1.Snap.Man).bind λy2=>(app p0.Snaps ([({ Seq:=p1.Snap.Seq,Man:=y2,Locs:= []}:aH)]:List aH)).bind λz0=>after (aT (λs=>rL m p1 s.1 s.2) m (p0.Chunks,0)) λ⟨r0,r1⟩=>some (0,IntKind.wrap .i64 (p0.Seq+1),z0,r0)
theorem W72 {w:Nat} {p0:aA} {p1:aR} {o:Int×Int×(List aH)×(List aB)} (h:aF) {p0K:cE} {gS:cU} (ok_Snaps:bK gS 4 p0.Snaps.length) {gC:cU} (oC:bK gC 35 p0.Chunks.length) {gE:cU} (oE:bK gE 3 p0.Exps.length) {gV:cU} (oV:bK gV 4 p0.Vols.length) (K0:bV h [OC p0K p0.Seq gS gC gE gV,bF gS p0.Snaps,aV gC p0.Chunks,bX gE p0.Exps,aM gV p0.Vols]) (m:V0 w p0 p1=some o):
 aL Tryz.prog 72 [.ptr p0K 0,.agg (aD p1)] (hp h [OC p0K p0.Seq gS gC gE gV,bF gS p0.Snaps,aV gC p0.Chunks,bX gE p0.Exps,aM gV p0.Vols]) (λr h'=>∃g_Snaps':cU,bK g_Snaps' 4 (o.2.2.1:List aH).length∧∃g_Chunks':cU,bK g_Chunks' 35 (o.2.2.2:List aB).length∧bV h [OC p0K o.2.1 g_Snaps' g_Chunks' gE gV,bF g_Snaps' o.2.2.1,aV g_Chunks' o.2.2.2,bX gE p0.Exps,aM gV p0.Vols]∧r=nZ o.1∧h'=hp h [OC p0K o.2.1 g_Snaps' g_Chunks' gE gV,bF g_Snaps' o.2.2.1,aV g_Chunks' o.2.2.2,bX gE p0.Exps,aM gV p0.Vols]):=by
 refine uE K0 115 [.tmp 4] Tryz.func72 rfl rfl rfl rfl ?_
 unfold V0 at m
 refine vs (v0 (gO rfl rfl λk2 K3=>vs (v0 (vs (fL m (σ:=Bool) (λs=> [(some k2,.obj 62 (aD p1)),OC p0K p0.Seq gS gC gE gV,bF gS p0.Snaps,aV gC p0.Chunks,bX gE p0.Exps,aM gV p0.Vols]) (λs=>.c 0 (.ptr p0K 0) (.c 3 (.ptr k2 0) (.c 9 (.sc (.bool s)) .nil))) (λx m=> ?_) ?_)))))
 refine v0 (wU (by kernel_rfl) (dN lC rfl rfl (dN uY rfl rfl (vl 0 _ bZ rfl rfl rfl (jM rfl (dN nQ rfl rfl (vl 1 _ bZ rfl rfl rfl ?_)))))))
 apply vi m <;> intro b0 m
 rw[b0]
 exact gK m
 rw[b0]
 refine dN lC rfl rfl (dN jS rfl rfl (vl 0 _ eZ rfl rfl rfl (dE i9 rfl ?_)))
 apply vi m <;> intro b1 m
 rw[b1]
 exact gK m
 rw[b1]
 exact dN m7 rfl rfl (vl 0 _ eU rfl rfl rfl (vk aAF SK m rfl rfl λ_ m=>gK m))
 rintro _ j0 m
 refine v0 ?_
 apply vi m <;> intro c0 m
 refine vs (v0 (v0 ?_))
 cases m
 exact vr λu=>dX.of1 (.inl rfl) (fT _ _ (.sc (.int _ _)) rfl) (bI u [1,2,3,4,5] rfl).2 (bJ.refl _ _) ⟨gS,ok_Snaps,gC,oC,(bI u [1,2,3,4,5] rfl).1,rfl,rfl⟩
 refine vs (v0 (wU (by kernel_rfl) (jM rfl (vl 1 (.agg ([nZ p0.Seq,aZ gS,aZ gC,aZ gE,aZ gV])) eV rfl rfl rfl (dN lC rfl rfl (dN oJ rfl rfl (dN LZ rfl rfl (vl 0 _ uF rfl rfl rfl ?_))))))))
 obtain⟨_,Y0,m⟩:=aC m
 refine vn (λu=>cC (fF (.cons (Br.agg (.cons (Br.refl _ _) (.cons (Br.aw 2 eJ ok_Snaps u rfl) (.cons (Br.aw 3 cR oC u rfl) (.cons (Br.aw 4 fM oE u rfl) (.cons (Br.aw 5 eA oV u rfl) .nil)))))) (.cons (Br.refl _ _) .nil)) rfl (W46 _ Y0)) rfl aD2 rfl) (v0 ?_)
 apply vi m <;> intro c1 m
 refine vs (v0 (v0 ?_))
 cases m
 exact vr λu=>dX.of1 (.inl rfl) (fT _ _ (.sc (.int _ _)) rfl) (bI u [1,2,3,4,5] rfl).2 (bJ.refl _ _) ⟨gS,ok_Snaps,gC,oC,(bI u [1,2,3,4,5] rfl).1,rfl,rfl⟩
 refine v0 (vs (v0 (jM rfl (dN nQ rfl rfl (vl 1 _ bZ rfl rfl rfl (jM rfl (dN nQ rfl rfl (ve λu=>aK 1 ([nZ (IntKind.wrap .i64 (p0.Seq+1)),aZ gS,aZ gC,aZ gE,aZ gV]) u rfl rfl rfl rfl AA rfl rfl λK1=>qk K1 rfl (vs (v0 (vz [(17,some p0K,.obj 30 ([nZ (IntKind.wrap .i64 (p0.Seq+1)),aZ gS,aZ gC,aZ gE,aZ gV])),(1000000,some k2,.obj 62 (aD p1))] mixed (λu=>⟨λ_=>aI 1 u rfl,λ_=>aI 0 u rfl,trivial⟩) λu=>zP 0 rfl rfl (zP 1 rfl rfl (zN 2 rfl rfl (zF 3 rfl dV rfl (zL 4 0 (aZ gS) rfl fC rfl rfl rfl (zF 5 rfl lC rfl (zF 6 rfl uY rfl (zL 7 1 (nZ p1.Snap.Seq) rfl bZ rfl rfl rfl (zF 8 rfl lC rfl (zF 9 rfl oJ rfl (zL 10 1 (.agg (aX p1.Snap.Man)) rfl m6 rfl rfl rfl ?_)))))))))))))))))))))
 obtain⟨y0,Y1,m⟩:=aC m
 refine zC 11 rfl (cC (aAC _ Y1) rfl SI rfl) (zC 12 rfl (fB (y:=.agg (bP ({ Seq:=p1.Snap.Seq,Man:=y0,Locs:= []}:aH))) (fI (([nZ p1.Snap.Seq]:List AV)++aX y0++([sZ]:List AV)) TM rfl) (bJ.agg (.cons (bJ.refl _ _) (cX.app 2 rfl (.cons (aY _) .nil))))) (zC 13 rfl (eL (List.map bP ([({ Seq:=p1.Snap.Seq,Man:=y0,Locs:= []}:aH)]:List aH)) wM rfl rfl rfl rfl) ?_))
 obtain⟨z0,Z0,m⟩:=aC m
 refine zE 14 rfl (gD (c:=bP) 2 Z0 wM rfl uZ rfl eJ rfl rfl ok_Snaps u rfl λag0 O0 K2=>⟨⟨λ_=>aI 1 K2 rfl,λ_=>aI 0 K2 rfl,trivial⟩, ?_⟩)
 refine zN 15 rfl rfl (zF 16 rfl dV rfl (zE 17 rfl (aK 1 ([nZ (IntKind.wrap .i64 (p0.Seq+1)),aZ ag0,aZ gC,aZ gE,aZ gV]) K2 rfl rfl (cD rfl) (cG (bY _ _ _) rfl) GT rfl rfl λK4=>⟨⟨λe=>absurd e (by decide),λ_=>aI 0 K4 rfl,trivial⟩, ?_⟩)))
 refine zX (qk (f:=wK 64 _ _ _ _ _ _ _ _ _ _ _ _ _ _ _ _ _ _) K4 rfl (vs (vs (v0 (dN m7 rfl rfl (vl 0 _ eU rfl rfl rfl (dE iX rfl (nP m (σ:=(List aB)×Int) (τ:=cU) (λg s=> [(some k2,.obj 62 (aD p1)),OC p0K (IntKind.wrap .i64 (p0.Seq+1)) ag0 g gE gV,bF ag0 z0,aV g s.1,bX gE p0.Exps,aM gV p0.Vols]) (λg s=>bK g 35 (s.1:List aB).length) (λg s=>.c 0 (.ptr p0K 0) (.c 66 (.sl none 35 (List.map aJ p1.Chunks)) (.c 67 (nZ (p1.Chunks.length:Int)) (.c 68 (nZ s.2) .nil)))) gC oC (lx (.k4 .nil)) ?_ ?_))))))))
 rintro ag1 ⟨q0,q1⟩ x O1 m
 replace m:rL w p1 q0 q1=some x:=m
 unfold rL at m
 refine vs (v0 (vs (v0 ?_)))
 apply vi m <;> intro c2 m
 refine v0 (vs (v0 (vs (v0 (vx m fJ rfl rfl λx0 _ m=>va (.agg (aJ x0)) lZ rfl rfl (ve λu=>bH (bL kG++(KT:List AV)) u nR rfl rfl λk228 K5=>qk K5 rfl (ve λu=>aK 0 (aJ x0) u rfl rfl rfl rfl xY rfl rfl λK6=>qk K6 rfl (vs (v0 (wU (by kernel_rfl) (jM rfl (dN dY rfl rfl (vl 2 (aZ ag1) eU rfl rfl rfl (dN oH rfl rfl (vl 0 (.agg (bL x0.Id)) fR rfl rfl rfl ?_)))))))))))))))
 obtain⟨y1,Y2,m⟩:=aC m
 refine vn (λu=>cC (fF (.cons (Br.aw 4 cR O1 u rfl) (.cons (Br.refl _ _) .nil)) rfl (QA _ Y2)) rfl IF rfl) (vs (vs (v0 (pJ m (σ:=(List aB)) (τ:=cU) (λg s=> [(some k228,.obj 44 (aJ x0)),(some k2,.obj 62 (aD p1)),OC p0K (IntKind.wrap .i64 (p0.Seq+1)) ag0 g gE gV,bF ag0 z0,aV g s,bX gE p0.Exps,aM gV p0.Vols]) (λg s=>bK g 35 (s:List aB).length) (λg s=>.c 0 (.ptr p0K 0) (.c 6 (.ptr k228 0) (.c 7 (nZ y1.1) (.c 66 (.sl none 35 (List.map aJ p1.Chunks)) (.c 67 (nZ (p1.Chunks.length:Int)) (.c 68 (nZ q1) .nil)))))) (λx m=> ?_) ?_))))
 refine v0 ?_
 apply vi m <;> intro c3 m
 refine v0 (vz [(13,some p0K,.obj 30 ([nZ (IntKind.wrap .i64 (p0.Seq+1)),aZ ag0,aZ ag1,aZ gE,aZ gV])),(1000000,some k228,.obj 44 (aJ x0))] mixed (λu=>⟨λ_=>aI 2 u rfl,λ_=>aI 0 u rfl,trivial⟩) λu=>zP 0 rfl rfl (zP 1 rfl rfl (zN 2 rfl rfl (zF 3 rfl dY rfl (zL 4 0 (aZ ag1) rfl eU rfl rfl rfl (zI 5 rfl rfl (zF 6 rfl oH rfl (zL 7 1 (.agg (bL x0.Id)) rfl fR rfl rfl rfl (zC 8 rfl (fB (y:=.agg (aJ ({ Id:=x0.Id,Staged:=false,Data:= [],Locs:= []}:aB))) (fI (bL x0.Id++(KT:List AV)) WX rfl) (bJ.agg (cX.app 32 rfl (.cons (bJ.refl _ _) (.cons (aY _) (.cons (aY _) .nil)))))) (zC 9 rfl (eL (List.map aJ ([({ Id:=x0.Id,Staged:=false,Data:= [],Locs:= []}:aB)]:List aB)) lP rfl rfl rfl rfl) ?_))))))))))
 obtain⟨y2,Y3,m⟩:=aC m
 refine zE 10 rfl ?_
 have ho0:=mB (A:= [aV ag1 q0]) (R:= [(some k228,.obj 44 (aJ x0)),(some k2,.obj 62 (aD p1)),OC p0K (IntKind.wrap .i64 (p0.Seq+1)) ag0 ag1 gE gV,bF ag0 z0,bX gE p0.Exps,aM gV p0.Vols]) u [[_], [_], [_], [_], [_], [_], [_]] rfl [4] [0,1,2,3,5,6] rfl rfl rfl
 refine dC ho0.1 (cM (aFI cR _ O1 ho0.2.2 Y3) rfl ZL rfl ?_)
 rintro x h' ⟨ag2,O2,K7,rfl,rfl⟩
 have K8:=mC (L':= [(some k228,.obj 44 (aJ x0)),(some k2,.obj 62 (aD p1)),(hO p0K (IntKind.wrap .i64 (p0.Seq+1)) ag0 ag1 gE gV),bF ag0 z0,aV ag2 y2,bX gE p0.Exps,aM gV p0.Vols]) ho0.2.1 K7 [[_]] [[_], [_], [_], [_], [_], [_]] rfl rfl [1,2,3,4,0,5,6] rfl rfl
 refine kT K8.1 (⟨⟨λ_=>aI 2 K8.2 rfl,λ_=>aI 0 K8.2 rfl,trivial⟩, ?_⟩)
 refine zN 11 rfl rfl (zF 12 rfl dY rfl (zE 13 rfl (aK 2 ([nZ (IntKind.wrap .i64 (p0.Seq+1)),aZ ag0,aZ ag2,aZ gE,aZ gV]) K8.2 rfl rfl (cD rfl) (cG (bY _ _ _) rfl) AD rfl rfl λK9=>⟨⟨λe=>absurd e (by decide),λ_=>aI 0 K9 rfl,trivial⟩, ?_⟩)))
 exact zX (qk (f:=TC 96 _ _ _ _ _ _ _ _ _ _ _ _ _ _) K9 rfl (eW m ag2 O2 (lx (.k6 .nil))))
 exact v0 (eW m ag1 O1 (lx (.k6 .nil)))
 rintro ag3 j1 O3 m
 refine v0 (vz [(1000000,some p0K,.obj 30 ([nZ (IntKind.wrap .i64 (p0.Seq+1)),aZ ag0,aZ ag3,aZ gE,aZ gV])),(1000000,some k228,.obj 44 (aJ x0))] mixed (λu=>⟨λ_=>aI 2 u rfl,λ_=>aI 0 u rfl,trivial⟩) λu=>zP 0 rfl rfl (zN 1 rfl rfl (zF 2 rfl dY rfl (zL 3 0 (aZ ag3) rfl eU rfl rfl rfl (zI 4 rfl rfl (zP 5 rfl rfl (zN 6 rfl rfl (zF 7 rfl dY rfl (zL 8 0 (aZ ag3) rfl eU rfl rfl rfl (zI 9 rfl rfl (zF 10 rfl jR rfl (zL 11 1 (.sl none 1 (List.map dF x0.Data)) rfl lR rfl rfl rfl ?_))))))))))))
 obtain⟨y3,Y4,m⟩:=aC m
 refine zE 12 rfl (cM (W96 _ Y4) rfl P9 rfl ?_)
 rintro x h' ⟨tg0,t0,K10,rfl,rfl⟩
 rw[iV]
 refine⟨⟨λ_=>aI 3 (bV.co u K10) rfl,λ_=>aI 1 (bV.co u K10) rfl,trivial⟩, ?_⟩
 obtain⟨x1,X0,m⟩:=aC m
 refine zC 13 rfl (cP X0 fJ O3 rfl rfl) (zC 14 rfl (cV (bK.ne O3 X0) oI rfl rfl) (zE 15 rfl (cK (fo:=32) ({ x1 with Staged:=true}:aB) 5 (bV.co u K10) X0 cR O3 rfl rfl rfl rfl (cX.refl _ _) VQ rfl rfl λK11=>⟨⟨λ_=>aI 3 K11 rfl,λ_=>aI 1 K11 rfl,trivial⟩, ?_⟩)))
 obtain⟨x2,X1,m⟩:=aC m
 refine zC 16 rfl (cP X1 fJ (bK.set O3) rfl rfl) (zC 17 rfl (cV (bK.ne (bK.set O3) X1) jR rfl rfl) (zE 18 rfl (xV (s:=109) (.sl none 1 (List.map dF y3)) (aS (.cons _ (.refl _)) K11).1 (Fz.ale (aS (.cons _ (.refl _)) K11).1 (mZ _ 0 t0 K11 rfl (.refl _))) (cK (fo:=33) ({ x2 with Data:=y3}:aB) 4 ((aS (.cons _ (.refl _)) K11).2) X1 cR (bK.set O3) rfl rfl rfl rfl (cX.refl _ _) CQ rfl rfl λK12=>⟨⟨λ_=>aI 2 K12 rfl,λ_=>aI 0 K12 rfl,trivial⟩, ?_⟩))))
 exact zX (qk (f:=wK 113 _ _ _ _ _ _ _ _ _ _ _ _ _ _ _ _ _ _) K12 rfl (v0 (eW m ag3 (bK.set (bK.set O3)) (lJ [1,2,3,4,5,6] rfl rfl (.k4 .nil)))))
 exact v0 (lK m ag1 O1 (lx (.k4 .nil)))
 rintro ag4 ⟨r0,r1⟩ t1 m
 refine vs (v0 (v0 ?_))
 cases m
 exact vr λu=>dX.of1 (.inl rfl) (fT _ _ (.sc (.int _ _)) rfl) (bI u [1,2,3,4,5] rfl).2 (bJ.refl _ _) ⟨ag0,O0,ag4,t1,(bI u [1,2,3,4,5] rfl).1,rfl,rfl⟩
theorem aFV:aN Tryz.prog 72=true:=by kernel_rfl
open Go.Vm
def IR (m:Nat) (p0:List aH):Option (List aH):=app [] p0
theorem aAG {w:Nat} {p0:List aH} {o:List aH} (h:aF) (m:IR w p0=some o):
 aL Tryz.prog 132 [.sl none 4 (List.map bP p0)] h (λr h'=>∃g:cU,bK g 4 o.length∧bV h [(g.t,.obj 60 (fl bP o g.sp))]∧r=aZ g∧h'=hp h [(g.t,.obj 60 (fl bP o g.sp))]):=by
 refine jL 8 [.tmp 2] Tryz.func132 rfl rfl rfl rfl ?_
 unfold IR at m
 refine gY λK1 H1=>eI (rT (iI (.sc (.slice _ _ _)) rfl) (fS (H1 _ _ (gY λK1 H1=>gY λK2 H2=>eI (vE rfl (lN (kF rfl (by rw[iJ]; rfl) (by rw[bN]; exact rfl) (.inl ⟨_,_,_,rfl,λb hb=> ?_⟩))))))))
 refine fS (H2 _ _ (nM rfl (λhc=> ?_) (λhc=> ?_)))
 have h0:p0= []:=by
   cases p0 with
   | nil=>rfl
   | cons x l=>have:=hb (by simp); rw[this] at hc; cases hc
 subst h0
 obtain⟨rfl, -⟩:=jE m
 exact gY λK1 H1=>eI (rT (iI (.sc (.slice _ _ _)) rfl) (fS (H1 _ _ (iU (dX.one (.inl rfl) (iG.refl _) (fY _) ⟨g0,bK.g0 _,bV.none (bV.nil _),rfl,rfl⟩)))))
 exact mF (H1 _ _ (gY λK1 H1=>eI (lN (qD (c:=bP) (bV.nil _) wM λu=>vE rfl (lN (gD (c:=bP) 0 m wM rfl uZ rfl eJ rfl rfl (bK.g0 _) u rfl λg ok u=>rT (iI (aw _ _ _) rfl) (fS (H1 _ _ (iU (dX.one (.inl rfl) (iG.refl _) (bJ.refl _ _) ⟨g,ok,u,rfl,rfl⟩))))))))))
theorem aAH:aN Tryz.prog 132=true:=by kernel_rfl
def IS (m:Nat) (p0:List aB):Option (List aB):=app [] p0
theorem aAI {w:Nat} {p0:List aB} {o:List aB} (h:aF) (m:IS w p0=some o):
 aL Tryz.prog 133 [.sl none 35 (List.map aJ p0)] h (λr h'=>∃g:cU,bK g 35 o.length∧bV h [(g.t,.obj 44 (fl aJ o g.sp))]∧r=aZ g∧h'=hp h [(g.t,.obj 44 (fl aJ o g.sp))]):=by
 refine jL 8 [.tmp 2] Tryz.func133 rfl rfl rfl rfl ?_
 unfold IS at m
 refine gY λK1 H1=>eI (rT (iI (.sc (.slice _ _ _)) rfl) (fS (H1 _ _ (gY λK1 H1=>gY λK2 H2=>eI (vE rfl (lN (kF rfl (by rw[fJ]; rfl) (by rw[bN]; exact rfl) (.inl ⟨_,_,_,rfl,λb hb=> ?_⟩))))))))
 refine fS (H2 _ _ (nM rfl (λhc=> ?_) (λhc=> ?_)))
 have h0:p0= []:=by
   cases p0 with
   | nil=>rfl
   | cons x l=>have:=hb (by simp); rw[this] at hc; cases hc
 subst h0
 obtain⟨rfl, -⟩:=jE m
 exact gY λK1 H1=>eI (rT (iI (.sc (.slice _ _ _)) rfl) (fS (H1 _ _ (iU (dX.one (.inl rfl) (iG.refl _) (fY _) ⟨g0,bK.g0 _,bV.none (bV.nil _),rfl,rfl⟩)))))
 exact mF (H1 _ _ (gY λK1 H1=>eI (lN (qD (c:=aJ) (bV.nil _) lP λu=>vE rfl (lN (gD (c:=aJ) 0 m lP rfl nR rfl cR rfl rfl (bK.g0 _) u rfl λg ok u=>rT (iI (aw _ _ _) rfl) (fS (H1 _ _ (iU (dX.one (.inl rfl) (iG.refl _) (bJ.refl _ _) ⟨g,ok,u,rfl,rfl⟩))))))))))
theorem aAJ:aN Tryz.prog 133=true:=by kernel_rfl
def IT (m:Nat) (p0:List aQ):Option (List aQ):=app [] p0
theorem aAK {w:Nat} {p0:List aQ} {o:List aQ} (h:aF) (m:IT w p0=some o):
 aL Tryz.prog 134 [.sl none 3 (List.map cF p0)] h (λr h'=>∃g:cU,bK g 3 o.length∧bV h [(g.t,.obj 99 (fl cF o g.sp))]∧r=aZ g∧h'=hp h [(g.t,.obj 99 (fl cF o g.sp))]):=by
 refine jL 8 [.tmp 2] Tryz.func134 rfl rfl rfl rfl ?_
 unfold IT at m
 refine gY λK1 H1=>eI (rT (iI (.sc (.slice _ _ _)) rfl) (fS (H1 _ _ (gY λK1 H1=>gY λK2 H2=>eI (vE rfl (lN (kF rfl (by rw[iE]; rfl) (by rw[bN]; exact rfl) (.inl ⟨_,_,_,rfl,λb hb=> ?_⟩))))))))
 refine fS (H2 _ _ (nM rfl (λhc=> ?_) (λhc=> ?_)))
 have h0:p0= []:=by
   cases p0 with
   | nil=>rfl
   | cons x l=>have:=hb (by simp); rw[this] at hc; cases hc
 subst h0
 obtain⟨rfl, -⟩:=jE m
 exact gY λK1 H1=>eI (rT (iI (.sc (.slice _ _ _)) rfl) (fS (H1 _ _ (iU (dX.one (.inl rfl) (iG.refl _) (fY _) ⟨g0,bK.g0 _,bV.none (bV.nil _),rfl,rfl⟩)))))
 exact mF (H1 _ _ (gY λK1 H1=>eI (lN (qD (c:=cF) (bV.nil _) pA λu=>vE rfl (lN (gD (c:=cF) 0 m pA rfl oL rfl fM rfl rfl (bK.g0 _) u rfl λg ok u=>rT (iI (aw _ _ _) rfl) (fS (H1 _ _ (iU (dX.one (.inl rfl) (iG.refl _) (bJ.refl _ _) ⟨g,ok,u,rfl,rfl⟩))))))))))
theorem aAL:aN Tryz.prog 134=true:=by kernel_rfl
def IU (m:Nat) (p0:List aP):Option (List aP):=app [] p0
theorem aAM {w:Nat} {p0:List aP} {o:List aP} (h:aF) (m:IU w p0=some o):
 aL Tryz.prog 135 [.sl none 4 (List.map cI p0)] h (λr h'=>∃g:cU,bK g 4 o.length∧bV h [(g.t,.obj 49 (fl cI o g.sp))]∧r=aZ g∧h'=hp h [(g.t,.obj 49 (fl cI o g.sp))]):=by
 refine jL 8 [.tmp 2] Tryz.func135 rfl rfl rfl rfl ?_
 unfold IU at m
 refine gY λK1 H1=>eI (rT (iI (.sc (.slice _ _ _)) rfl) (fS (H1 _ _ (gY λK1 H1=>gY λK2 H2=>eI (vE rfl (lN (kF rfl (by rw[lQ]; rfl) (by rw[bN]; exact rfl) (.inl ⟨_,_,_,rfl,λb hb=> ?_⟩))))))))
 refine fS (H2 _ _ (nM rfl (λhc=> ?_) (λhc=> ?_)))
 have h0:p0= []:=by
   cases p0 with
   | nil=>rfl
   | cons x l=>have:=hb (by simp); rw[this] at hc; cases hc
 subst h0
 obtain⟨rfl, -⟩:=jE m
 exact gY λK1 H1=>eI (rT (iI (.sc (.slice _ _ _)) rfl) (fS (H1 _ _ (iU (dX.one (.inl rfl) (iG.refl _) (fY _) ⟨g0,bK.g0 _,bV.none (bV.nil _),rfl,rfl⟩)))))
 exact mF (H1 _ _ (gY λK1 H1=>eI (lN (qD (c:=cI) (bV.nil _) GU λu=>vE rfl (lN (gD (c:=cI) 0 m GU rfl ER rfl eA rfl rfl (bK.g0 _) u rfl λg ok u=>rT (iI (aw _ _ _) rfl) (fS (H1 _ _ (iU (dX.one (.inl rfl) (iG.refl _) (bJ.refl _ _) ⟨g,ok,u,rfl,rfl⟩))))))))))
theorem aAN:aN Tryz.prog 135=true:=by kernel_rfl
def tJ (m:Nat) (y0:(List aH)) (q0:List aH) (q1:Int):Option (Lp ((List aH)×Int) (aA)):=
 if (decide (q1 < (y0.length:Int)))=true then ((ix q0 q1).bind λx0=>(KE m x0.Man).bind λy1=>(E7 m x0.Locs).bind λy2=>some (.go ((q0.set q1.toNat ({ x0 with Man:=y1})).set q1.toNat ({ ({ x0 with Man:=y1}:aH) with Locs:=y2}),IntKind.wrap .i64 (q1+1)))) else some (.brk (q0,q1))
def tK (m:Nat) (y0:(List aB)) (q0:List aB) (q1:Int):Option (Lp ((List aB)×Int) (aA)):=
 if (decide (q1 < (y0.length:Int)))=true then ((ix q0 q1).bind λx0=>(R0 m x0.Data).bind λy1=>(E7 m x0.Locs).bind λy2=>some (.go ((q0.set q1.toNat ({ x0 with Data:=y1})).set q1.toNat ({ ({ x0 with Data:=y1}:aB) with Locs:=y2}),IntKind.wrap .i64 (q1+1)))) else some (.brk (q0,q1))
def tL (m:Nat) (y0:(List aQ)) (q0:List aQ) (q1:Int):Option (Lp ((List aQ)×Int) (aA)):=
 if (decide (q1 < (y0.length:Int)))=true then ((ix q0 q1).bind λx0=>(E7 m x0.Locs).bind λy1=>(ix q0 q1).bind λx1=>some (.go (q0.set q1.toNat ({ x1 with Locs:=y1}),IntKind.wrap .i64 (q1+1)))) else some (.brk (q0,q1))
def NM (m:Nat) (p0:aA):Option (aA):=
 (IR m p0.Snaps).bind λy0=>(IS m p0.Chunks).bind λy1=>(IT m p0.Exps).bind λy2=>(IU m p0.Vols).bind λy3=>after (aT (λs=>tJ m y0 s.1 s.2) m (y0,0)) λ⟨r0,r1⟩=>after (aT (λs=>tK m y1 s.1 s.2) m (y1,0)) λ⟨r2,r3⟩=>after (aT (λs=>tL m y2 s.1 s.2) m (y2,0)) λ⟨r4,r5⟩=>some ({ Seq:=p0.Seq,Snaps:=r0,Chunks:=r2,Exps:=r4,Vols:=y3}:aA)
theorem aFW {w:Nat} {p0:aA} {o:aA} (h:aF) (m:NM w p0=some o):
 aL Tryz.prog 77 [.agg (aE p0)] h (λr h'=>∃gS:dH,mD aH.Locs 4 4 gS (o.Snaps:List aH)∧∃gC:dH,mD aB.Locs 35 4 gC (o.Chunks:List aB)∧∃gE:dH,mD aQ.Locs 3 4 gE (o.Exps:List aQ)∧∃gV:cU,bK gV 4 o.Vols.length∧bV h ([bM gS o.Snaps,aW gC o.Chunks,bR gE o.Exps,aM gV o.Vols]++((bQ gS o.Snaps)++((a9 gC o.Chunks)++(bS gE o.Exps))))∧r= .agg ([nZ o.Seq,aZ gS.a,aZ gC.a,aZ gE.a,aZ gV])∧h'=hp h ([bM gS o.Snaps,aW gC o.Chunks,bR gE o.Exps,aM gV o.Vols]++((bQ gS o.Snaps)++((a9 gC o.Chunks)++(bS gE o.Exps))))):=by
 refine fQ 98 [.cell 2 30] Tryz.func77 rfl rfl rfl rfl ?_
 unfold NM at m
 refine vs (v0 (gO rfl rfl λk2 K3=>ve λu=>bH (iK) u qM rfl rfl λk5 K6=>qk K6 rfl (vs (v0 (vz [(13,some k2,.obj 30 (aE p0))] mixed (λu=>⟨λ_=>aI 1 u rfl,trivial⟩) λu=>zF 0 rfl dV rfl (zL 1 0 (.sl none 4 (List.map bP p0.Snaps)) rfl fC rfl rfl rfl (zF 3 rfl dY rfl (zL 4 0 (.sl none 35 (List.map aJ p0.Chunks)) rfl eU rfl rfl rfl (zF 6 rfl eR rfl (zL 7 0 (.sl none 3 (List.map cF p0.Exps)) rfl iF rfl rfl rfl (zF 9 rfl fP rfl (zL 10 0 (.sl none 4 (List.map cI p0.Vols)) rfl iP rfl rfl rfl ?_))))))))))))
 obtain⟨y0,Y0,m⟩:=aC m
 refine zE 2 rfl (cM (aAG _ Y0) rfl aAH rfl ?_)
 rintro x h' ⟨ag0,O0,K0,rfl,rfl⟩
 rw[iV]
 refine⟨⟨λ_=>aI 2 (bV.co u K0) rfl,trivial⟩, ?_⟩
 refine zF 12 rfl dV rfl ?_
 obtain⟨y1,Y1,m⟩:=aC m
 refine zE 5 rfl (cM (aAI _ Y1) rfl aAJ rfl ?_)
 rintro x h' ⟨ag1,O1,K1,rfl,rfl⟩
 rw[iV]
 refine⟨⟨λ_=>aI 3 (bV.co (bV.co u K0) K1) rfl,trivial⟩, ?_⟩
 obtain⟨y2,Y2,m⟩:=aC m
 refine zE 8 rfl (cM (aAK _ Y2) rfl aAL rfl ?_)
 rintro x h' ⟨ag2,O2,K2,rfl,rfl⟩
 rw[iV]
 refine⟨⟨λ_=>aI 4 (bV.co (bV.co (bV.co u K0) K1) K2) rfl,trivial⟩, ?_⟩
 obtain⟨y3,Y3,m⟩:=aC m
 refine zE 11 rfl (cM (aAM _ Y3) rfl aAN rfl ?_)
 rintro x h' ⟨ag3,O3,K4,rfl,rfl⟩
 rw[iV]
 refine⟨⟨λ_=>aI 5 (bV.co (bV.co (bV.co (bV.co u K0) K1) K2) K4) rfl,trivial⟩, ?_⟩
 refine zE 13 rfl (aK 5 ([nZ p0.Seq,aZ ag0,.sl none 35 (List.map aJ p0.Chunks),.sl none 3 (List.map cF p0.Exps),.sl none 4 (List.map cI p0.Vols)]) (bV.co (bV.co (bV.co (bV.co u K0) K1) K2) K4) rfl rfl (cD rfl) (cG (bY _ _ _) rfl) GT rfl rfl λK5=>⟨⟨λe=>absurd e (by decide),trivial⟩, ?_⟩)
 refine zF 14 rfl dY rfl (zE 15 rfl (aK 5 ([nZ p0.Seq,aZ ag0,aZ ag1,.sl none 3 (List.map cF p0.Exps),.sl none 4 (List.map cI p0.Vols)]) K5 rfl rfl (cD rfl) (cG (bY _ _ _) rfl) AD rfl rfl λK7=>⟨⟨λe=>absurd e (by decide),trivial⟩, ?_⟩))
 refine zF 16 rfl eR rfl (zE 17 rfl (aK 5 ([nZ p0.Seq,aZ ag0,aZ ag1,aZ ag2,.sl none 4 (List.map cI p0.Vols)]) K7 rfl rfl (cD rfl) (cG (bY _ _ _) rfl) JU rfl rfl λK8=>⟨⟨λe=>absurd e (by decide),trivial⟩, ?_⟩))
 refine zF 18 rfl fP rfl (zE 19 rfl (aK 5 ([nZ p0.Seq,aZ ag0,aZ ag1,aZ ag2,aZ ag3]) K8 rfl rfl (cD rfl) (cG (bY _ _ _) rfl) P1 rfl rfl λK9=>⟨⟨λe=>absurd e (by decide),trivial⟩, ?_⟩))
 refine zX (qk (f:=.c 23 _ (.c 22 _ (.c 21 _ (.c 19 _ (.c 16 _ (.c 13 _ (.c 20 _ (.c 10 _ (.c 18 _ (.c 17 _ (.c 15 _ (.c 14 _ (.c 12 _ (.c 11 _ (.c 9 _ (.c 8 _ _)))))))))))))))) K9 rfl (vs (vs (qC (toN (L':=([aM ag3 y3,bR (⟨ag2,List.replicate (y2:List aQ).length none⟩:dH) y2,aV ag1 y1,bF ag0 y0,(some k5,.obj 30 (iK)),OC k2 p0.Seq ag0 ag1 ((⟨ag2,List.replicate (y2:List aQ).length none⟩:dH).a) ag3]++(bS (⟨ag2,List.replicate (y2:List aQ).length none⟩:dH) y2))) (λ_=>rfl) [[_], [_], [_], [_], [_], [_]] rfl 1 rfl rfl) (qC (toN (L':=([aM ag3 y3,bR (⟨ag2,List.replicate (y2:List aQ).length none⟩:dH) y2,aW (⟨ag1,List.replicate (y1:List aB).length none⟩:dH) y1,bF ag0 y0,(some k5,.obj 30 (iK)),OC k2 p0.Seq ag0 ((⟨ag1,List.replicate (y1:List aB).length none⟩:dH).a) ((⟨ag2,List.replicate (y2:List aQ).length none⟩:dH).a) ag3]++((bS (⟨ag2,List.replicate (y2:List aQ).length none⟩:dH) y2)++(a9 (⟨ag1,List.replicate (y1:List aB).length none⟩:dH) y1)))) (λ_=>rfl) [[_], [_], [_], [_], [_], [_],_] rfl 2 rfl rfl) (qC (toN (L':=([aM ag3 y3,bR (⟨ag2,List.replicate (y2:List aQ).length none⟩:dH) y2,aW (⟨ag1,List.replicate (y1:List aB).length none⟩:dH) y1,bM (⟨ag0,List.replicate (y0:List aH).length none⟩:dH) y0,(some k5,.obj 30 (iK)),OC k2 p0.Seq ((⟨ag0,List.replicate (y0:List aH).length none⟩:dH).a) ((⟨ag1,List.replicate (y1:List aB).length none⟩:dH).a) ((⟨ag2,List.replicate (y2:List aQ).length none⟩:dH).a) ag3]++((bS (⟨ag2,List.replicate (y2:List aQ).length none⟩:dH) y2)++((a9 (⟨ag1,List.replicate (y1:List aB).length none⟩:dH) y1)++(bQ (⟨ag0,List.replicate (y0:List aH).length none⟩:dH) y0))))) (λ_=>rfl) [[_], [_], [_], [_], [_], [_],_,_] rfl 3 rfl rfl) (v0 (dN dV rfl rfl (vl 5 (aw (⟨ag0,List.replicate (y0:List aH).length none⟩:dH).a.t (⟨ag0,List.replicate (y0:List aH).length none⟩:dH).a.n (⟨ag0,List.replicate (y0:List aH).length none⟩:dH).a.cap) fC rfl rfl rfl (bW (dQ jQ ((C4.zero (l:=aH.Locs) (szi:=4) O0).k.a) rfl) ?_))))))))))
 refine US m (σ:=(List aH)×Int) (τ:=dH) (λg s=>([aM ag3 y3,bR (⟨ag2,List.replicate (y2:List aQ).length none⟩:dH) y2,aW (⟨ag1,List.replicate (y1:List aB).length none⟩:dH) y1,bM g s.1,(some k5,.obj 30 (iK)),OC k2 p0.Seq g.a ((⟨ag1,List.replicate (y1:List aB).length none⟩:dH).a) ((⟨ag2,List.replicate (y2:List aQ).length none⟩:dH).a) ag3]++((bS (⟨ag2,List.replicate (y2:List aQ).length none⟩:dH) y2)++((a9 (⟨ag1,List.replicate (y1:List aB).length none⟩:dH) y1)++(bQ g s.1))))) (λg s=>C4 aH.Locs 4 4 g (s.1:List aH) s.2.toNat (y0:List aH).length) (λg s=>mD aH.Locs 4 4 g (s.1:List aH)) (λg s=>.c 1 (.ptr k2 0) (.c 2 (.ptr k5 0) (.c 26 (nZ (y0.length:Int)) (.c 27 (nZ s.2) .nil)))) (⟨ag0,List.replicate (y0:List aH).length none⟩:dH) (C4.zero (l:=aH.Locs) (szi:=4) O0) (lx (.k4 .nil)) ?_ ?_
 rintro ng0 ⟨q0,q1⟩ x O4 m
 replace m:tJ w y0 q0 q1=some x:=m
 unfold tJ at m
 refine vs (v0 (vs (v0 ?_)))
 apply vi m <;> intro c0 m
 refine v0 (vs (v0 (vs (v0 (vs (v0 (dN dV rfl rfl (vl 5 (aZ ng0.a) fC rfl rfl rfl ?_))))))))
 obtain⟨x0,X0,m⟩:=aC m
 refine bW (cP (O4.k.ix X0) iJ O4.k.z rfl rfl) (qC (M2 (L':=([aM ag3 y3,bR (⟨ag2,List.replicate (y2:List aQ).length none⟩:dH) y2,aW (⟨ag1,List.replicate (y1:List aB).length none⟩:dH) y1,bM ng0 q0,(some k5,.obj 30 (iK)),OC k2 p0.Seq ng0.a ((⟨ag1,List.replicate (y1:List aB).length none⟩:dH).a) ((⟨ag2,List.replicate (y2:List aQ).length none⟩:dH).a) ag3]++((bS (⟨ag2,List.replicate (y2:List aQ).length none⟩:dH) y2)++((a9 (⟨ag1,List.replicate (y1:List aB).length none⟩:dH) y1)++(kK 81 aO ((nl aH.Locs (zg (q0:List aH) ng0.gs)).eraseIdx q1.toNat)))))) [[_], [_], [_], [_], [_], [_],_,_,_] rfl 8 (q1.toNat) rfl rfl) (v0 (vz [(14,ng0.a.t,.obj 60 (fl kO (zg (q0:List aH) ng0.gs) ng0.a.sp))] mixed (λu=>⟨λ_=>aI 3 u rfl,trivial⟩) λu=>zC 0 rfl (eS (wH _ _) rfl) (zC 1 rfl (eS (wH _ _) rfl) (zC 2 rfl (eS (wH _ _) rfl) (zC 3 rfl (iW (bK.ne O4.k.z (O4.k.ix X0)) rfl) (zC 4 rfl (cV (bK.ne O4.k.z (O4.k.ix X0)) oJ rfl rfl) (wJ 5 rfl (λ_ _ hi hB=>dW (fo:=1) (.agg (aX x0.Man)) (O4.k.ix X0) kP O4.k.z m6 rfl (fV.get 0 hi rfl (hB 14 (by kernel_rfl))) (λ_=>rfl)) ?_))))))))
 obtain⟨y4,Y4,m⟩:=aC m
 refine zC 6 rfl (cC (aAC _ Y4) rfl SI rfl) (zC 7 rfl (eS (wH _ _) rfl) (zC 8 rfl (iW (bK.ne O4.k.z (O4.k.ix X0)) rfl) (zC 9 rfl (cV (bK.ne O4.k.z (O4.k.ix X0)) jS rfl rfl) (wJ 10 rfl (λ_ _ hi hB=>fB (dW (fo:=3) (awO aO 4 (gx ng0.gs q1.toNat) x0.Locs) (O4.k.ix X0) kP O4.k.z eZ rfl (fV.get 0 hi rfl (hB 14 (by kernel_rfl))) (λ_=>rfl)) (bJ.of_eq (congrArg (λz=>awO aO 4 z x0.Locs) (O4.post _ (Nat.le_refl _))))) ?_))))
 obtain⟨y5,Y5,m⟩:=aC m
 refine zE 11 rfl (cM (UM _ Y5) rfl UN rfl ?_)
 rintro x h' ⟨ag4,O5,K10,rfl,rfl⟩
 rw[iV]
 refine⟨⟨λ_=>aI 4 (bV.co u K10) rfl,trivial⟩, ?_⟩
 refine zC 12 rfl (iW (bK.ne O4.k.z (O4.k.ix X0)) rfl) (zC 13 rfl (cV (bK.ne O4.k.z (O4.k.ix X0)) oJ rfl rfl) (zE 14 rfl (cK (fo:=1) (x':=(({ x0 with Man:=y4}:aH),(gx ng0.gs q1.toNat))) 4 (bV.co u K10) (O4.k.ix X0) kP O4.k.z rfl rfl rfl rfl (cX.refl _ _) AE rfl rfl ?_)))
 intro K11
 have hs0:tB aH.Locs 4 4 ng0 (q0:List aH):=O4.k
 have hn0:hp h _=hp h ([fH ag4 y5,aM ag3 y3,bR (⟨ag2,List.replicate (y2:List aQ).length none⟩:dH) y2,aW (⟨ag1,List.replicate (y1:List aB).length none⟩:dH) y1,bM ng0 (q0.set q1.toNat ({ x0 with Man:=y4})),(some k5,.obj 30 (iK)),OC k2 p0.Seq ng0.a ((⟨ag1,List.replicate (y1:List aB).length none⟩:dH).a) ((⟨ag2,List.replicate (y2:List aQ).length none⟩:dH).a) ag3]++((bS (⟨ag2,List.replicate (y2:List aQ).length none⟩:dH) y2)++((a9 (⟨ag1,List.replicate (y1:List aB).length none⟩:dH) y1)++(kK 81 aO ((nl aH.Locs (zg (q0.set q1.toNat ({ x0 with Man:=y4}):List aH) ng0.gs)).eraseIdx q1.toNat)))))∧bV h ([fH ag4 y5,aM ag3 y3,bR (⟨ag2,List.replicate (y2:List aQ).length none⟩:dH) y2,aW (⟨ag1,List.replicate (y1:List aB).length none⟩:dH) y1,bM ng0 (q0.set q1.toNat ({ x0 with Man:=y4})),(some k5,.obj 30 (iK)),OC k2 p0.Seq ng0.a ((⟨ag1,List.replicate (y1:List aB).length none⟩:dH).a) ((⟨ag2,List.replicate (y2:List aQ).length none⟩:dH).a) ag3]++((bS (⟨ag2,List.replicate (y2:List aQ).length none⟩:dH) y2)++((a9 (⟨ag1,List.replicate (y1:List aB).length none⟩:dH) y1)++(kK 81 aO ((nl aH.Locs (zg (q0.set q1.toNat ({ x0 with Man:=y4}):List aH) ng0.gs)).eraseIdx q1.toNat))))):=eqN (L:=_) K11 (by unfold bM; (try unfold bQ); rw[(hs0.set (x':=({ x0 with Man:=y4}:aH)) X0 rfl).2.2,← (hs0.set (x':=({ x0 with Man:=y4}:aH)) X0 rfl).2.1]; first | done | rfl)
 refine kT hn0.1 (⟨⟨λe=>absurd e (by decide),trivial⟩, ?_⟩)
 refine zC 15 rfl (iW (bK.ne ((O4.set (x':=({ x0 with Man:=y4}:aH)) X0 rfl).k.z) ((O4.set (x':=({ x0 with Man:=y4}:aH)) X0 rfl).k.ix (dG (x':=({ x0 with Man:=y4}:aH)) X0))) rfl) (zC 16 rfl (cV (bK.ne ((O4.set (x':=({ x0 with Man:=y4}:aH)) X0 rfl).k.z) ((O4.set (x':=({ x0 with Man:=y4}:aH)) X0 rfl).k.ix (dG (x':=({ x0 with Man:=y4}:aH)) X0))) jS rfl rfl) (zE 17 rfl (cK (fo:=3) (x':=(({ ({ x0 with Man:=y4}:aH) with Locs:=y5}:aH),some ag4)) 4 hn0.2 ((O4.set (x':=({ x0 with Man:=y4}:aH)) X0 rfl).k.ix (dG (x':=({ x0 with Man:=y4}:aH)) X0)) kP ((O4.set (x':=({ x0 with Man:=y4}:aH)) X0 rfl).k.z) rfl rfl (cD rfl) (cG (bY _ _ _) rfl) (cX.refl _ _) nX rfl rfl ?_)))
 intro K12
 have O6:=(O4.set (x':=({ x0 with Man:=y4}:aH)) X0 rfl).step (x':=({ ({ x0 with Man:=y4}:aH) with Locs:=y5}:aH)) (dG (x':=({ x0 with Man:=y4}:aH)) X0) ag4 O5
 have hr0:=tC (L':=(eG ag4 y5)::(([aM ag3 y3,bR (⟨ag2,List.replicate (y2:List aQ).length none⟩:dH) y2,aW (⟨ag1,List.replicate (y1:List aB).length none⟩:dH) y1,(ng0.a.t,.obj 60 (fl kO (((zg (q0.set q1.toNat ({ x0 with Man:=y4}):List aH) ng0.gs)).set q1.toNat (({ ({ x0 with Man:=y4}:aH) with Locs:=y5}:aH),some ag4)) ng0.a.sp)),(some k5,.obj 30 (iK)),OC k2 p0.Seq ng0.a ((⟨ag1,List.replicate (y1:List aB).length none⟩:dH).a) ((⟨ag2,List.replicate (y2:List aQ).length none⟩:dH).a) ag3]:HL)++((bS (⟨ag2,List.replicate (y2:List aQ).length none⟩:dH) y2)++((a9 (⟨ag1,List.replicate (y1:List aB).length none⟩:dH) y1)++(kK 81 aO ((nl aH.Locs (zg (q0.set q1.toNat ({ x0 with Man:=y4}):List aH) ng0.gs)).eraseIdx q1.toNat)))))) K12 [[_], [_], [_], [_], [_], [_], [_],_,_,_] rfl [0,1,2,3,4,5,6,7,8,9] rfl rfl
 have hj0:=oW (L':=([aM ag3 y3,bR (⟨ag2,List.replicate (y2:List aQ).length none⟩:dH) y2,aW (⟨ag1,List.replicate (y1:List aB).length none⟩:dH) y1,bM (⟨ng0.a,ng0.gs.set q1.toNat (some ag4)⟩:dH) ((q0.set q1.toNat ({ x0 with Man:=y4})).set q1.toNat ({ ({ x0 with Man:=y4}:aH) with Locs:=y5})),(some k5,.obj 30 (iK)),OC k2 p0.Seq ((⟨ng0.a,ng0.gs.set q1.toNat (some ag4)⟩:dH).a) ((⟨ag1,List.replicate (y1:List aB).length none⟩:dH).a) ((⟨ag2,List.replicate (y2:List aQ).length none⟩:dH).a) ag3]++((bS (⟨ag2,List.replicate (y2:List aQ).length none⟩:dH) y2)++((a9 (⟨ag1,List.replicate (y1:List aB).length none⟩:dH) y1)++(bQ (⟨ng0.a,ng0.gs.set q1.toNat (some ag4)⟩:dH) ((q0.set q1.toNat ({ x0 with Man:=y4})).set q1.toNat ({ ({ x0 with Man:=y4}:aH) with Locs:=y5}))))))) [[_], [_], [_], [_], [_], [_],_,_,_] rfl 8 (zs:=nl aH.Locs (zg (q0.set q1.toNat ({ x0 with Man:=y4}):List aH) ng0.gs)) (j:=q1.toNat) (aH.Locs ({ ({ x0 with Man:=y4}:aH) with Locs:=y5}:aH),some ag4) (jO ((O4.set (x':=({ x0 with Man:=y4}:aH)) X0 rfl).k.nlat (dG (x':=({ x0 with Man:=y4}:aH)) X0))) rfl hr0.2 (by rw[← ((O4.set (x':=({ x0 with Man:=y4}:aH)) X0 rfl).k.setL (x':=({ ({ x0 with Man:=y4}:aH) with Locs:=y5}:aH)) (dG (x':=({ x0 with Man:=y4}:aH)) X0) ag4 O5).2.2,((O4.set (x':=({ x0 with Man:=y4}:aH)) X0 rfl).k.setL (x':=({ ({ x0 with Man:=y4}:aH) with Locs:=y5}:aH)) (dG (x':=({ x0 with Man:=y4}:aH)) X0) ag4 O5).2.1]; rfl)
 refine kT (hr0.1.trans hj0.1) (⟨⟨λe=>absurd e (by decide),trivial⟩, ?_⟩)
 exact zX (qk (f:=TE 49 _ _ _ _ _ _ _ _ _ _ _ _ _ _ _ _ _) hj0.2 rfl (v0 (eW m (⟨ng0.a,ng0.gs.set q1.toNat (some ag4)⟩:dH) O6 (lx (.k4 .nil)))))
 exact v0 (lK m ng0 (O4.all c0) (lx (.k4 .nil)))
 rintro ng1 ⟨r0,r1⟩ t0 m
 refine vs (vs (v0 (dN dY rfl rfl (vl 5 (aw (⟨ag1,List.replicate (y1:List aB).length none⟩:dH).a.t (⟨ag1,List.replicate (y1:List aB).length none⟩:dH).a.n (⟨ag1,List.replicate (y1:List aB).length none⟩:dH).a.cap) eU rfl rfl rfl (bW (dQ iX ((C4.zero (l:=aB.Locs) (szi:=4) O1).k.a) rfl) (US m (σ:=(List aB)×Int) (τ:=dH) (λg s=>([aM ag3 y3,bR (⟨ag2,List.replicate (y2:List aQ).length none⟩:dH) y2,aW g s.1,bM ng1 r0,(some k5,.obj 30 (iK)),OC k2 p0.Seq ng1.a g.a ((⟨ag2,List.replicate (y2:List aQ).length none⟩:dH).a) ag3]++((bS (⟨ag2,List.replicate (y2:List aQ).length none⟩:dH) y2)++((a9 g s.1)++(bQ ng1 r0))))) (λg s=>C4 aB.Locs 35 4 g (s.1:List aB) s.2.toNat (y1:List aB).length) (λg s=>mD aB.Locs 35 4 g (s.1:List aB)) (λg s=>.c 1 (.ptr k2 0) (.c 2 (.ptr k5 0) (.c 53 (nZ (y1.length:Int)) (.c 54 (nZ s.2) .nil)))) (⟨ag1,List.replicate (y1:List aB).length none⟩:dH) (C4.zero (l:=aB.Locs) (szi:=4) O1) (lx (.k4 .nil)) ?_ ?_))))))
 rintro ng2 ⟨q2,q3⟩ x O7 m
 replace m:tK w y1 q2 q3=some x:=m
 unfold tK at m
 refine vs (v0 (vs (v0 ?_)))
 apply vi m <;> intro c1 m
 refine v0 (vs (v0 (vs (v0 (vs (v0 (dN dY rfl rfl (vl 5 (aZ ng2.a) eU rfl rfl rfl ?_))))))))
 obtain⟨x1,X1,m⟩:=aC m
 refine bW (cP (O7.k.ix X1) fJ O7.k.z rfl rfl) (qC (M2 (L':=([aM ag3 y3,bR (⟨ag2,List.replicate (y2:List aQ).length none⟩:dH) y2,aW ng2 q2,bM ng1 r0,(some k5,.obj 30 (iK)),OC k2 p0.Seq ng1.a ng2.a ((⟨ag2,List.replicate (y2:List aQ).length none⟩:dH).a) ag3]++((bS (⟨ag2,List.replicate (y2:List aQ).length none⟩:dH) y2)++((kK 81 aO ((nl aB.Locs (zg (q2:List aB) ng2.gs)).eraseIdx q3.toNat))++(bQ ng1 r0))))) [[_], [_], [_], [_], [_], [_],_,_,_] rfl 7 (q3.toNat) rfl rfl) (v0 (vz [(14,ng2.a.t,.obj 44 (fl jK (zg (q2:List aB) ng2.gs) ng2.a.sp))] mixed (λu=>⟨λ_=>aI 2 u rfl,trivial⟩) λu=>zC 0 rfl (eS (wH _ _) rfl) (zC 1 rfl (eS (wH _ _) rfl) (zC 2 rfl (eS (wH _ _) rfl) (zC 3 rfl (iW (bK.ne O7.k.z (O7.k.ix X1)) rfl) (zC 4 rfl (cV (bK.ne O7.k.z (O7.k.ix X1)) jR rfl rfl) (wJ 5 rfl (λ_ _ hi hB=>dW (fo:=33) (.sl none 1 (List.map dF x1.Data)) (O7.k.ix X1) iS O7.k.z lR rfl (fV.get 0 hi rfl (hB 14 (by kernel_rfl))) (λ_=>rfl)) (zC 7 rfl (eS (wH _ _) rfl) (zC 8 rfl (iW (bK.ne O7.k.z (O7.k.ix X1)) rfl) (zC 9 rfl (cV (bK.ne O7.k.z (O7.k.ix X1)) iY rfl rfl) (wJ 10 rfl (λ_ _ hi hB=>fB (dW (fo:=34) (awO aO 4 (gx ng2.gs q3.toNat) x1.Locs) (O7.k.ix X1) iS O7.k.z eZ rfl (fV.get 0 hi rfl (hB 14 (by kernel_rfl))) (λ_=>rfl)) (bJ.of_eq (congrArg (λz=>awO aO 4 z x1.Locs) (O7.post _ (Nat.le_refl _))))) ?_))))))))))))
 obtain⟨y6,Y6,m⟩:=aC m
 refine zE 6 rfl (cM (W96 _ Y6) rfl P9 rfl ?_)
 rintro x h' ⟨tg0,t1,K13,rfl,rfl⟩
 rw[iV]
 refine⟨⟨λ_=>aI 3 (bV.co u K13) rfl,trivial⟩, ?_⟩
 obtain⟨y7,Y7,m⟩:=aC m
 refine zE 11 rfl (cM (UM _ Y7) rfl UN rfl ?_)
 rintro x h' ⟨ag5,O8,K14,rfl,rfl⟩
 rw[iV]
 refine⟨⟨λ_=>aI 4 (bV.co (bV.co u K13) K14) rfl,trivial⟩, ?_⟩
 refine zC 12 rfl (iW (bK.ne O7.k.z (O7.k.ix X1)) rfl) (zC 13 rfl (cV (bK.ne O7.k.z (O7.k.ix X1)) jR rfl rfl) (zE 14 rfl (xV (s:=67) (.sl none 1 (List.map dF y6)) (aS (.cons_cons _ (.cons _ (.refl _))) (bV.co (bV.co u K13) K14)).1 (Fz.ale (aS (.cons_cons _ (.cons _ (.refl _))) (bV.co (bV.co u K13) K14)).1 (mZ _ 1 t1 (bV.co (bV.co u K13) K14) rfl (.refl _))) (cK (fo:=33) (x':=(({ x1 with Data:=y6}:aB),(gx ng2.gs q3.toNat))) 3 ((aS (.cons_cons _ (.cons _ (.refl _))) (bV.co (bV.co u K13) K14)).2) (O7.k.ix X1) iS O7.k.z rfl rfl rfl rfl (cX.refl _ _) CQ rfl rfl ?_))))
 intro K15
 have hs1:tB aB.Locs 35 4 ng2 (q2:List aB):=O7.k
 have hn1:hp h _=hp h ([fH ag5 y7,aM ag3 y3,bR (⟨ag2,List.replicate (y2:List aQ).length none⟩:dH) y2,aW ng2 (q2.set q3.toNat ({ x1 with Data:=y6})),bM ng1 r0,(some k5,.obj 30 (iK)),OC k2 p0.Seq ng1.a ng2.a ((⟨ag2,List.replicate (y2:List aQ).length none⟩:dH).a) ag3]++((bS (⟨ag2,List.replicate (y2:List aQ).length none⟩:dH) y2)++((kK 81 aO ((nl aB.Locs (zg (q2.set q3.toNat ({ x1 with Data:=y6}):List aB) ng2.gs)).eraseIdx q3.toNat))++(bQ ng1 r0))))∧bV h ([fH ag5 y7,aM ag3 y3,bR (⟨ag2,List.replicate (y2:List aQ).length none⟩:dH) y2,aW ng2 (q2.set q3.toNat ({ x1 with Data:=y6})),bM ng1 r0,(some k5,.obj 30 (iK)),OC k2 p0.Seq ng1.a ng2.a ((⟨ag2,List.replicate (y2:List aQ).length none⟩:dH).a) ag3]++((bS (⟨ag2,List.replicate (y2:List aQ).length none⟩:dH) y2)++((kK 81 aO ((nl aB.Locs (zg (q2.set q3.toNat ({ x1 with Data:=y6}):List aB) ng2.gs)).eraseIdx q3.toNat))++(bQ ng1 r0)))):=eqN (L:=_) K15 (by unfold aW; (try unfold a9); rw[(hs1.set (x':=({ x1 with Data:=y6}:aB)) X1 rfl).2.2,← (hs1.set (x':=({ x1 with Data:=y6}:aB)) X1 rfl).2.1]; first | done | rfl)
 refine kT hn1.1 (⟨⟨λe=>absurd e (by decide),trivial⟩, ?_⟩)
 refine zC 15 rfl (iW (bK.ne ((O7.set (x':=({ x1 with Data:=y6}:aB)) X1 rfl).k.z) ((O7.set (x':=({ x1 with Data:=y6}:aB)) X1 rfl).k.ix (dG (x':=({ x1 with Data:=y6}:aB)) X1))) rfl) (zC 16 rfl (cV (bK.ne ((O7.set (x':=({ x1 with Data:=y6}:aB)) X1 rfl).k.z) ((O7.set (x':=({ x1 with Data:=y6}:aB)) X1 rfl).k.ix (dG (x':=({ x1 with Data:=y6}:aB)) X1))) iY rfl rfl) (zE 17 rfl (cK (fo:=34) (x':=(({ ({ x1 with Data:=y6}:aB) with Locs:=y7}:aB),some ag5)) 3 hn1.2 ((O7.set (x':=({ x1 with Data:=y6}:aB)) X1 rfl).k.ix (dG (x':=({ x1 with Data:=y6}:aB)) X1)) iS ((O7.set (x':=({ x1 with Data:=y6}:aB)) X1 rfl).k.z) rfl rfl (cD rfl) (cG (bY _ _ _) rfl) (cX.refl _ _) nX rfl rfl ?_)))
 intro K16
 have O9:=(O7.set (x':=({ x1 with Data:=y6}:aB)) X1 rfl).step (x':=({ ({ x1 with Data:=y6}:aB) with Locs:=y7}:aB)) (dG (x':=({ x1 with Data:=y6}:aB)) X1) ag5 O8
 have hr1:=tC (L':=(eG ag5 y7)::(([aM ag3 y3,bR (⟨ag2,List.replicate (y2:List aQ).length none⟩:dH) y2,(ng2.a.t,.obj 44 (fl jK (((zg (q2.set q3.toNat ({ x1 with Data:=y6}):List aB) ng2.gs)).set q3.toNat (({ ({ x1 with Data:=y6}:aB) with Locs:=y7}:aB),some ag5)) ng2.a.sp)),bM ng1 r0,(some k5,.obj 30 (iK)),OC k2 p0.Seq ng1.a ng2.a ((⟨ag2,List.replicate (y2:List aQ).length none⟩:dH).a) ag3]:HL)++((bS (⟨ag2,List.replicate (y2:List aQ).length none⟩:dH) y2)++((kK 81 aO ((nl aB.Locs (zg (q2.set q3.toNat ({ x1 with Data:=y6}):List aB) ng2.gs)).eraseIdx q3.toNat))++(bQ ng1 r0))))) K16 [[_], [_], [_], [_], [_], [_], [_],_,_,_] rfl [0,1,2,3,4,5,6,7,8,9] rfl rfl
 have hj1:=oW (L':=([aM ag3 y3,bR (⟨ag2,List.replicate (y2:List aQ).length none⟩:dH) y2,aW (⟨ng2.a,ng2.gs.set q3.toNat (some ag5)⟩:dH) ((q2.set q3.toNat ({ x1 with Data:=y6})).set q3.toNat ({ ({ x1 with Data:=y6}:aB) with Locs:=y7})),bM ng1 r0,(some k5,.obj 30 (iK)),OC k2 p0.Seq ng1.a ((⟨ng2.a,ng2.gs.set q3.toNat (some ag5)⟩:dH).a) ((⟨ag2,List.replicate (y2:List aQ).length none⟩:dH).a) ag3]++((bS (⟨ag2,List.replicate (y2:List aQ).length none⟩:dH) y2)++((a9 (⟨ng2.a,ng2.gs.set q3.toNat (some ag5)⟩:dH) ((q2.set q3.toNat ({ x1 with Data:=y6})).set q3.toNat ({ ({ x1 with Data:=y6}:aB) with Locs:=y7})))++(bQ ng1 r0))))) [[_], [_], [_], [_], [_], [_],_,_,_] rfl 7 (zs:=nl aB.Locs (zg (q2.set q3.toNat ({ x1 with Data:=y6}):List aB) ng2.gs)) (j:=q3.toNat) (aB.Locs ({ ({ x1 with Data:=y6}:aB) with Locs:=y7}:aB),some ag5) (jO ((O7.set (x':=({ x1 with Data:=y6}:aB)) X1 rfl).k.nlat (dG (x':=({ x1 with Data:=y6}:aB)) X1))) rfl hr1.2 (by rw[← ((O7.set (x':=({ x1 with Data:=y6}:aB)) X1 rfl).k.setL (x':=({ ({ x1 with Data:=y6}:aB) with Locs:=y7}:aB)) (dG (x':=({ x1 with Data:=y6}:aB)) X1) ag5 O8).2.2,((O7.set (x':=({ x1 with Data:=y6}:aB)) X1 rfl).k.setL (x':=({ ({ x1 with Data:=y6}:aB) with Locs:=y7}:aB)) (dG (x':=({ x1 with Data:=y6}:aB)) X1) ag5 O8).2.1]; rfl)
 refine kT (hr1.1.trans hj1.1) (⟨⟨λe=>absurd e (by decide),trivial⟩, ?_⟩)
 exact zX (qk (f:=fq5 76 _ _ _ _ _ (.c 67 _ (PU 71 _ _ _ _ (fq6 66 _ _ _ _ _ _ _)))) hj1.2 rfl (v0 (eW m (⟨ng2.a,ng2.gs.set q3.toNat (some ag5)⟩:dH) O9 (lx (.k4 .nil)))))
 exact v0 (lK m ng2 (O7.all c1) (lx (.k4 .nil)))
 rintro ng3 ⟨r2,r3⟩ t2 m
 refine vs (vs (v0 (dN eR rfl rfl (vl 5 (aw (⟨ag2,List.replicate (y2:List aQ).length none⟩:dH).a.t (⟨ag2,List.replicate (y2:List aQ).length none⟩:dH).a.n (⟨ag2,List.replicate (y2:List aQ).length none⟩:dH).a.cap) iF rfl rfl rfl (bW (dQ nW ((C4.zero (l:=aQ.Locs) (szi:=4) O2).k.a) rfl) (US m (σ:=(List aQ)×Int) (τ:=dH) (λg s=>([aM ag3 y3,bR g s.1,aW ng3 r2,bM ng1 r0,(some k5,.obj 30 (iK)),OC k2 p0.Seq ng1.a ng3.a g.a ag3]++((bS g s.1)++((a9 ng3 r2)++(bQ ng1 r0))))) (λg s=>C4 aQ.Locs 3 4 g (s.1:List aQ) s.2.toNat (y2:List aQ).length) (λg s=>mD aQ.Locs 3 4 g (s.1:List aQ)) (λg s=>.c 1 (.ptr k2 0) (.c 2 (.ptr k5 0) (.c 80 (nZ (y2.length:Int)) (.c 81 (nZ s.2) .nil)))) (⟨ag2,List.replicate (y2:List aQ).length none⟩:dH) (C4.zero (l:=aQ.Locs) (szi:=4) O2) (lx (.k4 .nil)) ?_ ?_))))))
 rintro ng4 ⟨q4,q5⟩ x O10 m
 replace m:tL w y2 q4 q5=some x:=m
 unfold tL at m
 refine vs (v0 (vs (v0 ?_)))
 apply vi m <;> intro c2 m
 refine v0 (vs (v0 (vs (v0 (qC (M2 (L':=([aM ag3 y3,bR ng4 q4,aW ng3 r2,bM ng1 r0,(some k5,.obj 30 (iK)),OC k2 p0.Seq ng1.a ng3.a ng4.a ag3]++((kK 81 aO ((nl aQ.Locs (zg (q4:List aQ) ng4.gs)).eraseIdx q5.toNat))++((a9 ng3 r2)++(bQ ng1 r0))))) [[_], [_], [_], [_], [_], [_],_,_,_] rfl 6 (q5.toNat) rfl rfl) (v0 (vz [(1000000,some k2,.obj 30 ([nZ p0.Seq,aZ ng1.a,aZ ng3.a,aZ ng4.a,aZ ag3])),(12,ng4.a.t,.obj 99 (fl lG (zg (q4:List aQ) ng4.gs) ng4.a.sp))] mixed (λu=>⟨λ_=>aI 5 u rfl,λ_=>aI 1 u rfl,trivial⟩) λu=>zF 0 rfl eR rfl (zL 1 0 (aZ ng4.a) rfl iF rfl rfl rfl (zI 2 rfl rfl (zF 3 rfl eR rfl (zL 4 0 (aZ ng4.a) rfl iF rfl rfl rfl (zI 5 rfl rfl ?_))))))))))))
 obtain⟨x2,X2,m⟩:=aC m
 refine zC 6 rfl (cP (O10.k.ix X2) iE O10.k.z rfl rfl) (zC 7 rfl (cV (bK.ne O10.k.z (O10.k.ix X2)) lD rfl rfl) (wJ 8 rfl (λ_ _ hi hB=>fB (dW (fo:=2) (awO aO 4 (gx ng4.gs q5.toNat) x2.Locs) (O10.k.ix X2) oY O10.k.z eZ rfl (fV.get 1 hi rfl (hB 12 (by kernel_rfl))) (λ_=>rfl)) (bJ.of_eq (congrArg (λz=>awO aO 4 z x2.Locs) (O10.post _ (Nat.le_refl _))))) ?_))
 obtain⟨y8,Y8,m⟩:=aC m
 refine zE 9 rfl (cM (UM _ Y8) rfl UN rfl ?_)
 rintro x h' ⟨ag6,O11,K17,rfl,rfl⟩
 rw[iV]
 refine⟨⟨λ_=>aI 6 (bV.co u K17) rfl,λ_=>aI 2 (bV.co u K17) rfl,trivial⟩, ?_⟩
 obtain⟨x3,X3,m⟩:=aC m
 refine zC 10 rfl (cP (O10.k.ix X3) iE O10.k.z rfl rfl) (zC 11 rfl (cV (bK.ne O10.k.z (O10.k.ix X3)) lD rfl rfl) (zE 12 rfl (cK (fo:=2) (x':=(({ x3 with Locs:=y8}:aQ),some ag6)) 2 (bV.co u K17) (O10.k.ix X3) oY O10.k.z rfl rfl (cD rfl) (cG (bY _ _ _) rfl) (cX.refl _ _) nX rfl rfl ?_)))
 intro K18
 have O12:=O10.step (x':=({ x3 with Locs:=y8}:aQ)) X3 ag6 O11
 have hr2:=tC (L':=(eG ag6 y8)::(([aM ag3 y3,(ng4.a.t,.obj 99 (fl lG (((zg (q4:List aQ) ng4.gs)).set q5.toNat (({ x3 with Locs:=y8}:aQ),some ag6)) ng4.a.sp)),aW ng3 r2,bM ng1 r0,(some k5,.obj 30 (iK)),OC k2 p0.Seq ng1.a ng3.a ng4.a ag3]:HL)++((kK 81 aO ((nl aQ.Locs (zg (q4:List aQ) ng4.gs)).eraseIdx q5.toNat))++((a9 ng3 r2)++(bQ ng1 r0))))) K18 [[_], [_], [_], [_], [_], [_], [_],_,_,_] rfl [0,1,2,3,4,5,6,7,8,9] rfl rfl
 have hj2:=oW (L':=([aM ag3 y3,bR (⟨ng4.a,ng4.gs.set q5.toNat (some ag6)⟩:dH) (q4.set q5.toNat ({ x3 with Locs:=y8})),aW ng3 r2,bM ng1 r0,(some k5,.obj 30 (iK)),OC k2 p0.Seq ng1.a ng3.a ((⟨ng4.a,ng4.gs.set q5.toNat (some ag6)⟩:dH).a) ag3]++((bS (⟨ng4.a,ng4.gs.set q5.toNat (some ag6)⟩:dH) (q4.set q5.toNat ({ x3 with Locs:=y8})))++((a9 ng3 r2)++(bQ ng1 r0))))) [[_], [_], [_], [_], [_], [_],_,_,_] rfl 6 (zs:=nl aQ.Locs (zg (q4:List aQ) ng4.gs)) (j:=q5.toNat) (aQ.Locs ({ x3 with Locs:=y8}:aQ),some ag6) (jO (O10.k.nlat X3)) rfl hr2.2 (by rw[← (O10.k.setL (x':=({ x3 with Locs:=y8}:aQ)) X3 ag6 O11).2.2,(O10.k.setL (x':=({ x3 with Locs:=y8}:aQ)) X3 ag6 O11).2.1]; rfl)
 refine kT (hr2.1.trans hj2.1) (⟨⟨λ_=>aI 5 hj2.2 rfl,λe=>absurd e (by decide),trivial⟩, ?_⟩)
 exact zX (qk (f:=JR 95 _ _ _ _ _ _ _ _ _ _ _ _ _) hj2.2 rfl (v0 (eW m (⟨ng4.a,ng4.gs.set q5.toNat (some ag6)⟩:dH) O12 (lx (.k4 .nil)))))
 exact v0 (lK m ng4 (O10.all c2) (lx (.k4 .nil)))
 rintro ng5 ⟨r4,r5⟩ t3 m
 refine vs (v0 (vl 5 (.agg ([nZ p0.Seq,aZ ng1.a,aZ ng3.a,aZ ng5.a,aZ ag3])) eV rfl rfl rfl (ve λu=>aK 4 ([nZ p0.Seq,aZ ng1.a,aZ ng3.a,aZ ng5.a,aZ ag3]) u rfl rfl rfl (by repeat (first | exact rfl | refine cG (iO _ _ _) ?_ | refine cG (bY _ _ _) ?_ | refine cG (gG _ _ _ _) ?_ | refine cG rfl ?_)) lX rfl rfl λK19=>qk K19 rfl ?_)))
 refine v0 ?_
 cases m
 exact vr λu=>dX.of1 (.inl rfl) (rA (.agg ([nZ p0.Seq,aZ ng1.a,aZ ng3.a,aZ ng5.a,aZ ag3])) eV rfl (bC 4 u rfl) rfl) (tD (L':=([bM ng1 r0,aW ng3 r2,bR ng5 r4,aM ag3 y3]++((bQ ng1 r0)++((a9 ng3 r2)++(bS ng5 r4))))) u [[_], [_], [_], [_], [_], [_],_,_,_] rfl [3,2,1,0,8,7,6] rfl rfl).2 (bJ.refl _ _) ⟨ng1,t0,ng3,t2,ng5,t3,ag3,O3,(tD (L':=([bM ng1 r0,aW ng3 r2,bR ng5 r4,aM ag3 y3]++((bQ ng1 r0)++((a9 ng3 r2)++(bS ng5 r4))))) u [[_], [_], [_], [_], [_], [_],_,_,_] rfl [3,2,1,0,8,7,6] rfl rfl).1,rfl,rfl⟩
theorem aFX:aN Tryz.prog 77=true:=by kernel_rfl
end Go.Proofs.YtbbifdfldpfphaaGreat
