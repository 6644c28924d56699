import Derived.Test.YtbbifdfldpfphaaGreatK2P6
import Derived.Test.YtbbifdfldpfphaaGreatK2P3
import Derived.Test.YtbbifdfldpfphaaGreatK2P4
import Derived.Test.YtbbifdfldpfphaaGreatK2P5
set_option linter.unusedSimpArgs false
set_option linter.unusedVariables false
set_option maxHeartbeats 4000000
set_option maxRecDepth 100000
namespace Go.Proofs.YtbbifdfldpfphaaGreat
open Go.Vm
def J0 (m:Nat) (p0:bE):Option (Bool):=
 after (if (decide (p0.Kind < 1))=true then (some (.brk true)) else some (.brk (decide (3 < p0.Kind))):Option (Lp (Bool) (Bool))) λj7=>some j7
theorem aFL {u:Nat} {p0:bE} {o:Bool} (h:aF) (m:J0 u p0=some o):
 aL Tryz.prog 122 [.agg (aY p0)] h (λr h'=>r= .sc (.bool o)∧h'=h):=by
 refine fN 11 [.tmp 2] Tryz.func122 rfl rfl rfl rfl ?_
 unfold J0 at m
 refine v (gG rfl rfl λk2 K3=>vs (fB m (σ:=Bool) (λs=> [(some k2,.obj 38 (aY p0))]) (λs=>.c 2 (.sc (.bool s)) .nil) (λx m=> ?_) ?_))
 refine v (vl 0 _ bX rfl rfl rfl ?_)
 apply vi m <;> intro b8 m
 rw[b8]
 exact iN m
 rw[b8]
 exact vl 0 _ bX rfl rfl rfl (iN m)
 rintro _ j7 m
 refine v ?_
 obtain rfl:=eB m
 exact dQ rfl
theorem ZO:aO Tryz.prog 122=true:=by kernel_rfl
def sU (m:Nat) (p0:List bE) (p1:bE→Option Bool) (q0:Int):Option (Lp (Int) (Int)):=
 if (decide (q0 < (p0.length:Int)))=true then ((ix p0 q0).bind λx0=>(p1 x0).bind λy0=>if y0=true then (some (.ret q0)) else some (.go (IntKind.wrap .i64 (q0+1)))) else some (.brk q0)
def M6 (m:Nat) (p0:List bE) (p1:bE→Option Bool):Option (Int):=
 after (aT (λs=>sU m p0 p1 s) m 0) λr0=>some (-1)
theorem aFM {w:Nat} {p0:List bE} {p1:bE→Option Bool} {o:Int} (h:aF) {p1F:Nat} {p1C:List AV} (p1B:aO Tryz.prog p1F=true) (p1H:∀x0 o h0,h9 h h0→p1 x0=some o→aL Tryz.prog p1F ([.agg (aY x0)]++p1C) h0 (λr h'=>r= .sc (.bool o)∧h'=h0)) (m:M6 w p0 p1=some o):
 aL Tryz.prog 175 [.sl none 37 (List.map aY p0),.fn (.func p1F) p1C] h (λr h'=>r=nZ o∧h'=h):=by
 refine fN 19 [.tmp 4] Tryz.func175 rfl rfl rfl rfl ?_
 unfold M6 at m
 refine v (v (cZ n3 rfl (iI m (σ:=Int) (λs=> []) (λs=>.c 0 (.sl none 37 (List.map aY p0)) (.c 1 (.fn (.func p1F) p1C) (.c 7 (nZ (p0.length:Int)) (.c 8 (nZ s) .nil)))) (lx (.k4 .nil)) ?_ ?_)))
 rintro _ q0 x m
 replace m:sU w p0 p1 q0=some x:=m
 unfold sU at m
 refine v (v ?_)
 apply vi m <;> intro c0 m
 refine v (v (v (v (vx m rT rfl rfl λx1 _ m=>va (.agg (aY x1)) GA rfl rfl ?_))))
 obtain⟨_,Y0,m⟩:=aC m
 refine vn (λu=>bZ (p1H _ _ _ (aS (List.nil_sublist _) u).1 Y0) rfl p1B rfl) (v ?_)
 apply vi m <;> intro c1 m
 refine v (v (fO m λm=> ?_))
 obtain rfl:=eB m
 exact dQ rfl
 exact v (v (fR m))
 exact v (vN m)
 rintro _ r0 m
 refine v (v ?_)
 cases m
 exact dQ rfl
theorem ZP:aO Tryz.prog 175=true:=by kernel_rfl
def J1 (m:Nat) (p0:List bE) (p1:bE→Option Bool):Option (Bool):=
 (M6 m p0 p1).bind λy3=>some (decide (0≤y3))
theorem ZQ {w:Nat} {p0:List bE} {p1:bE→Option Bool} {o:Bool} (h:aF) {p1F:Nat} {p1C:List AV} (p1B:aO Tryz.prog p1F=true) (p1H:∀x0 o h0,h9 h h0→p1 x0=some o→aL Tryz.prog p1F ([.agg (aY x0)]++p1C) h0 (λr h'=>r= .sc (.bool o)∧h'=h0)) (m:J1 w p0 p1=some o):
 aL Tryz.prog 121 [.sl none 37 (List.map aY p0),.fn (.func p1F) p1C] h (λr h'=>r= .sc (.bool o)∧h'=h):=by
 refine fN 9 [.tmp 4] Tryz.func121 rfl rfl rfl rfl ?_
 unfold J1 at m
 refine v (v ?_)
 obtain⟨_,Y4,m⟩:=aC m
 refine vn (λu=>bZ (aFM _ p1B (λx0 o h0 hs ho=>p1H x0 o h0 ((aS (List.nil_sublist _) u).1.trans hs) ho) Y4) rfl ZP rfl) (v ?_)
 cases m
 exact dQ rfl
theorem RY:aO Tryz.prog 121=true:=by kernel_rfl
def QL (m:Nat) (p0:aG) (c0:List Int):Option (Bool):=
 some ((c0:List Int).any λz=>p0.Seq==z)
theorem aFN {w:Nat} {p0:aG} {c0:List Int} {o:Bool} (h:aF) {c0K c0M:cB} (c0H:h c0K=some (.obj 161 [.mpv c0M])) (c0G:h c0M=some (.mp (gD kI (c0:List Int)))) (m:QL w p0 c0=some o):
 aL Tryz.prog 125 [.agg (bP p0),.ptr c0K 0] h (λr h'=>r= .sc (.bool o)∧h'=h):=by
 refine fN 8 [.tmp 3] Tryz.func125 rfl rfl rfl rfl ?_
 unfold QL at m
 refine v (gG rfl rfl λk2 K3=>v (vn (λu=>nG (.mpv c0M) RD rfl (jR u c0H) rfl) (vl 0 _ bX rfl rfl rfl (vn (λu=>FU RE zb4 (w5.int u3) rfl rfl (jR u c0G)) (v ?_)))))
 cases m
 exact dQ rfl
theorem ZR:aO Tryz.prog 125=true:=by kernel_rfl
def nR (m:Nat) (p1:aG→Option Bool) (q0:List aG) (q1:Int) (q2:Int):Option (Lp ((List aG)×Int×Int) ((List aG))):=
 if (decide (q2 < (q0.length:Int)))=true then ((ix q0 q2).bind λx0=>(p1 x0).bind λy0=>after (if (!y0)=true then ((ix q0 q1).bind λ_=>some (.brk (q0.set q1.toNat (x0),IntKind.wrap .i64 (q1+1)))) else some (.brk (q0,q1)):Option (Lp ((List aG)×Int) (Lp ((List aG)×Int×Int) ((List aG))))) λ⟨j0,j1⟩=>some (.go (j0,j1,IntKind.wrap .i64 (q2+1)))) else some (.brk (q0,q1,q2))
def ER (m:Nat) (p0:List aG) (p1:aG→Option Bool):Option ((List aG)):=
 (u6 m p0 p1).bind λy3=>if (y3==(-1))=true then (some p0) else after (aT (λs=>nR m p1 s.1 s.2.1 s.2.2) m (p0,y3,IntKind.wrap .i64 (y3+1))) λ⟨r0,r1,r2⟩=>grd (decide (0≤r1) && decide (r1 < (r0.length:Int))) <| grd (decide (0≤r1) && decide (r1≤(r0.length:Int))) <| some (r0.take r1.toNat)
theorem ZS {w:Nat} {p0:List aG} {p1:aG→Option Bool} {o:(List aG)} (h:aF) {g_p0:cR} (ok_p0:bK g_p0 4 p0.length) (K0:bV h [(dN g_p0 p0)]) {p1F:Nat} {p1C:List AV} (p1B:aO Tryz.prog p1F=true) (p1H:∀x0 o h0,h9 h h0→p1 x0=some o→aL Tryz.prog p1F ([.agg (bP x0)]++p1C) h0 (λr h'=>r= .sc (.bool o)∧h'=h0)) (m:ER w p0 p1=some o):
 aL Tryz.prog 124 [aZ g_p0,.fn (.func p1F) p1C] (hp h [(dN g_p0 p0)]) (λr h'=>∃g:cR,bK g 4 o.length∧bV h [(g.t,.obj 60 (fl bP o g.sp))]∧r=aZ g∧h'=hp h [(g.t,.obj 60 (fl bP o g.sp))]):=by
 refine tH K0 42 [.tmp 4] Tryz.func124 rfl rfl rfl rfl ?_
 unfold ER at m
 refine vs (v0 (vs (v0 ?_)))
 obtain⟨_,Y4,m⟩:=aC m
 refine ve λu=>dA ((bC u [0] rfl rfl).1.trans (cT h [(dN g_p0 p0)] []).symm) (cK (RW (hp h []) ok_p0 (cJ [(dN g_p0 p0)] [] (bC u [0] rfl rfl).2).2 p1B (λx0 o h0 hs ho=>p1H x0 o h0 ((aS (List.nil_sublist _) (cJ [(dN g_p0 p0)] [] (bC u [0] rfl rfl).2).1).1.trans hs) ho) Y4) rfl D7 rfl ?_)
 rintro x h' ⟨rfl,rfl⟩
 refine qk u ((cT h [(dN g_p0 p0)] []).trans (bC u [0] rfl rfl).1.symm) (vs (vs (v0 (v0 ?_))))
 apply vi m <;> intro c7 m
 refine vs (v0 (v0 ?_))
 obtain rfl:=eB m
 exact vr λu=>dX.one (.inl rfl) (aS (h0:=h) (L':= [(dN g_p0 p0)]) (.refl _) u).1 (bH.refl _ _) ⟨g_p0,ok_p0,(aS (h0:=h) (L':= [(dN g_p0 p0)]) (.refl _) u).2,rfl,rfl⟩
 refine v0 (vs (vs (v0 (nC m (σ:=(List aG)×Int×Int) (τ:=cR) (λg s=> [(dN g s.1)]) (λg s=>bK g 4 (s.1:List aG).length) (λg s=>.c 0 (aZ g) (.c 1 (.fn (.func p1F) p1C) (.c 5 (nZ s.2.1) (.c 6 (nZ s.2.2) .nil)))) g_p0 ok_p0 (lx (.k4 .nil)) ?_ ?_))))
 rintro ag0 ⟨q0,q1,q2⟩ x O0 m
 replace m:nR w p1 q0 q1 q2=some x:=m
 unfold nR at m
 refine vs (vs (v0 (bU (dR iJ O0 rfl) (v0 ?_))))
 apply vi m <;> intro c0 m
 refine v0 (vs (v0 (vs (v0 ?_))))
 obtain⟨x1,X0,m⟩:=aC m
 refine bU (cL X0 gJ O0 rfl rfl) (vn (λu=>dY (fo:=0) (.agg (bP x1)) X0 eM O0 qR rfl (aI 0 u rfl) (λ_=>rfl)) (ve λu=>bD (V6) u uB rfl rfl λk86 K1=>qk K1 rfl (ve λu=>aK 0 (bP x1) u rfl rfl rfl rfl JL rfl rfl λK2=>qk K2 rfl (vs (v0 (vl 0 (.agg (bP x1)) qR rfl rfl rfl ?_))))))
 obtain⟨_,Y0,m⟩:=aC m
 refine vn (λu=>bZ (p1H _ _ _ (aS (List.nil_sublist _) u).1 Y0) rfl p1B rfl) (o6 m (σ:=(List aG)×Int) (τ:=cR) (λg s=> [(some k86,.obj 60 (bP x1)),(dN g s.1)]) (λg s=>bK g 4 (s.1:List aG).length) (λg s=>.c 0 (aZ g) (.c 1 (.fn (.func p1F) p1C) (.c 5 (nZ s.2) (.c 6 (nZ q2) .nil)))) (λx m=> ?_) ?_)
 refine v0 ?_
 apply vi m <;> intro c1 m
 refine vs (v0 (vl 0 (.agg (bP x1)) qR rfl rfl rfl ?_))
 obtain⟨_,X1,m⟩:=aC m
 exact bU (cL X1 gJ O0 rfl rfl) (ve λu=>cI (fo:=0) (x1:aG) 1 u X1 eM O0 rfl rfl rfl rfl (cU.refl _ _) JL rfl rfl λK3=>qk K3 rfl (v0 (eY m ag0 (bK.set O0) (lx (.k4 .nil)))))
 exact v0 (eY m ag0 O0 (lx (.k4 .nil)))
 rintro ag1 ⟨j0,j1⟩ O1 m
 exact v0 (eY m ag1 O1 (kP [1] rfl rfl (.k4 .nil)))
 exact v0 (lA m ag0 O0 (lx (.k4 .nil)))
 rintro ag2 ⟨r0,r1,r2⟩ t0 m
 refine vs (v0 ?_)
 obtain⟨Z0,m⟩:=mQ m
 refine bU (BU Z0 gJ t0 rfl rfl) (ve λu=>AK 0 u Z0 eM t0 u25 uB rfl rfl rfl rfl λsp0 O2 K4=>qk K4 rfl (vs (v0 ?_)))
 obtain⟨Z1,m⟩:=mQ m
 refine bU (BV Z1 t0 gJ rfl rfl) (v0 ?_)
 cases m
 exact vr λu=>dX.one (.inl rfl) (aS (h0:=h) (L':= [((⟨ag2.t,r1.toNat,ag2.cap,sp0⟩:cR).t,.obj 60 (fl bP (r0.take r1.toNat:List aG) (⟨ag2.t,r1.toNat,ag2.cap,sp0⟩:cR).sp))]) (.refl _) u).1 (bH.refl _ _) ⟨(⟨ag2.t,r1.toNat,ag2.cap,sp0⟩:cR),O2,(aS (h0:=h) (L':= [((⟨ag2.t,r1.toNat,ag2.cap,sp0⟩:cR).t,.obj 60 (fl bP (r0.take r1.toNat:List aG) (⟨ag2.t,r1.toNat,ag2.cap,sp0⟩:cR).sp))]) (.refl _) u).2,rfl,rfl⟩
theorem ZT:aO Tryz.prog 124=true:=by kernel_rfl
def oN (m:Nat) (p0:aB) (p1:aP) (x0:aR) (q0:List Int) (q1:Int) (q2:List aG) (q3:List aA) (q4:List aQ) (q5:Int):Option (Lp ((List Int)×Int×(List aG)×(List aA)×(List aQ)×Int) (Int×Int×fE)):=
 if (decide (q5 < (p1.Items.length:Int)))=true then ((ix p1.Items q5).bind λx1=>(G8 m ({ Seq:=q1,Snaps:=q2,Chunks:=q3,Exps:=q4,Vols:=(p0.Vols.set p1.Vol.toNat ({ x0 with State:=2})).set p1.Vol.toNat ({ ({ x0 with State:=2}:aR) with Files:=IntKind.wrap .i64 ((({ x0 with State:=2}:aR).Files)+1)})}:aB) x1 ({ Vol:=p1.Vol,File:=({ ({ x0 with State:=2}:aR) with Files:=IntKind.wrap .i64 ((({ x0 with State:=2}:aR).Files)+1)}:aR).Files,Off:=x1.Off,Len:=x1.Len}:bI)).bind λy0=>if (y0.1 !=0)=true then (some (.ret (y0.1,y0.2.1,y0.2.2.1,y0.2.2.2.1,y0.2.2.2.2,(p0.Vols.set p1.Vol.toNat ({ x0 with State:=2})).set p1.Vol.toNat ({ ({ x0 with State:=2}:aR) with Files:=IntKind.wrap .i64 ((({ x0 with State:=2}:aR).Files)+1)})))) else after (if (x1.Kind==3)=true then (some (.brk (mB (q0:List Int) x1.Of))) else some (.brk q0):Option (Lp ((List Int)) (Lp ((List Int)×Int×(List aG)×(List aA)×(List aQ)×Int) (Int×Int×fE)))) λj0=>(vP m y0.2.2.2.1 x1.Id).bind λy1=>after (if (x1.Kind==1)=true then (if y1.2=true then (some (.brk ((({ ({ x0 with State:=2}:aR) with Files:=IntKind.wrap .i64 ((({ x0 with State:=2}:aR).Files)+1)}:aR).Pool)==0))) else some (.brk false)) else some (.brk false):Option (Lp (Bool) (Lp ((List Int)×Int×(List aG)×(List aA)×(List aQ)×Int) (Int×Int×fE)))) λj1=>after (if j1=true then ((ix y0.2.2.2.1 y1.1).bind λx2=>(ix (y0.2.2.2.1.set y1.1.toNat ({ x2 with Staged:=false})) y1.1).bind λx3=>some (.brk ((y0.2.2.2.1.set y1.1.toNat ({ x2 with Staged:=false})).set y1.1.toNat ({ x3 with Data:=([]:List Int)})))) else some (.brk y0.2.2.2.1):Option (Lp ((List aA)) (Lp ((List Int)×Int×(List aG)×(List aA)×(List aQ)×Int) (Int×Int×fE)))) λj2=>some (.go (j0,y0.2.1,y0.2.2.1,j2,y0.2.2.2.2,IntKind.wrap .i64 (q5+1)))) else some (.brk (q0,q1,q2,q3,q4,q5))
def VX (m:Nat) (p0:aB) (p1:aP):Option (Int×Int×fE):=
 (J1 m p1.Items (λx0=>J0 m x0)).bind λy6=>after (if (decide (p1.Vol < 0))=true then (some (.brk true)) else if (decide ((p0.Vols.length:Int)≤p1.Vol))=true then (some (.brk true)) else (ix p0.Vols p1.Vol).bind λx1=>if (x1.State==3)=true then (some (.brk true)) else if (decide ((p1.Items.length:Int) < 1))=true then (some (.brk true)) else if (decide (64 < (p1.Items.length:Int)))=true then (some (.brk true)) else some (.brk (!(!y6))):Option (Lp (Bool) (Int×Int×fE))) λj0=>if j0=true then (some (1,p0.Seq,p0.Snaps,p0.Chunks,p0.Exps,p0.Vols)) else (ix p0.Vols p1.Vol).bind λx2=>after (aT (λs=>oN m p0 p1 x2 s.1 s.2.1 s.2.2.1 s.2.2.2.1 s.2.2.2.2.1 s.2.2.2.2.2) m ([],p0.Seq,p0.Snaps,p0.Chunks,p0.Exps,0)) λ⟨r0,r1,r2,r3,r4,r5⟩=>(ER m r2 (λx0=>QL m x0 (r0:List Int))).bind λy0=>after (if (decide ((y0.length:Int) < (r2.length:Int)))=true then ((G7 m ({ Seq:=r1,Snaps:=y0,Chunks:=r3,Exps:=r4,Vols:=(p0.Vols.set p1.Vol.toNat ({ x2 with State:=2})).set p1.Vol.toNat ({ ({ x2 with State:=2}:aR) with Files:=IntKind.wrap .i64 ((({ x2 with State:=2}:aR).Files)+1)})}:aB)).bind λy1=>some (.brk y1)) else some (.brk r3):Option (Lp ((List aA)) (Int×Int×fE))) λj1=>some (0,r1,y0,j1,r4,(p0.Vols.set p1.Vol.toNat ({ x2 with State:=2})).set p1.Vol.toNat ({ ({ x2 with State:=2}:aR) with Files:=IntKind.wrap .i64 ((({ x2 with State:=2}:aR).Files)+1)}))
theorem W74 {w:Nat} {p0:aB} {p1:aP} {o:Int×Int×fE} (h:aF) {p0K:cB} {gS:dF} (ok_Snaps:lX aG.Locs 4 4 gS (p0.Snaps:List aG)) {gC:dF} (oC:lX aA.Locs 35 4 gC (p0.Chunks:List aA)) {gE:dF} (oE:lX aQ.Locs 3 4 gE (p0.Exps:List aQ)) {gV:cR} (oV:bK gV 4 p0.Vols.length) (K0:bV h ([OC p0K p0.Seq gS.a gC.a gE.a gV,bM gS p0.Snaps,aW gC p0.Chunks,bR gE p0.Exps,aN gV p0.Vols]++((bQ gS p0.Snaps)++((a8 gC p0.Chunks)++(bS gE p0.Exps))))) (m:VX w p0 p1=some o):
 aL Tryz.prog 74 [.ptr p0K 0,.agg (aD p1)] (hp h ([OC p0K p0.Seq gS.a gC.a gE.a gV,bM gS p0.Snaps,aW gC p0.Chunks,bR gE p0.Exps,aN gV p0.Vols]++((bQ gS p0.Snaps)++((a8 gC p0.Chunks)++(bS gE p0.Exps))))) (λr h'=>∃g_Snaps':cR,bK g_Snaps' 4 (o.2.2.1:List aG).length∧∃g_Chunks':cR,bK g_Chunks' 35 (o.2.2.2.1:List aA).length∧∃g_Exps':cR,bK g_Exps' 3 (o.2.2.2.2.1:List aQ).length∧∃g_Vols':cR,bK g_Vols' 4 (o.2.2.2.2.2:List aR).length∧bV h [OC p0K o.2.1 g_Snaps' g_Chunks' g_Exps' g_Vols',bF g_Snaps' o.2.2.1,aV g_Chunks' o.2.2.2.1,bW g_Exps' o.2.2.2.2.1,aN g_Vols' o.2.2.2.2.2]∧r=nZ o.1∧h'=hp h [OC p0K o.2.1 g_Snaps' g_Chunks' g_Exps' g_Vols',bF g_Snaps' o.2.2.1,aV g_Chunks' o.2.2.2.1,bW g_Exps' o.2.2.2.2.1,aN g_Vols' o.2.2.2.2.2]):=by
 refine tH K0 168 [.tmp 4] Tryz.func74 rfl rfl rfl rfl ?_
 unfold VX at m
 refine vs (v0 (gG rfl rfl λk2 K3=>vs (v0 (dM gN rfl rfl (vl 0 _ jZ rfl rfl rfl ?_)))))
 obtain⟨_,Y7,m⟩:=aC m
 refine bU (bZ (ZQ _ ZO (λx0 o h0 hs ho=>aFL _ ho) Y7) rfl RY rfl) (vs (vs (fB m (σ:=Bool) (λs=>([(some k2,.obj 62 (aD p1)),OC p0K p0.Seq gS.a gC.a gE.a gV,bM gS p0.Snaps,aW gC p0.Chunks,bR gE p0.Exps,aN gV p0.Vols]++((bQ gS p0.Snaps)++((a8 gC p0.Chunks)++(bS gE p0.Exps))))) (λs=>.c 0 (.ptr p0K 0) (.c 3 (.ptr k2 0) (.c 58 (.sc (.bool s)) .nil))) (λx m=> ?_) ?_)))
 refine v0 (vU (by kernel_rfl) (dM fI rfl rfl (vl 0 _ bX rfl rfl rfl ?_)))
 apply vi m <;> intro b0 m
 rw[b0]
 exact gH m
 rw[b0]
 refine dM fI rfl rfl (vl 0 _ bX rfl rfl rfl (jL rfl (dM fS rfl rfl (vl 1 (aZ gV) iK rfl rfl rfl (bU (dR qP oV rfl) ?_)))))
 apply vi m <;> intro b1 m
 rw[b1]
 exact gH m
 rw[b1]
 refine jL rfl (dM fS rfl rfl (vl 1 (aZ gV) iK rfl rfl rfl (dM fI rfl rfl (vl 0 _ bX rfl rfl rfl ?_))))
 obtain⟨x1,X0,m⟩:=aC m
 refine bU (cL X0 lG oV rfl rfl) (bU (cS (bK.ne oV X0) mR rfl rfl) (vn (λu=>dY (fo:=2) (nZ x1.State) X0 eC oV bX rfl (aI 5 u rfl) (λ_=>rfl)) ?_))
 apply vi m <;> intro b2 m
 rw[b2]
 exact gH m
 rw[b2]
 refine dM gN rfl rfl (vl 0 _ jZ rfl rfl rfl (cZ n3 rfl ?_))
 apply vi m <;> intro b3 m
 rw[b3]
 exact gH m
 rw[b3]
 refine dM gN rfl rfl (vl 0 _ jZ rfl rfl rfl (cZ n3 rfl ?_))
 apply vi m <;> intro b4 m
 rw[b4]
 exact gH m
 rw[b4]
 exact gH m
 rintro _ j0 m
 refine v0 ?_
 apply vi m <;> intro c0 m
 refine vs (v0 (v0 ?_))
 cases m
 exact CA (DG (L':=([(some k2,.obj 62 (aD p1)),OC p0K p0.Seq gS.a gC.a gE.a gV,bF gS.a p0.Snaps,aW gC p0.Chunks,bR gE p0.Exps,aN gV p0.Vols]++((a8 gC p0.Chunks)++(bS gE p0.Exps)))) [[_], [_], [_], [_], [_], [_],_,_,_] rfl 2 6 eS p5 ok_Snaps.k rfl rfl (by decide) rfl) (CA (DG (L':=([(some k2,.obj 62 (aD p1)),OC p0K p0.Seq gS.a gC.a gE.a gV,bF gS.a p0.Snaps,aV gC.a p0.Chunks,bR gE p0.Exps,aN gV p0.Vols]++(bS gE p0.Exps))) [[_], [_], [_], [_], [_], [_],_,_] rfl 3 6 eS nQ oC.k rfl rfl (by decide) rfl) (CA (DG (L':= [(some k2,.obj 62 (aD p1)),OC p0K p0.Seq gS.a gC.a gE.a gV,bF gS.a p0.Snaps,aV gC.a p0.Chunks,bW gE.a p0.Exps,aN gV p0.Vols]) [[_], [_], [_], [_], [_], [_],_] rfl 4 6 eS uR oE.k rfl rfl (by decide) rfl) (vr λu=>dX.of1 (.inl rfl) (fU _ _ (.sc (.int _ _)) rfl) (bG u [1,2,3,4,5] rfl).2 (bH.refl _ _) ⟨gS.a,ok_Snaps.k.a,gC.a,oC.k.a,gE.a,oE.k.a,gV,oV,(bG u [1,2,3,4,5] rfl).1,rfl,rfl⟩)))
 refine v0 (vs (v0 (vU (by kernel_rfl) (jL rfl (dM fS rfl rfl (vl 1 (aZ gV) iK rfl rfl rfl (dM fI rfl rfl (vl 0 _ bX rfl rfl rfl ?_))))))))
 obtain⟨x2,X1,m⟩:=aC m
 refine bU (cL X1 lG oV rfl rfl) (vs (v0 (bU (iV (bK.ne oV X1) rfl) (bU (cS (bK.ne oV X1) mR rfl rfl) (ve λu=>cI (fo:=2) ({ x2 with State:=2}:aR) 5 u X1 eC oV rfl rfl rfl rfl (cU.refl _ _) yT rfl rfl λK1=>qk K1 rfl (vs (v0 (bU (iV (bK.ne (bK.set oV) (dE (x':=({ x2 with State:=2}:aR)) X1)) rfl) (bU (cS (bK.ne (bK.set oV) (dE (x':=({ x2 with State:=2}:aR)) X1)) pF rfl rfl) (vn (λu=>dY (fo:=3) (nZ (({ x2 with State:=2}:aR).Files)) (dE (x':=({ x2 with State:=2}:aR)) X1) eC (bK.set oV) bX rfl (aI 5 u rfl) (λ_=>rfl)) (bU (iV (bK.ne (bK.set oV) (dE (x':=({ x2 with State:=2}:aR)) X1)) rfl) (bU (cS (bK.ne (bK.set oV) (dE (x':=({ x2 with State:=2}:aR)) X1)) pF rfl rfl) (ve λu=>cI (fo:=3) ({ ({ x2 with State:=2}:aR) with Files:=IntKind.wrap .i64 ((({ x2 with State:=2}:aR).Files)+1)}:aR) 5 u (dE (x':=({ x2 with State:=2}:aR)) X1) eC (bK.set oV) rfl rfl rfl rfl (cU.refl _ _) yT rfl rfl λK2=>qk K2 rfl (vs (v0 (ve λu=>BI u λk36 K4=>qk K4 rfl (ve λu=>bD ([.sc (.map none)]) u (show tF Tryz.prog 161=some [.map none] by kernel_rfl) rfl rfl λk39 K5=>qk K5 rfl (ve λu=>aK 0 ([.mpv k36]) u rfl rfl rfl rfl W7 rfl rfl λK6=>qk K6 rfl ?_))))))))))))))))))
 refine vs (vs (v0 (dM gN rfl rfl (vl 2 _ jZ rfl rfl rfl (cZ n3 rfl (nC m (σ:=(List Int)×Int×(List aG)×(List aA)×(List aQ)×Int) (τ:=dF×dF×dF) (λg s=>([(some k39,.obj 161 ([.mpv k36])),(some k36,.mp (gD kI (s.1:List Int))),(some k2,.obj 62 (aD p1)),OC p0K s.2.1 g.1.a g.2.1.a g.2.2.a gV,bM g.1 s.2.2.1,aW g.2.1 s.2.2.2.1,bR g.2.2 s.2.2.2.2.1,aN gV ((p0.Vols.set p1.Vol.toNat ({ x2 with State:=2})).set p1.Vol.toNat ({ ({ x2 with State:=2}:aR) with Files:=IntKind.wrap .i64 ((({ x2 with State:=2}:aR).Files)+1)}))]++((bQ g.1 s.2.2.1)++((a8 g.2.1 s.2.2.2.1)++(bS g.2.2 s.2.2.2.2.1))))) (λg s=>lX aG.Locs 4 4 g.1 (s.2.2.1:List aG)∧lX aA.Locs 35 4 g.2.1 (s.2.2.2.1:List aA)∧lX aQ.Locs 3 4 g.2.2 (s.2.2.2.2.1:List aQ)) (λg s=>.c 0 (.ptr p0K 0) (.c 3 (.ptr k2 0) (.c 6 (vK gV.t (p1.Vol.toNat*4+0)) (.c 7 (.ptr k39 0) (.c 78 (.sl none 37 (List.map aY p1.Items)) (.c 79 (nZ (p1.Items.length:Int)) (.c 80 (nZ s.2.2.2.2.2) .nil))))))) (gS,gC,gE) (⟨ok_Snaps,oC,oE⟩) (lx (.k7 .nil)) ?_ ?_))))))
 rintro⟨ng0,ng1,ng2⟩ ⟨q0,q1,q2,q3,q4,q5⟩ x ⟨O0,O1,O2⟩ m
 replace m:oN w p0 p1 x2 q0 q1 q2 q3 q4 q5=some x:=m
 unfold oN at m
 refine vs (v0 (vs (v0 ?_)))
 apply vi m <;> intro c1 m
 refine v0 (vs (v0 (vs (v0 (vx m rT rfl rfl λx3 _ m=>va (.agg (aY x3)) GA rfl rfl (ve λu=>bD (([nZ 0]:List AV)++bJ jX++(HP:List AV)) u S5 rfl rfl λk284 K7=>qk K7 rfl (ve λu=>aK 0 (aY x3) u rfl rfl rfl rfl S4 rfl rfl λK8=>qk K8 rfl (vs (v0 (vz [(1000000,some k284,.obj 38 (aY x3)),(1000000,some k2,.obj 62 (aD p1)),(1000000,gV.t,.obj 49 (fl cG ((p0.Vols.set p1.Vol.toNat ({ x2 with State:=2})).set p1.Vol.toNat ({ ({ x2 with State:=2}:aR) with Files:=IntKind.wrap .i64 ((({ x2 with State:=2}:aR).Files)+1)}):List aR) gV.sp))] mixed (λu=>⟨λ_=>aI 0 u rfl,λ_=>aI 3 u rfl,λ_=>aI 8 u rfl,trivial⟩) λu=>zP 0 rfl rfl (zL 1 0 (.agg (aY x3)) rfl GA rfl rfl rfl (zF 2 rfl fI rfl (zL 3 1 (nZ p1.Vol) rfl bX rfl rfl rfl (zC 4 rfl (eW (vK _ _) rfl) (zC 5 rfl (iV (bK.ne (bK.set (bK.set oV)) (dE (x':=({ ({ x2 with State:=2}:aR) with Files:=IntKind.wrap .i64 ((({ x2 with State:=2}:aR).Files)+1)}:aR)) (dE (x':=({ x2 with State:=2}:aR)) X1))) rfl) (zC 6 rfl (cS (bK.ne (bK.set (bK.set oV)) (dE (x':=({ ({ x2 with State:=2}:aR) with Files:=IntKind.wrap .i64 ((({ x2 with State:=2}:aR).Files)+1)}:aR)) (dE (x':=({ x2 with State:=2}:aR)) X1))) pF rfl rfl) (vL 7 rfl (λ_ _ hi hB=>dY (fo:=3) (nZ (({ ({ x2 with State:=2}:aR) with Files:=IntKind.wrap .i64 ((({ x2 with State:=2}:aR).Files)+1)}:aR).Files)) (dE (x':=({ ({ x2 with State:=2}:aR) with Files:=IntKind.wrap .i64 ((({ x2 with State:=2}:aR).Files)+1)}:aR)) (dE (x':=({ x2 with State:=2}:aR)) X1)) eC (bK.set (bK.set oV)) bX rfl (fW.get 2 hi rfl (hB 1000000 (by kernel_rfl))) (λ_=>rfl)) ?_)))))))))))))))))
 refine zF 8 rfl GB rfl (zL 9 0 (nZ x3.Off) rfl bX rfl rfl rfl (zF 10 rfl GC rfl (zL 11 0 (nZ x3.Len) rfl bX rfl rfl rfl (zC 12 rfl (fG (aM ({ Vol:=p1.Vol,File:=({ ({ x2 with State:=2}:aR) with Files:=IntKind.wrap .i64 ((({ x2 with State:=2}:aR).Files)+1)}:aR).Files,Off:=x3.Off,Len:=x3.Len}:bI)) W5 rfl) ?_))))
 obtain⟨y0,Y0,m⟩:=aC m
 refine zE 13 rfl ?_
 have ho0:=lV (A:=([OC p0K q1 ng0.a ng1.a ng2.a gV,bM ng0 q2,aW ng1 q3,bR ng2 q4,aN gV ((p0.Vols.set p1.Vol.toNat ({ x2 with State:=2})).set p1.Vol.toNat ({ ({ x2 with State:=2}:aR) with Files:=IntKind.wrap .i64 ((({ x2 with State:=2}:aR).Files)+1)}))]++((bQ ng0 q2)++((a8 ng1 q3)++(bS ng2 q4))))) (R:= [(some k284,.obj 38 (aY x3)),(some k39,.obj 161 ([.mpv k36])),(some k36,.mp (gD kI (q0:List Int))),(some k2,.obj 62 (aD p1))]) u [[_], [_], [_], [_], [_], [_], [_], [_], [_],_,_,_] rfl [4,5,6,7,8,9,10,11] [0,1,2,3] rfl rfl rfl
 refine dA ho0.1 (cK (aFK (p0:=({ Seq:=q1,Snaps:=q2,Chunks:=q3,Exps:=q4,Vols:=(p0.Vols.set p1.Vol.toNat ({ x2 with State:=2})).set p1.Vol.toNat ({ ({ x2 with State:=2}:aR) with Files:=IntKind.wrap .i64 ((({ x2 with State:=2}:aR).Files)+1)})}:aB)) _ (O0) (O1) (O2) ((bK.set (bK.set oV))) ho0.2.2 Y0) rfl ZN rfl ?_)
 rintro x h' ⟨ng3,O3,ng4,O4,ng5,O5,K9,rfl,rfl⟩
 have K10:=lW (L':=([(some k284,.obj 38 (aY x3)),(some k39,.obj 161 ([.mpv k36])),(some k36,.mp (gD kI (q0:List Int))),(some k2,.obj 62 (aD p1)),OC p0K y0.2.1 ng3.a ng4.a ng5.a gV,bM ng3 y0.2.2.1,aW ng4 y0.2.2.2.1,bR ng5 y0.2.2.2.2,aN gV ((p0.Vols.set p1.Vol.toNat ({ x2 with State:=2})).set p1.Vol.toNat ({ ({ x2 with State:=2}:aR) with Files:=IntKind.wrap .i64 ((({ x2 with State:=2}:aR).Files)+1)}))]++((bQ ng3 y0.2.2.1)++((a8 ng4 y0.2.2.2.1)++(bS ng5 y0.2.2.2.2))))) ho0.2.1 K9 [[_], [_], [_], [_], [_],_,_,_] [[_], [_], [_], [_]] rfl rfl [8,9,10,11,0,1,2,3,4,5,6,7] rfl rfl
 refine kJ K10.1 (⟨⟨λ_=>aI 0 K10.2 rfl,λ_=>aI 3 K10.2 rfl,λ_=>aI 8 K10.2 rfl,trivial⟩, ?_⟩)
 refine zC 14 rfl (iB (.sc (.int _ _)) rfl) (zX (qk (f:=.c 10 _ (SZ 97 _ _ _ _ _ _ _ _ _ _ _ _ _ _ _)) K10.2 rfl (vs (vs (v0 (v0 ?_))))))
 apply vi m <;> intro c2 m
 refine vs (v0 (v0 (fO m λm=> ?_)))
 cases m
 refine CA (DG (L':=([(some k284,.obj 38 (aY x3)),(some k39,.obj 161 ([.mpv k36])),(some k36,.mp (gD kI (q0:List Int))),(some k2,.obj 62 (aD p1)),OC p0K y0.2.1 ng3.a ng4.a ng5.a gV,bF ng3.a y0.2.2.1,aW ng4 y0.2.2.2.1,bR ng5 y0.2.2.2.2,aN gV ((p0.Vols.set p1.Vol.toNat ({ x2 with State:=2})).set p1.Vol.toNat ({ ({ x2 with State:=2}:aR) with Files:=IntKind.wrap .i64 ((({ x2 with State:=2}:aR).Files)+1)}))]++((a8 ng4 y0.2.2.2.1)++(bS ng5 y0.2.2.2.2)))) [[_], [_], [_], [_], [_], [_], [_], [_], [_],_,_,_] rfl 5 9 eS p5 O3.k rfl rfl (by decide) rfl) (CA (DG (L':=([(some k284,.obj 38 (aY x3)),(some k39,.obj 161 ([.mpv k36])),(some k36,.mp (gD kI (q0:List Int))),(some k2,.obj 62 (aD p1)),OC p0K y0.2.1 ng3.a ng4.a ng5.a gV,bF ng3.a y0.2.2.1,aV ng4.a y0.2.2.2.1,bR ng5 y0.2.2.2.2,aN gV ((p0.Vols.set p1.Vol.toNat ({ x2 with State:=2})).set p1.Vol.toNat ({ ({ x2 with State:=2}:aR) with Files:=IntKind.wrap .i64 ((({ x2 with State:=2}:aR).Files)+1)}))]++(bS ng5 y0.2.2.2.2))) [[_], [_], [_], [_], [_], [_], [_], [_], [_],_,_] rfl 6 9 eS nQ O4.k rfl rfl (by decide) rfl) (CA (DG (L':= [(some k284,.obj 38 (aY x3)),(some k39,.obj 161 ([.mpv k36])),(some k36,.mp (gD kI (q0:List Int))),(some k2,.obj 62 (aD p1)),OC p0K y0.2.1 ng3.a ng4.a ng5.a gV,bF ng3.a y0.2.2.1,aV ng4.a y0.2.2.2.1,bW ng5.a y0.2.2.2.2,aN gV ((p0.Vols.set p1.Vol.toNat ({ x2 with State:=2})).set p1.Vol.toNat ({ ({ x2 with State:=2}:aR) with Files:=IntKind.wrap .i64 ((({ x2 with State:=2}:aR).Files)+1)}))]) [[_], [_], [_], [_], [_], [_], [_], [_], [_],_] rfl 7 9 eS uR O5.k rfl rfl (by decide) rfl) ?_))
 exact vr λu=>dX.of1 (.inl rfl) (fU _ _ (.sc (.int _ _)) rfl) (bG u [4,5,6,7,8] rfl).2 (bH.refl _ _) ⟨ng3.a,O3.k.a,ng4.a,O4.k.a,ng5.a,O5.k.a,gV,(bK.set (bK.set oV)),(bG u [4,5,6,7,8] rfl).1,rfl,rfl⟩
 refine v0 (vs (vs (v0 (dM lR rfl rfl (vl 0 _ bX rfl rfl rfl (fB m (σ:=(List Int)) (λs=>([(some k284,.obj 38 (aY x3)),(some k39,.obj 161 ([.mpv k36])),(some k36,.mp (gD kI (s:List Int))),(some k2,.obj 62 (aD p1)),OC p0K y0.2.1 ng3.a ng4.a ng5.a gV,bM ng3 y0.2.2.1,aW ng4 y0.2.2.2.1,bR ng5 y0.2.2.2.2,aN gV ((p0.Vols.set p1.Vol.toNat ({ x2 with State:=2})).set p1.Vol.toNat ({ ({ x2 with State:=2}:aR) with Files:=IntKind.wrap .i64 ((({ x2 with State:=2}:aR).Files)+1)}))]++((bQ ng3 y0.2.2.1)++((a8 ng4 y0.2.2.2.1)++(bS ng5 y0.2.2.2.2))))) (λs=>.c 0 (.ptr p0K 0) (.c 3 (.ptr k2 0) (.c 6 (vK gV.t (p1.Vol.toNat*4+0)) (.c 7 (.ptr k39 0) (.c 9 (.ptr k284 0) (.c 78 (.sl none 37 (List.map aY p1.Items)) (.c 79 (nZ (p1.Items.length:Int)) (.c 80 (nZ q5) .nil)))))))) (λx m=> ?_) ?_))))))
 refine v0 ?_
 apply vi m <;> intro c3 m
 exact v0 (vl 1 _ RD rfl rfl rfl (dM tZ rfl rfl (vl 0 _ bX rfl rfl rfl (ve λu=>LI 2 u RE (w5.int u3) rfl rfl rfl rfl λK11=>qk K11 rfl (F6 m)))))
 exact v0 (F6 m)
 rintro _ j1 m
 refine vs (v0 (vU (by kernel_rfl) (jL rfl (dM dZ rfl rfl (vl 4 (aZ ng4.a) eD rfl rfl rfl (dM tY rfl rfl (vl 0 (.agg (bJ x3.Id)) fK rfl rfl rfl ?_)))))))
 obtain⟨y1,Y1,m⟩:=aC m
 refine vn (λu=>bZ (fH (.cons (Br.awN 6 cO eS EP O4.k u rfl (UB [[_], [_], [_], [_], [_], [_], [_], [_], [_],_,_,_] rfl 10 rfl)) (.cons (Br.refl _ _) .nil)) rfl (P4 _ Y1)) rfl H6 rfl) (vs (fB m (σ:=Bool) (λs=>([(some k284,.obj 38 (aY x3)),(some k39,.obj 161 ([.mpv k36])),(some k36,.mp (gD kI (j1:List Int))),(some k2,.obj 62 (aD p1)),OC p0K y0.2.1 ng3.a ng4.a ng5.a gV,bM ng3 y0.2.2.1,aW ng4 y0.2.2.2.1,bR ng5 y0.2.2.2.2,aN gV ((p0.Vols.set p1.Vol.toNat ({ x2 with State:=2})).set p1.Vol.toNat ({ ({ x2 with State:=2}:aR) with Files:=IntKind.wrap .i64 ((({ x2 with State:=2}:aR).Files)+1)}))]++((bQ ng3 y0.2.2.1)++((a8 ng4 y0.2.2.2.1)++(bS ng5 y0.2.2.2.2))))) (λs=>.c 0 (.ptr p0K 0) (.c 3 (.ptr k2 0) (.c 6 (vK gV.t (p1.Vol.toNat*4+0)) (.c 7 (.ptr k39 0) (.c 11 (nZ y1.1) (.c 78 (.sl none 37 (List.map aY p1.Items)) (.c 79 (nZ (p1.Items.length:Int)) (.c 80 (nZ q5) (.c 129 (.sc (.bool s)) .nil))))))))) (λx m=> ?_) ?_))
 refine v0 (dM lR rfl rfl (vl 0 _ bX rfl rfl rfl ?_))
 apply vi m <;> intro b5 m
 rw[b5]
 apply vi m <;> intro b6 m
 rw[b6]
 exact bU (iV (bK.ne (bK.set (bK.set oV)) (dE (x':=({ ({ x2 with State:=2}:aR) with Files:=IntKind.wrap .i64 ((({ x2 with State:=2}:aR).Files)+1)}:aR)) (dE (x':=({ x2 with State:=2}:aR)) X1))) rfl) (bU (cS (bK.ne (bK.set (bK.set oV)) (dE (x':=({ ({ x2 with State:=2}:aR) with Files:=IntKind.wrap .i64 ((({ x2 with State:=2}:aR).Files)+1)}:aR)) (dE (x':=({ x2 with State:=2}:aR)) X1))) LP rfl rfl) (vn (λu=>dY (fo:=0) (nZ (({ ({ x2 with State:=2}:aR) with Files:=IntKind.wrap .i64 ((({ x2 with State:=2}:aR).Files)+1)}:aR).Pool)) (dE (x':=({ ({ x2 with State:=2}:aR) with Files:=IntKind.wrap .i64 ((({ x2 with State:=2}:aR).Files)+1)}:aR)) (dE (x':=({ x2 with State:=2}:aR)) X1)) eC (bK.set (bK.set oV)) bX rfl (aI 8 u rfl) (λ_=>rfl)) (gq9 m)))
 rw[b6]
 exact gq9 m
 rw[b5]
 exact gq9 m
 rintro _ j2 m
 refine o6 m (σ:=(List aA)) (τ:=dF) (λg s=>([(some k284,.obj 38 (aY x3)),(some k39,.obj 161 ([.mpv k36])),(some k36,.mp (gD kI (j1:List Int))),(some k2,.obj 62 (aD p1)),OC p0K y0.2.1 ng3.a g.a ng5.a gV,bM ng3 y0.2.2.1,aW g s,bR ng5 y0.2.2.2.2,aN gV ((p0.Vols.set p1.Vol.toNat ({ x2 with State:=2})).set p1.Vol.toNat ({ ({ x2 with State:=2}:aR) with Files:=IntKind.wrap .i64 ((({ x2 with State:=2}:aR).Files)+1)}))]++((bQ ng3 y0.2.2.1)++((a8 g s)++(bS ng5 y0.2.2.2.2))))) (λg s=>lX aA.Locs 35 4 g (s:List aA)) (λg s=>.c 0 (.ptr p0K 0) (.c 3 (.ptr k2 0) (.c 6 (vK gV.t (p1.Vol.toNat*4+0)) (.c 7 (.ptr k39 0) (.c 78 (.sl none 37 (List.map aY p1.Items)) (.c 79 (nZ (p1.Items.length:Int)) (.c 80 (nZ q5) .nil))))))) (λx m=> ?_) ?_
 refine v0 ?_
 apply vi m <;> intro c4 m
 refine v0 (vz [(1000000,some p0K,.obj 30 ([nZ y0.2.1,aZ ng3.a,aZ ng4.a,aZ ng5.a,aZ gV]))] mixed (λu=>⟨λ_=>aI 4 u rfl,trivial⟩) λu=>zP 0 rfl rfl (zN 1 rfl rfl (zF 2 rfl dZ rfl (zL 3 0 (aZ ng4.a) rfl eD rfl rfl rfl (zI 4 rfl rfl (zP 5 rfl rfl (zN 6 rfl rfl (zF 7 rfl dZ rfl (zL 8 0 (aZ ng4.a) rfl eD rfl rfl rfl (zI 9 rfl rfl ?_))))))))))
 obtain⟨x4,X2,m⟩:=aC m
 refine zC 10 rfl (cL (O4.k.ix X2) eU O4.k.z rfl rfl) (zC 11 rfl (cS (bK.ne O4.k.z (O4.k.ix X2)) n5 rfl rfl) (zE 12 rfl (cI (fo:=32) (x':=(({ x4 with Staged:=false}:aA),(gx ng4.gs y1.1.toNat))) 6 u (O4.k.ix X2) iR O4.k.z rfl rfl rfl rfl (cU.refl _ _) VL rfl rfl ?_)))
 intro K12
 have hs0:sO aA.Locs 35 4 ng4 (y0.2.2.2.1:List aA):=O4.k
 have hn0:hp h _=hp h ([(some k284,.obj 38 (aY x3)),(some k39,.obj 161 ([.mpv k36])),(some k36,.mp (gD kI (j1:List Int))),(some k2,.obj 62 (aD p1)),OC p0K y0.2.1 ng3.a ng4.a ng5.a gV,bM ng3 y0.2.2.1,aW ng4 (y0.2.2.2.1.set y1.1.toNat ({ x4 with Staged:=false})),bR ng5 y0.2.2.2.2,aN gV ((p0.Vols.set p1.Vol.toNat ({ x2 with State:=2})).set p1.Vol.toNat ({ ({ x2 with State:=2}:aR) with Files:=IntKind.wrap .i64 ((({ x2 with State:=2}:aR).Files)+1)}))]++((bQ ng3 y0.2.2.1)++((a8 ng4 (y0.2.2.2.1.set y1.1.toNat ({ x4 with Staged:=false})))++(bS ng5 y0.2.2.2.2))))∧bV h ([(some k284,.obj 38 (aY x3)),(some k39,.obj 161 ([.mpv k36])),(some k36,.mp (gD kI (j1:List Int))),(some k2,.obj 62 (aD p1)),OC p0K y0.2.1 ng3.a ng4.a ng5.a gV,bM ng3 y0.2.2.1,aW ng4 (y0.2.2.2.1.set y1.1.toNat ({ x4 with Staged:=false})),bR ng5 y0.2.2.2.2,aN gV ((p0.Vols.set p1.Vol.toNat ({ x2 with State:=2})).set p1.Vol.toNat ({ ({ x2 with State:=2}:aR) with Files:=IntKind.wrap .i64 ((({ x2 with State:=2}:aR).Files)+1)}))]++((bQ ng3 y0.2.2.1)++((a8 ng4 (y0.2.2.2.1.set y1.1.toNat ({ x4 with Staged:=false})))++(bS ng5 y0.2.2.2.2)))):=eqN (L:=_) K12 (by unfold aW; (try unfold a8); rw[(hs0.set (x':=({ x4 with Staged:=false}:aA)) X2 rfl).2.2,← (hs0.set (x':=({ x4 with Staged:=false}:aA)) X2 rfl).2.1]; first | done | rfl)
 refine kJ hn0.1 (⟨⟨λ_=>aI 4 hn0.2 rfl,trivial⟩, ?_⟩)
 obtain⟨x5,X3,m⟩:=aC m
 refine zC 13 rfl (cL ((O4.set (x':=({ x4 with Staged:=false}:aA)) X2 rfl).k.ix X3) eU ((O4.set (x':=({ x4 with Staged:=false}:aA)) X2 rfl).k.z) rfl rfl) (zC 14 rfl (cS (bK.ne ((O4.set (x':=({ x4 with Staged:=false}:aA)) X2 rfl).k.z) ((O4.set (x':=({ x4 with Staged:=false}:aA)) X2 rfl).k.ix X3)) jO rfl rfl) (zE 15 rfl (cI (fo:=33) (x':=(({ x5 with Data:=([]:List Int)}:aA),(gx ng4.gs y1.1.toNat))) 6 hn0.2 ((O4.set (x':=({ x4 with Staged:=false}:aA)) X2 rfl).k.ix X3) iR ((O4.set (x':=({ x4 with Staged:=false}:aA)) X2 rfl).k.z) rfl rfl rfl rfl (.cons (aX _) .nil) BY rfl rfl ?_)))
 intro K13
 have hs1:sO aA.Locs 35 4 ng4 (y0.2.2.2.1.set y1.1.toNat ({ x4 with Staged:=false}):List aA):=(O4.set (x':=({ x4 with Staged:=false}:aA)) X2 rfl).k
 have hn1:hp h _=hp h ([(some k284,.obj 38 (aY x3)),(some k39,.obj 161 ([.mpv k36])),(some k36,.mp (gD kI (j1:List Int))),(some k2,.obj 62 (aD p1)),OC p0K y0.2.1 ng3.a ng4.a ng5.a gV,bM ng3 y0.2.2.1,aW ng4 ((y0.2.2.2.1.set y1.1.toNat ({ x4 with Staged:=false})).set y1.1.toNat ({ x5 with Data:=([]:List Int)})),bR ng5 y0.2.2.2.2,aN gV ((p0.Vols.set p1.Vol.toNat ({ x2 with State:=2})).set p1.Vol.toNat ({ ({ x2 with State:=2}:aR) with Files:=IntKind.wrap .i64 ((({ x2 with State:=2}:aR).Files)+1)}))]++((bQ ng3 y0.2.2.1)++((a8 ng4 ((y0.2.2.2.1.set y1.1.toNat ({ x4 with Staged:=false})).set y1.1.toNat ({ x5 with Data:=([]:List Int)})))++(bS ng5 y0.2.2.2.2))))∧bV h ([(some k284,.obj 38 (aY x3)),(some k39,.obj 161 ([.mpv k36])),(some k36,.mp (gD kI (j1:List Int))),(some k2,.obj 62 (aD p1)),OC p0K y0.2.1 ng3.a ng4.a ng5.a gV,bM ng3 y0.2.2.1,aW ng4 ((y0.2.2.2.1.set y1.1.toNat ({ x4 with Staged:=false})).set y1.1.toNat ({ x5 with Data:=([]:List Int)})),bR ng5 y0.2.2.2.2,aN gV ((p0.Vols.set p1.Vol.toNat ({ x2 with State:=2})).set p1.Vol.toNat ({ ({ x2 with State:=2}:aR) with Files:=IntKind.wrap .i64 ((({ x2 with State:=2}:aR).Files)+1)}))]++((bQ ng3 y0.2.2.1)++((a8 ng4 ((y0.2.2.2.1.set y1.1.toNat ({ x4 with Staged:=false})).set y1.1.toNat ({ x5 with Data:=([]:List Int)})))++(bS ng5 y0.2.2.2.2)))):=eqN (L:=_) K13 (by unfold aW; (try unfold a8); rw[(hs1.set (x':=({ x5 with Data:=([]:List Int)}:aA)) X3 rfl).2.2,← (hs1.set (x':=({ x5 with Data:=([]:List Int)}:aA)) X3 rfl).2.1]; first | done | rfl)
 refine kJ hn1.1 (⟨⟨λ_=>aI 4 hn1.2 rfl,trivial⟩, ?_⟩)
 exact zX (qk (f:=SZ 143 _ _ _ _ _ _ _ _ _ _ _ _ _ _ _) hn1.2 rfl (eY m ng4 ((O4.set (x':=({ x4 with Staged:=false}:aA)) X2 rfl).set (x':=({ x5 with Data:=([]:List Int)}:aA)) X3 rfl) (lx (.k7 .nil))))
 exact v0 (eY m ng4 O4 (lx (.k7 .nil)))
 rintro ng6 j3 O6 m
 exact v0 (eY m (ng3,ng6,ng5) ⟨O3,O6,O5⟩ (lxB [[_], [_], [_], [_], [_], [_], [_], [_], [_],_,_,_] rfl [1,2,3,4,5,6,7,8,9,10,11] rfl rfl (.k7 .nil)))
 exact v0 (lA m (ng0,ng1,ng2) ⟨O0,O1,O2⟩ (lx (.k7 .nil)))
 rintro⟨ng7,ng8,ng9⟩ ⟨r0,r1,r2,r3,r4,r5⟩ ⟨t0,t1,t2⟩ m
 refine vs (v0 (jL rfl (dM dW rfl rfl (vl 3 (aZ ng7.a) eK rfl rfl rfl (bU (dR iJ t0.k.a rfl) (vs (pU (DG (L':=([(some k39,.obj 161 ([.mpv k36])),(some k36,.mp (gD kI (r0:List Int))),(some k2,.obj 62 (aD p1)),OC p0K r1 ng7.a ng8.a ng9.a gV,bF ng7.a r2,aW ng8 r3,bR ng9 r4,aN gV ((p0.Vols.set p1.Vol.toNat ({ x2 with State:=2})).set p1.Vol.toNat ({ ({ x2 with State:=2}:aR) with Files:=IntKind.wrap .i64 ((({ x2 with State:=2}:aR).Files)+1)}))]++((a8 ng8 r3)++(bS ng9 r4)))) [[_], [_], [_], [_], [_], [_], [_], [_],_,_,_] rfl 4 8 eS p5 t0.k rfl rfl (by decide) rfl) (pU (DG (L':=([(some k39,.obj 161 ([.mpv k36])),(some k36,.mp (gD kI (r0:List Int))),(some k2,.obj 62 (aD p1)),OC p0K r1 ng7.a ng8.a ng9.a gV,bF ng7.a r2,aV ng8.a r3,bR ng9 r4,aN gV ((p0.Vols.set p1.Vol.toNat ({ x2 with State:=2})).set p1.Vol.toNat ({ ({ x2 with State:=2}:aR) with Files:=IntKind.wrap .i64 ((({ x2 with State:=2}:aR).Files)+1)}))]++(bS ng9 r4))) [[_], [_], [_], [_], [_], [_], [_], [_],_,_] rfl 5 8 eS nQ t1.k rfl rfl (by decide) rfl) (pU (DG (L':= [(some k39,.obj 161 ([.mpv k36])),(some k36,.mp (gD kI (r0:List Int))),(some k2,.obj 62 (aD p1)),OC p0K r1 ng7.a ng8.a ng9.a gV,bF ng7.a r2,aV ng8.a r3,bW ng9.a r4,aN gV ((p0.Vols.set p1.Vol.toNat ({ x2 with State:=2})).set p1.Vol.toNat ({ ({ x2 with State:=2}:aR) with Files:=IntKind.wrap .i64 ((({ x2 with State:=2}:aR).Files)+1)}))]) [[_], [_], [_], [_], [_], [_], [_], [_],_] rfl 6 8 eS uR t2.k rfl rfl (by decide) rfl) (v0 (jL rfl (dM dW rfl rfl (vl 3 (aZ ng7.a) eK rfl rfl rfl ?_)))))))))))))
 obtain⟨y2,Y2,m⟩:=aC m
 refine ve λu=>dA ((bC u [4,0,1,2,3,5,6,7] rfl rfl).1.trans (cT h [bF ng7.a r2] [(some k39,.obj 161 ([.mpv k36])),(some k36,.mp (gD kI (r0:List Int))),(some k2,.obj 62 (aD p1)),OC p0K r1 ng7.a ng8.a ng9.a gV,aV ng8.a r3,bW ng9.a r4,aN gV ((p0.Vols.set p1.Vol.toNat ({ x2 with State:=2})).set p1.Vol.toNat ({ ({ x2 with State:=2}:aR) with Files:=IntKind.wrap .i64 ((({ x2 with State:=2}:aR).Files)+1)}))]).symm) (cK (ZS (hp h [(some k39,.obj 161 ([.mpv k36])),(some k36,.mp (gD kI (r0:List Int))),(some k2,.obj 62 (aD p1)),OC p0K r1 ng7.a ng8.a ng9.a gV,aV ng8.a r3,bW ng9.a r4,aN gV ((p0.Vols.set p1.Vol.toNat ({ x2 with State:=2})).set p1.Vol.toNat ({ ({ x2 with State:=2}:aR) with Files:=IntKind.wrap .i64 ((({ x2 with State:=2}:aR).Files)+1)}))]) t0.k.a (cJ [bF ng7.a r2] [(some k39,.obj 161 ([.mpv k36])),(some k36,.mp (gD kI (r0:List Int))),(some k2,.obj 62 (aD p1)),OC p0K r1 ng7.a ng8.a ng9.a gV,aV ng8.a r3,bW ng9.a r4,aN gV ((p0.Vols.set p1.Vol.toNat ({ x2 with State:=2})).set p1.Vol.toNat ({ ({ x2 with State:=2}:aR) with Files:=IntKind.wrap .i64 ((({ x2 with State:=2}:aR).Files)+1)}))] (bC u [4,0,1,2,3,5,6,7] rfl rfl).2).2 ZR (λx0 o h0 hs ho=>aFN _ (hs _ _ (a9 0 (cJ [bF ng7.a r2] [(some k39,.obj 161 ([.mpv k36])),(some k36,.mp (gD kI (r0:List Int))),(some k2,.obj 62 (aD p1)),OC p0K r1 ng7.a ng8.a ng9.a gV,aV ng8.a r3,bW ng9.a r4,aN gV ((p0.Vols.set p1.Vol.toNat ({ x2 with State:=2})).set p1.Vol.toNat ({ ({ x2 with State:=2}:aR) with Files:=IntKind.wrap .i64 ((({ x2 with State:=2}:aR).Files)+1)}))] (bC u [4,0,1,2,3,5,6,7] rfl rfl).2).1 rfl)) (hs _ _ (a9 1 (cJ [bF ng7.a r2] [(some k39,.obj 161 ([.mpv k36])),(some k36,.mp (gD kI (r0:List Int))),(some k2,.obj 62 (aD p1)),OC p0K r1 ng7.a ng8.a ng9.a gV,aV ng8.a r3,bW ng9.a r4,aN gV ((p0.Vols.set p1.Vol.toNat ({ x2 with State:=2})).set p1.Vol.toNat ({ ({ x2 with State:=2}:aR) with Files:=IntKind.wrap .i64 ((({ x2 with State:=2}:aR).Files)+1)}))] (bC u [4,0,1,2,3,5,6,7] rfl rfl).2).1 rfl)) ho) Y2) rfl ZT rfl ?_)
 rintro x h' ⟨ag0,O7,K14,rfl,rfl⟩
 have K15:=bC (L':= [(some k39,.obj 161 ([.mpv k36])),(some k36,.mp (gD kI (r0:List Int))),(some k2,.obj 62 (aD p1)),(hO p0K r1 ng7.a ng8.a ng9.a gV),bF ag0 y2,aV ng8.a r3,bW ng9.a r4,aN gV ((p0.Vols.set p1.Vol.toNat ({ x2 with State:=2})).set p1.Vol.toNat ({ ({ x2 with State:=2}:aR) with Files:=IntKind.wrap .i64 ((({ x2 with State:=2}:aR).Files)+1)}))]) (dG (cJ [bF ng7.a r2] [(some k39,.obj 161 ([.mpv k36])),(some k36,.mp (gD kI (r0:List Int))),(some k2,.obj 62 (aD p1)),OC p0K r1 ng7.a ng8.a ng9.a gV,aV ng8.a r3,bW ng9.a r4,aN gV ((p0.Vols.set p1.Vol.toNat ({ x2 with State:=2})).set p1.Vol.toNat ({ ({ x2 with State:=2}:aR) with Files:=IntKind.wrap .i64 ((({ x2 with State:=2}:aR).Files)+1)}))] (bC u [4,0,1,2,3,5,6,7] rfl rfl).2).1 K14) [1,2,3,4,0,5,6,7] rfl rfl
 refine qk K15.2 ((cT h [bF ag0 y2] [(some k39,.obj 161 ([.mpv k36])),(some k36,.mp (gD kI (r0:List Int))),(some k2,.obj 62 (aD p1)),OC p0K r1 ng7.a ng8.a ng9.a gV,aV ng8.a r3,bW ng9.a r4,aN gV ((p0.Vols.set p1.Vol.toNat ({ x2 with State:=2})).set p1.Vol.toNat ({ ({ x2 with State:=2}:aR) with Files:=IntKind.wrap .i64 ((({ x2 with State:=2}:aR).Files)+1)}))]).trans K15.1) (jL rfl (dM dW rfl rfl (ve λu=>aK 3 ([nZ r1,aZ ag0,aZ ng8.a,aZ ng9.a,aZ gV]) u rfl rfl (cC rfl) (cE (bY _ _ _) rfl) F8 rfl rfl λK16=>qk K16 rfl (vs (vs (v0 (jL rfl (dM dW rfl rfl (vl 3 (aZ ag0) eK rfl rfl rfl (bU (dR iJ O7 rfl) (o6 m (σ:=(List aA)) (τ:=cR) (λg s=> [(some k39,.obj 161 ([.mpv k36])),(some k36,.mp (gD kI (r0:List Int))),(some k2,.obj 62 (aD p1)),OC p0K r1 ag0 g ng9.a gV,bF ag0 y2,aV g s,bW ng9.a r4,aN gV ((p0.Vols.set p1.Vol.toNat ({ x2 with State:=2})).set p1.Vol.toNat ({ ({ x2 with State:=2}:aR) with Files:=IntKind.wrap .i64 ((({ x2 with State:=2}:aR).Files)+1)}))]) (λg s=>bK g 35 (s:List aA).length) (λg s=>.nil) (λx m=> ?_) ?_)))))))))))
 refine v0 ?_
 apply vi m <;> intro c5 m
 refine v0 ?_
 obtain⟨y3,Y3,m⟩:=aC m
 refine ve λu=>dA ((bC u [3,4,5,6,7,0,1,2] rfl rfl).1.trans (cT h [OC p0K r1 ag0 ng8.a ng9.a gV,bF ag0 y2,aV ng8.a r3,bW ng9.a r4,aN gV ((p0.Vols.set p1.Vol.toNat ({ x2 with State:=2})).set p1.Vol.toNat ({ ({ x2 with State:=2}:aR) with Files:=IntKind.wrap .i64 ((({ x2 with State:=2}:aR).Files)+1)}))] [(some k39,.obj 161 ([.mpv k36])),(some k36,.mp (gD kI (r0:List Int))),(some k2,.obj 62 (aD p1))]).symm) (cK (ZI (p0:=({ Seq:=r1,Snaps:=y2,Chunks:=r3,Exps:=r4,Vols:=(p0.Vols.set p1.Vol.toNat ({ x2 with State:=2})).set p1.Vol.toNat ({ ({ x2 with State:=2}:aR) with Files:=IntKind.wrap .i64 ((({ x2 with State:=2}:aR).Files)+1)})}:aB)) (hp h [(some k39,.obj 161 ([.mpv k36])),(some k36,.mp (gD kI (r0:List Int))),(some k2,.obj 62 (aD p1))]) O7 t1.k.a t2.k.a (bK.set (bK.set oV)) (cJ [OC p0K r1 ag0 ng8.a ng9.a gV,bF ag0 y2,aV ng8.a r3,bW ng9.a r4,aN gV ((p0.Vols.set p1.Vol.toNat ({ x2 with State:=2})).set p1.Vol.toNat ({ ({ x2 with State:=2}:aR) with Files:=IntKind.wrap .i64 ((({ x2 with State:=2}:aR).Files)+1)}))] [(some k39,.obj 161 ([.mpv k36])),(some k36,.mp (gD kI (r0:List Int))),(some k2,.obj 62 (aD p1))] (bC u [3,4,5,6,7,0,1,2] rfl rfl).2).2 Y3) rfl RX rfl ?_)
 rintro x h' ⟨ag1,O8,K17,rfl,rfl⟩
 have K18:=bC (L':= [(some k39,.obj 161 ([.mpv k36])),(some k36,.mp (gD kI (r0:List Int))),(some k2,.obj 62 (aD p1)),OC p0K r1 ag0 ag1 ng9.a gV,bF ag0 y2,aV ag1 y3,bW ng9.a r4,aN gV ((p0.Vols.set p1.Vol.toNat ({ x2 with State:=2})).set p1.Vol.toNat ({ ({ x2 with State:=2}:aR) with Files:=IntKind.wrap .i64 ((({ x2 with State:=2}:aR).Files)+1)}))]) (dG (cJ [OC p0K r1 ag0 ng8.a ng9.a gV,bF ag0 y2,aV ng8.a r3,bW ng9.a r4,aN gV ((p0.Vols.set p1.Vol.toNat ({ x2 with State:=2})).set p1.Vol.toNat ({ ({ x2 with State:=2}:aR) with Files:=IntKind.wrap .i64 ((({ x2 with State:=2}:aR).Files)+1)}))] [(some k39,.obj 161 ([.mpv k36])),(some k36,.mp (gD kI (r0:List Int))),(some k2,.obj 62 (aD p1))] (bC u [3,4,5,6,7,0,1,2] rfl rfl).2).1 K17) [5,6,7,0,1,2,3,4] rfl rfl
 exact qk K18.2 ((cT h [OC p0K r1 ag0 ag1 ng9.a gV,bF ag0 y2,aV ag1 y3,bW ng9.a r4,aN gV ((p0.Vols.set p1.Vol.toNat ({ x2 with State:=2})).set p1.Vol.toNat ({ ({ x2 with State:=2}:aR) with Files:=IntKind.wrap .i64 ((({ x2 with State:=2}:aR).Files)+1)}))] [(some k39,.obj 161 ([.mpv k36])),(some k36,.mp (gD kI (r0:List Int))),(some k2,.obj 62 (aD p1))]).trans K18.1) (eY m ag1 O8 (lx .nil))
 exact v0 (eY m ng8.a t1.k.a (lx .nil))
 rintro ag2 j4 O9 m
 refine vs (v0 (v0 ?_))
 cases m
 exact vr λu=>dX.of1 (.inl rfl) (fU _ _ (.sc (.int _ _)) rfl) (bG u [3,4,5,6,7] rfl).2 (bH.refl _ _) ⟨ag0,O7,ag2,O9,ng9.a,t2.k.a,gV,(bK.set (bK.set oV)),(bG u [3,4,5,6,7] rfl).1,rfl,rfl⟩
theorem aFO:aO Tryz.prog 74=true:=by kernel_rfl
open Go.Vm
def sV (m:Nat) (p0:List aA) (p1:aA→Option Bool) (q0:Int):Option (Lp (Int) (Int)):=
 if (decide (q0 < (p0.length:Int)))=true then ((ix p0 q0).bind λx0=>(p1 x0).bind λy0=>if y0=true then (some (.ret q0)) else some (.go (IntKind.wrap .i64 (q0+1)))) else some (.brk q0)
def M7 (m:Nat) (p0:List aA) (p1:aA→Option Bool):Option (Int):=
 after (aT (λs=>sV m p0 p1 s) m 0) λr0=>some (-1)
theorem aFP {w:Nat} {p0:List aA} {p1:aA→Option Bool} {o:Int} (h:aF) {g_p0:cR} (ok_p0:bK g_p0 35 p0.length) (K0:bV h [(cF g_p0 p0)]) {p1F:Nat} {p1C:List AV} (p1B:aO Tryz.prog p1F=true) (p1H:∀x0 o h0,h9 h h0→p1 x0=some o→aL Tryz.prog p1F ([.agg (aH x0)]++p1C) h0 (λr h'=>r= .sc (.bool o)∧h'=h0)) (m:M7 w p0 p1=some o):
 aL Tryz.prog 53 [aZ g_p0,.fn (.func p1F) p1C] (hp h [(cF g_p0 p0)]) (λr h'=>r=nZ o∧h'=hp h [(cF g_p0 p0)]):=by
 refine tH K0 19 [.tmp 4] Tryz.func53 rfl rfl rfl rfl ?_
 unfold M7 at m
 refine vs (v0 (vs (vs (v0 (bU (dR hM ok_p0 rfl) ?_)))))
 refine iI m (σ:=Int) (λs=> [(cF g_p0 p0)]) (λs=>.c 0 (aZ g_p0) (.c 1 (.fn (.func p1F) p1C) (.c 7 (nZ (p0.length:Int)) (.c 8 (nZ s) .nil)))) (lx (.k4 .nil)) ?_ ?_
 rintro _ q0 x m
 replace m:sV w p0 p1 q0=some x:=m
 unfold sV at m
 refine vs (v0 (vs (v0 ?_)))
 apply vi m <;> intro c0 m
 refine v0 (vs (v0 (vs (v0 (vs (v0 ?_))))))
 obtain⟨x1,X0,m⟩:=aC m
 refine bU (cL X0 eU ok_p0 rfl rfl) (vn (λu=>dY (fo:=0) (.agg (aH x1)) X0 cO ok_p0 lS rfl (aI 0 u rfl) (λ_=>rfl)) ?_)
 obtain⟨_,Y0,m⟩:=aC m
 refine vn (λu=>bZ (p1H _ _ _ (aS (List.nil_sublist _) u).1 Y0) rfl p1B rfl) (v0 ?_)
 apply vi m <;> intro c1 m
 refine vs (v0 (v0 ?_))
 refine fO m λm=> ?_
 obtain rfl:=eB m
 exact vr λu=>dX.of1 (.inl rfl) (fU _ _ (.sc (.int _ _)) rfl) (bG u [0] rfl).2 (bH.refl _ _) ⟨rfl,rfl⟩
 refine v0 (v0 ?_)
 exact fR m
 refine v0 ?_
 exact vN m
 rintro _ r0 m
 refine vs (v0 (v0 ?_))
 cases m
 exact vr λu=>dX.of1 (.inl rfl) (fU _ _ (.sc (.int _ _)) rfl) (bG u [0] rfl).2 (bH.refl _ _) ⟨rfl,rfl⟩
def pP (m:Nat) (p0:List aQ) (p1:aQ→Option Bool) (q0:Int):Option (Lp (Int) (Int)):=
 if (decide (q0 < (p0.length:Int)))=true then ((ix p0 q0).bind λx0=>(p1 x0).bind λy0=>if y0=true then (some (.ret q0)) else some (.go (IntKind.wrap .i64 (q0+1)))) else some (.brk q0)
def ES (m:Nat) (p0:List aQ) (p1:aQ→Option Bool):Option (Int):=
 after (aT (λs=>pP m p0 p1 s) m 0) λr0=>some (-1)
theorem ZU {w:Nat} {p0:List aQ} {p1:aQ→Option Bool} {o:Int} (h:aF) {g_p0:cR} (ok_p0:bK g_p0 3 p0.length) (K0:bV h [(fA g_p0 p0)]) {p1F:Nat} {p1C:List AV} (p1B:aO Tryz.prog p1F=true) (p1H:∀x0 o h0,h9 h h0→p1 x0=some o→aL Tryz.prog p1F ([.agg (cD x0)]++p1C) h0 (λr h'=>r= .sc (.bool o)∧h'=h0)) (m:ES w p0 p1=some o):
 aL Tryz.prog 181 [aZ g_p0,.fn (.func p1F) p1C] (hp h [(fA g_p0 p0)]) (λr h'=>r=nZ o∧h'=hp h [(fA g_p0 p0)]):=by
 refine tH K0 19 [.tmp 4] Tryz.func181 rfl rfl rfl rfl ?_
 unfold ES at m
 refine vs (v0 (vs (vs (v0 (bU (dR nK ok_p0 rfl) ?_)))))
 refine iI m (σ:=Int) (λs=> [(fA g_p0 p0)]) (λs=>.c 0 (aZ g_p0) (.c 1 (.fn (.func p1F) p1C) (.c 7 (nZ (p0.length:Int)) (.c 8 (nZ s) .nil)))) (lx (.k4 .nil)) ?_ ?_
 rintro _ q0 x m
 replace m:pP w p0 p1 q0=some x:=m
 unfold pP at m
 refine vs (v0 (vs (v0 ?_)))
 apply vi m <;> intro c0 m
 refine v0 (vs (v0 (vs (v0 (vs (v0 ?_))))))
 obtain⟨x1,X0,m⟩:=aC m
 refine bU (cL X0 hU ok_p0 rfl rfl) (vn (λu=>dY (fo:=0) (.agg (cD x1)) X0 fM ok_p0 qS rfl (aI 0 u rfl) (λ_=>rfl)) ?_)
 obtain⟨_,Y0,m⟩:=aC m
 refine vn (λu=>bZ (p1H _ _ _ (aS (List.nil_sublist _) u).1 Y0) rfl p1B rfl) (v0 ?_)
 apply vi m <;> intro c1 m
 refine vs (v0 (v0 ?_))
 refine fO m λm=> ?_
 obtain rfl:=eB m
 exact vr λu=>dX.of1 (.inl rfl) (fU _ _ (.sc (.int _ _)) rfl) (bG u [0] rfl).2 (bH.refl _ _) ⟨rfl,rfl⟩
 refine v0 (v0 ?_)
 exact fR m
 refine v0 ?_
 exact vN m
 rintro _ r0 m
 refine vs (v0 (v0 ?_))
 cases m
 exact vr λu=>dX.of1 (.inl rfl) (fU _ _ (.sc (.int _ _)) rfl) (bG u [0] rfl).2 (bH.refl _ _) ⟨rfl,rfl⟩
theorem ZV:aO Tryz.prog 181=true:=by kernel_rfl
def QM (m:Nat) (p0:bI) (c0:aP):Option (Bool):=
 some (p0.Vol==c0.Vol)
theorem aFQ {w:Nat} {p0:bI} {c0:aP} {o:Bool} (h:aF) {c0K:cB} (c0H:h c0K=some (.obj 62 (aD c0))) (m:QM w p0 c0=some o):
 aL Tryz.prog 127 [.agg (aM p0),.ptr c0K 0] h (λr h'=>r= .sc (.bool o)∧h'=h):=by
 refine fN 9 [.tmp 3] Tryz.func127 rfl rfl rfl rfl ?_
 unfold QM at m
 refine v ?_
 refine gG rfl rfl λk2 K3=> ?_
 refine v (vl 0 _ bX rfl rfl rfl (vn (λu=>nG (nZ c0.Vol) bX rfl (jR u c0H) rfl) (v ?_)))
 cases m
 exact dQ rfl
theorem ZW:aO Tryz.prog 127=true:=by kernel_rfl
def yA (m:Nat) (p0:List bI) (c0:aP):Option ((List bI)):=
 (MP m p0 (λx0=>QM m x0 c0)).bind λy3=>some y3
theorem M8 {w:Nat} {p0:List bI} {c0:aP} {o:(List bI)} (h:aF) {g_p0:cR} (ok_p0:bK g_p0 4 p0.length) (K0:bV h [fJ g_p0 p0]) {c0K:cB} (c0H:h c0K=some (.obj 62 (aD c0))) (m:yA w p0 c0=some o):
 aL Tryz.prog 126 [aZ g_p0,.ptr c0K 0] (hp h [fJ g_p0 p0]) (λr h'=>∃g:cR,bK g 4 o.length∧bV h [(g.t,.obj 81 (fl aM o g.sp))]∧r=aZ g∧h'=hp h [(g.t,.obj 81 (fl aM o g.sp))]):=by
 refine tH K0 7 [.tmp 3] Tryz.func126 rfl rfl rfl rfl ?_
 unfold yA at m
 refine vs (v0 (vs (v0 ?_)))
 obtain⟨y3,Y4,m⟩:=aC m
 refine ve λu=>dA ((bC u [0] rfl rfl).1.trans (cT h [fJ g_p0 p0] []).symm) (cK (aE8 (hp h []) ok_p0 (cJ [fJ g_p0 p0] [] (bC u [0] rfl rfl).2).2 ZW (λ_ o h0 hs ho=>aFQ _ (hs _ _ (jR (cJ [fJ g_p0 p0] [] (bC u [0] rfl rfl).2).1 c0H)) ho) Y4) rfl aE9 rfl ?_)
 rintro x h' ⟨ag5,O6,K7,rfl,rfl⟩
 have K8:=bC (L':= [fJ ag5 y3]) (dG (cJ [fJ g_p0 p0] [] (bC u [0] rfl rfl).2).1 K7) [0] rfl rfl
 refine qk K8.2 ((cT h [fJ ag5 y3] []).trans K8.1) ?_
 refine v0 ?_
 obtain rfl:=eB m
 exact vr λu=>dX.one (.inl rfl) (aS (h0:=h) (L':= [fJ ag5 y3]) (.refl _) u).1 (bH.refl _ _) ⟨ag5,O6,(aS (h0:=h) (L':= [fJ ag5 y3]) (.refl _) u).2,rfl,rfl⟩
theorem M9:aO Tryz.prog 126=true:=by kernel_rfl
def NA (m:Nat) (p0:aA):Option (Bool):=
 after (if (!p0.Staged)=true then (some (.brk ((p0.Locs.length:Int)==0))) else some (.brk false):Option (Lp (Bool) (Bool))) λj7=>some j7
theorem aFR {u:Nat} {p0:aA} {o:Bool} (h:aF) (m:NA u p0=some o):
 aL Tryz.prog 129 [.agg (aH p0)] h (λr h'=>r= .sc (.bool o)∧h'=h):=by
 refine fN 12 [.tmp 2] Tryz.func129 rfl rfl rfl rfl ?_
 unfold NA at m
 refine v ?_
 refine gG rfl rfl λk2 K3=> ?_
 refine vs ?_
 refine fB m (σ:=Bool) (λs=> [(some k2,.obj 44 (aH p0))]) (λs=>.c 2 (.sc (.bool s)) .nil) (λx m=> ?_) ?_
 refine v (vl 0 _ BW rfl rfl rfl ?_)
 apply vi m <;> intro b8 m
 rw[b8]
 refine vl 0 _ e8 rfl rfl rfl (cZ iC rfl ?_)
 exact iN m
 rw[b8]
 exact iN m
 rintro _ j7 m
 refine v ?_
 obtain rfl:=eB m
 exact dQ rfl
theorem ZX:aO Tryz.prog 129=true:=by kernel_rfl
def nS (m:Nat) (p1:aA→Option Bool) (q0:List aA) (q1:Int) (q2:Int):Option (Lp ((List aA)×Int×Int) ((List aA))):=
 if (decide (q2 < (q0.length:Int)))=true then ((ix q0 q2).bind λx0=>(p1 x0).bind λy0=>after (if (!y0)=true then ((ix q0 q1).bind λ_=>some (.brk (q0.set q1.toNat (x0),IntKind.wrap .i64 (q1+1)))) else some (.brk (q0,q1)):Option (Lp ((List aA)×Int) (Lp ((List aA)×Int×Int) ((List aA))))) λ⟨j0,j1⟩=>some (.go (j0,j1,IntKind.wrap .i64 (q2+1)))) else some (.brk (q0,q1,q2))
def ET (m:Nat) (p0:List aA) (p1:aA→Option Bool):Option ((List aA)):=
 (M7 m p0 p1).bind λy3=>if (y3==(-1))=true then (some p0) else after (aT (λs=>nS m p1 s.1 s.2.1 s.2.2) m (p0,y3,IntKind.wrap .i64 (y3+1))) λ⟨r0,r1,r2⟩=>grd (decide (0≤r1) && decide (r1 < (r0.length:Int))) <| grd (decide (0≤r1) && decide (r1≤(r0.length:Int))) <| some (r0.take r1.toNat)
theorem ZY {w:Nat} {p0:List aA} {p1:aA→Option Bool} {o:(List aA)} (h:aF) {g_p0:cR} (ok_p0:bK g_p0 35 p0.length) (K0:bV h [(cF g_p0 p0)]) {p1F:Nat} {p1C:List AV} (p1B:aO Tryz.prog p1F=true) (p1H:∀x0 o h0,h9 h h0→p1 x0=some o→aL Tryz.prog p1F ([.agg (aH x0)]++p1C) h0 (λr h'=>r= .sc (.bool o)∧h'=h0)) (m:ET w p0 p1=some o):
 aL Tryz.prog 128 [aZ g_p0,.fn (.func p1F) p1C] (hp h [(cF g_p0 p0)]) (λr h'=>∃g:cR,bK g 35 o.length∧bV h [(g.t,.obj 44 (fl aH o g.sp))]∧r=aZ g∧h'=hp h [(g.t,.obj 44 (fl aH o g.sp))]):=by
 refine tH K0 42 [.tmp 4] Tryz.func128 rfl rfl rfl rfl ?_
 unfold ET at m
 refine vs (v0 (vs (v0 ?_)))
 obtain⟨_,Y4,m⟩:=aC m
 refine ve λu=>dA ((bC u [0] rfl rfl).1.trans (cT h [(cF g_p0 p0)] []).symm) (cK (aFP (hp h []) ok_p0 (cJ [(cF g_p0 p0)] [] (bC u [0] rfl rfl).2).2 p1B (λx0 o h0 hs ho=>p1H x0 o h0 ((aS (List.nil_sublist _) (cJ [(cF g_p0 p0)] [] (bC u [0] rfl rfl).2).1).1.trans hs) ho) Y4) rfl TR rfl ?_)
 rintro x h' ⟨rfl,rfl⟩
 refine qk u ((cT h [(cF g_p0 p0)] []).trans (bC u [0] rfl rfl).1.symm) ?_
 refine vs (vs (v0 (v0 ?_)))
 apply vi m <;> intro c7 m
 refine vs (v0 (v0 ?_))
 obtain rfl:=eB m
 exact vr λu=>dX.one (.inl rfl) (aS (h0:=h) (L':= [(cF g_p0 p0)]) (.refl _) u).1 (bH.refl _ _) ⟨g_p0,ok_p0,(aS (h0:=h) (L':= [(cF g_p0 p0)]) (.refl _) u).2,rfl,rfl⟩
 refine v0 (vs (vs (v0 ?_)))
 refine nC m (σ:=(List aA)×Int×Int) (τ:=cR) (λg s=> [(cF g s.1)]) (λg s=>bK g 35 (s.1:List aA).length) (λg s=>.c 0 (aZ g) (.c 1 (.fn (.func p1F) p1C) (.c 5 (nZ s.2.1) (.c 6 (nZ s.2.2) .nil)))) g_p0 ok_p0 (lx (.k4 .nil)) ?_ ?_
 rintro ag0 ⟨q0,q1,q2⟩ x O0 m
 replace m:nS w p1 q0 q1 q2=some x:=m
 unfold nS at m
 refine vs (vs (v0 (bU (dR hM O0 rfl) (v0 ?_))))
 apply vi m <;> intro c0 m
 refine v0 (vs (v0 (vs (v0 ?_))))
 obtain⟨x1,X0,m⟩:=aC m
 refine bU (cL X0 eU O0 rfl rfl) (vn (λu=>dY (fo:=0) (.agg (aH x1)) X0 cO O0 lS rfl (aI 0 u rfl) (λ_=>rfl)) ?_)
 refine ve λu=>bD (bJ jX++(KK:List AV)) u nE rfl rfl λk86 K1=>qk K1 rfl ?_
 refine ve λu=>aK 0 (aH x1) u rfl rfl rfl rfl xD rfl rfl λK2=>qk K2 rfl ?_
 refine vs (v0 (vl 0 (.agg (aH x1)) lS rfl rfl rfl ?_))
 obtain⟨_,Y0,m⟩:=aC m
 refine vn (λu=>bZ (p1H _ _ _ (aS (List.nil_sublist _) u).1 Y0) rfl p1B rfl) ?_
 refine o6 m (σ:=(List aA)×Int) (τ:=cR) (λg s=> [(some k86,.obj 44 (aH x1)),(cF g s.1)]) (λg s=>bK g 35 (s.1:List aA).length) (λg s=>.c 0 (aZ g) (.c 1 (.fn (.func p1F) p1C) (.c 5 (nZ s.2) (.c 6 (nZ q2) .nil)))) (λx m=> ?_) ?_
 refine v0 ?_
 apply vi m <;> intro c1 m
 refine vs (v0 (vl 0 (.agg (aH x1)) lS rfl rfl rfl ?_))
 obtain⟨_,X1,m⟩:=aC m
 refine bU (cL X1 eU O0 rfl rfl) ?_
 refine ve λu=>cI (fo:=0) (x1:aA) 1 u X1 cO O0 rfl rfl rfl rfl (cU.refl _ _) xD rfl rfl λK3=>qk K3 rfl ?_
 refine v0 ?_
 exact eY m ag0 (bK.set O0) (lx (.k4 .nil))
 refine v0 ?_
 exact eY m ag0 O0 (lx (.k4 .nil))
 rintro ag1 ⟨j0,j1⟩ O1 m
 refine v0 ?_
 exact eY m ag1 O1 (kP [1] rfl rfl (.k4 .nil))
 refine v0 ?_
 exact lA m ag0 O0 (lx (.k4 .nil))
 rintro ag2 ⟨r0,r1,r2⟩ t0 m
 refine vs (v0 ?_)
 obtain⟨Z0,m⟩:=mQ m
 refine bU (BU Z0 eU t0 rfl rfl) ?_
 refine ve λu=>AK 0 u Z0 cO t0 u26 nE rfl rfl rfl rfl λsp0 O2 K4=>qk K4 rfl ?_
 refine vs (v0 ?_)
 obtain⟨Z1,m⟩:=mQ m
 refine bU (BV Z1 t0 eU rfl rfl) (v0 ?_)
 cases m
 exact vr λu=>dX.one (.inl rfl) (aS (h0:=h) (L':= [((⟨ag2.t,r1.toNat,ag2.cap,sp0⟩:cR).t,.obj 44 (fl aH (r0.take r1.toNat:List aA) (⟨ag2.t,r1.toNat,ag2.cap,sp0⟩:cR).sp))]) (.refl _) u).1 (bH.refl _ _) ⟨(⟨ag2.t,r1.toNat,ag2.cap,sp0⟩:cR),O2,(aS (h0:=h) (L':= [((⟨ag2.t,r1.toNat,ag2.cap,sp0⟩:cR).t,.obj 44 (fl aH (r0.take r1.toNat:List aA) (⟨ag2.t,r1.toNat,ag2.cap,sp0⟩:cR).sp))]) (.refl _) u).2,rfl,rfl⟩
theorem ZZ:aO Tryz.prog 128=true:=by kernel_rfl
def QN (m:Nat) (p0:aQ):Option (Bool):=
 some ((p0.Locs.length:Int)==0)
theorem aFS {u:Nat} {p0:aQ} {o:Bool} (h:aF) (m:QN u p0=some o):
 aL Tryz.prog 131 [.agg (cD p0)] h (λr h'=>r= .sc (.bool o)∧h'=h):=by
 refine fN 7 [.tmp 2] Tryz.func131 rfl rfl rfl rfl ?_
 unfold QN at m
 refine v ?_
 refine gG rfl rfl λk2 K3=> ?_
 refine v (vl 0 _ e8 rfl rfl rfl (cZ iC rfl (v ?_)))
 cases m
 exact dQ rfl
theorem Z7:aO Tryz.prog 131=true:=by kernel_rfl
def nT (m:Nat) (p1:aQ→Option Bool) (q0:List aQ) (q1:Int) (q2:Int):Option (Lp ((List aQ)×Int×Int) ((List aQ))):=
 if (decide (q2 < (q0.length:Int)))=true then ((ix q0 q2).bind λx0=>(p1 x0).bind λy0=>after (if (!y0)=true then ((ix q0 q1).bind λ_=>some (.brk (q0.set q1.toNat (x0),IntKind.wrap .i64 (q1+1)))) else some (.brk (q0,q1)):Option (Lp ((List aQ)×Int) (Lp ((List aQ)×Int×Int) ((List aQ))))) λ⟨j0,j1⟩=>some (.go (j0,j1,IntKind.wrap .i64 (q2+1)))) else some (.brk (q0,q1,q2))
def EU (m:Nat) (p0:List aQ) (p1:aQ→Option Bool):Option ((List aQ)):=
 (ES m p0 p1).bind λy3=>if (y3==(-1))=true then (some p0) else after (aT (λs=>nT m p1 s.1 s.2.1 s.2.2) m (p0,y3,IntKind.wrap .i64 (y3+1))) λ⟨r0,r1,r2⟩=>grd (decide (0≤r1) && decide (r1 < (r0.length:Int))) <| grd (decide (0≤r1) && decide (r1≤(r0.length:Int))) <| some (r0.take r1.toNat)
theorem Z8 {w:Nat} {p0:List aQ} {p1:aQ→Option Bool} {o:(List aQ)} (h:aF) {g_p0:cR} (ok_p0:bK g_p0 3 p0.length) (K0:bV h [(fA g_p0 p0)]) {p1F:Nat} {p1C:List AV} (p1B:aO Tryz.prog p1F=true) (p1H:∀x0 o h0,h9 h h0→p1 x0=some o→aL Tryz.prog p1F ([.agg (cD x0)]++p1C) h0 (λr h'=>r= .sc (.bool o)∧h'=h0)) (m:EU w p0 p1=some o):
 aL Tryz.prog 130 [aZ g_p0,.fn (.func p1F) p1C] (hp h [(fA g_p0 p0)]) (λr h'=>∃g:cR,bK g 3 o.length∧bV h [(g.t,.obj 99 (fl cD o g.sp))]∧r=aZ g∧h'=hp h [(g.t,.obj 99 (fl cD o g.sp))]):=by
 refine tH K0 42 [.tmp 4] Tryz.func130 rfl rfl rfl rfl ?_
 unfold EU at m
 refine vs (v0 (vs (v0 ?_)))
 obtain⟨_,Y4,m⟩:=aC m
 refine ve λu=>dA ((bC u [0] rfl rfl).1.trans (cT h [(fA g_p0 p0)] []).symm) (cK (ZU (hp h []) ok_p0 (cJ [(fA g_p0 p0)] [] (bC u [0] rfl rfl).2).2 p1B (λx0 o h0 hs ho=>p1H x0 o h0 ((aS (List.nil_sublist _) (cJ [(fA g_p0 p0)] [] (bC u [0] rfl rfl).2).1).1.trans hs) ho) Y4) rfl ZV rfl ?_)
 rintro x h' ⟨rfl,rfl⟩
 refine qk u ((cT h [(fA g_p0 p0)] []).trans (bC u [0] rfl rfl).1.symm) ?_
 refine vs (vs (v0 (v0 ?_)))
 apply vi m <;> intro c7 m
 refine vs (v0 (v0 ?_))
 obtain rfl:=eB m
 exact vr λu=>dX.one (.inl rfl) (aS (h0:=h) (L':= [(fA g_p0 p0)]) (.refl _) u).1 (bH.refl _ _) ⟨g_p0,ok_p0,(aS (h0:=h) (L':= [(fA g_p0 p0)]) (.refl _) u).2,rfl,rfl⟩
 refine v0 (vs (vs (v0 ?_)))
 refine nC m (σ:=(List aQ)×Int×Int) (τ:=cR) (λg s=> [(fA g s.1)]) (λg s=>bK g 3 (s.1:List aQ).length) (λg s=>.c 0 (aZ g) (.c 1 (.fn (.func p1F) p1C) (.c 5 (nZ s.2.1) (.c 6 (nZ s.2.2) .nil)))) g_p0 ok_p0 (lx (.k4 .nil)) ?_ ?_
 rintro ag0 ⟨q0,q1,q2⟩ x O0 m
 replace m:nT w p1 q0 q1 q2=some x:=m
 unfold nT at m
 refine vs (vs (v0 (bU (dR nK O0 rfl) (v0 ?_))))
 apply vi m <;> intro c0 m
 refine v0 (vs (v0 (vs (v0 ?_))))
 obtain⟨x1,X0,m⟩:=aC m
 refine bU (cL X0 hU O0 rfl rfl) (vn (λu=>dY (fo:=0) (.agg (cD x1)) X0 fM O0 qS rfl (aI 0 u rfl) (λ_=>rfl)) ?_)
 refine ve λu=>bD ([nZ 0,nZ 0,sZ]) u n9 rfl rfl λk86 K1=>qk K1 rfl ?_
 refine ve λu=>aK 0 (cD x1) u rfl rfl rfl rfl xG rfl rfl λK2=>qk K2 rfl ?_
 refine vs (v0 (vl 0 (.agg (cD x1)) qS rfl rfl rfl ?_))
 obtain⟨_,Y0,m⟩:=aC m
 refine vn (λu=>bZ (p1H _ _ _ (aS (List.nil_sublist _) u).1 Y0) rfl p1B rfl) ?_
 refine o6 m (σ:=(List aQ)×Int) (τ:=cR) (λg s=> [(some k86,.obj 99 (cD x1)),(fA g s.1)]) (λg s=>bK g 3 (s.1:List aQ).length) (λg s=>.c 0 (aZ g) (.c 1 (.fn (.func p1F) p1C) (.c 5 (nZ s.2) (.c 6 (nZ q2) .nil)))) (λx m=> ?_) ?_
 refine v0 ?_
 apply vi m <;> intro c1 m
 refine vs (v0 (vl 0 (.agg (cD x1)) qS rfl rfl rfl ?_))
 obtain⟨_,X1,m⟩:=aC m
 refine bU (cL X1 hU O0 rfl rfl) ?_
 refine ve λu=>cI (fo:=0) (x1:aQ) 1 u X1 fM O0 rfl rfl rfl rfl (cU.refl _ _) xG rfl rfl λK3=>qk K3 rfl ?_
 refine v0 ?_
 exact eY m ag0 (bK.set O0) (lx (.k4 .nil))
 refine v0 ?_
 exact eY m ag0 O0 (lx (.k4 .nil))
 rintro ag1 ⟨j0,j1⟩ O1 m
 refine v0 ?_
 exact eY m ag1 O1 (kP [1] rfl rfl (.k4 .nil))
 refine v0 ?_
 exact lA m ag0 O0 (lx (.k4 .nil))
 rintro ag2 ⟨r0,r1,r2⟩ t0 m
 refine vs (v0 ?_)
 obtain⟨Z0,m⟩:=mQ m
 refine bU (BU Z0 hU t0 rfl rfl) ?_
 refine ve λu=>AK 0 u Z0 fM t0 u27 n9 rfl rfl rfl rfl λsp0 O2 K4=>qk K4 rfl ?_
 refine vs (v0 ?_)
 obtain⟨Z1,m⟩:=mQ m
 refine bU (BV Z1 t0 hU rfl rfl) (v0 ?_)
 cases m
 exact vr λu=>dX.one (.inl rfl) (aS (h0:=h) (L':= [((⟨ag2.t,r1.toNat,ag2.cap,sp0⟩:cR).t,.obj 99 (fl cD (r0.take r1.toNat:List aQ) (⟨ag2.t,r1.toNat,ag2.cap,sp0⟩:cR).sp))]) (.refl _) u).1 (bH.refl _ _) ⟨(⟨ag2.t,r1.toNat,ag2.cap,sp0⟩:cR),O2,(aS (h0:=h) (L':= [((⟨ag2.t,r1.toNat,ag2.cap,sp0⟩:cR).t,.obj 99 (fl cD (r0.take r1.toNat:List aQ) (⟨ag2.t,r1.toNat,ag2.cap,sp0⟩:cR).sp))]) (.refl _) u).2,rfl,rfl⟩
theorem Z9:aO Tryz.prog 130=true:=by kernel_rfl
def yB (m:Nat) (p0:aB) (p1:aP) (q0:List aG) (q1:Int):Option (Lp ((List aG)×Int) (Int×fE)):=
 if (decide (q1 < (p0.Snaps.length:Int)))=true then ((ix q0 q1).bind λx0=>(yA m x0.Locs p1).bind λy0=>(ix q0 q1).bind λx1=>some (.go (q0.set q1.toNat ({ x1 with Locs:=y0}),IntKind.wrap .i64 (q1+1)))) else some (.brk (q0,q1))
def yC (m:Nat) (p0:aB) (p1:aP) (q0:List aA) (q1:Int):Option (Lp ((List aA)×Int) (Int×fE)):=
 if (decide (q1 < (p0.Chunks.length:Int)))=true then ((ix q0 q1).bind λx0=>(yA m x0.Locs p1).bind λy0=>(ix q0 q1).bind λx1=>some (.go (q0.set q1.toNat ({ x1 with Locs:=y0}),IntKind.wrap .i64 (q1+1)))) else some (.brk (q0,q1))
def yD (m:Nat) (p0:aB) (p1:aP) (q0:List aQ) (q1:Int):Option (Lp ((List aQ)×Int) (Int×fE)):=
 if (decide (q1 < (p0.Exps.length:Int)))=true then ((ix q0 q1).bind λx0=>(yA m x0.Locs p1).bind λy0=>(ix q0 q1).bind λx1=>some (.go (q0.set q1.toNat ({ x1 with Locs:=y0}),IntKind.wrap .i64 (q1+1)))) else some (.brk (q0,q1))
def VY (m:Nat) (p0:aB) (p1:aP):Option (Int×fE):=
 after (if (decide (p1.Vol < 0))=true then (some (.brk true)) else if (decide ((p0.Vols.length:Int)≤p1.Vol))=true then (some (.brk true)) else (ix p0.Vols p1.Vol).bind λx1=>some (.brk (x1.State !=2)):Option (Lp (Bool) (Int×fE))) λj0=>if j0=true then (some (1,p0.Snaps,p0.Chunks,p0.Exps,p0.Vols)) else (ix p0.Vols p1.Vol).bind λx2=>(ix (p0.Vols.set p1.Vol.toNat ({ x2 with State:=3})) p1.Vol).bind λx3=>after (aT (λs=>yB m p0 p1 s.1 s.2) m (p0.Snaps,0)) λ⟨r0,r1⟩=>after (aT (λs=>yC m p0 p1 s.1 s.2) m (p0.Chunks,0)) λ⟨r2,r3⟩=>after (aT (λs=>yD m p0 p1 s.1 s.2) m (p0.Exps,0)) λ⟨r4,r5⟩=>(ET m r2 (λx0=>NA m x0)).bind λy0=>(EU m r4 (λx0=>QN m x0)).bind λy1=>some (0,r0,y0,y1,(p0.Vols.set p1.Vol.toNat ({ x2 with State:=3})).set p1.Vol.toNat ({ x3 with Files:=0}))
theorem W75 {w:Nat} {p0:aB} {p1:aP} {o:Int×fE} (h:aF) {p0K:cB} {gS:dF} (ok_Snaps:lX aG.Locs 4 4 gS (p0.Snaps:List aG)) {gC:dF} (oC:lX aA.Locs 35 4 gC (p0.Chunks:List aA)) {gE:dF} (oE:lX aQ.Locs 3 4 gE (p0.Exps:List aQ)) {gV:cR} (oV:bK gV 4 p0.Vols.length) (K0:bV h ([OC p0K p0.Seq gS.a gC.a gE.a gV,bM gS p0.Snaps,aW gC p0.Chunks,bR gE p0.Exps,aN gV p0.Vols]++((bQ gS p0.Snaps)++((a8 gC p0.Chunks)++(bS gE p0.Exps))))) (m:VY w p0 p1=some o):
 aL Tryz.prog 75 [.ptr p0K 0,.agg (aD p1)] (hp h ([OC p0K p0.Seq gS.a gC.a gE.a gV,bM gS p0.Snaps,aW gC p0.Chunks,bR gE p0.Exps,aN gV p0.Vols]++((bQ gS p0.Snaps)++((a8 gC p0.Chunks)++(bS gE p0.Exps))))) (λr h'=>∃g_Snaps':cR,bK g_Snaps' 4 (o.2.1:List aG).length∧∃g_Chunks':cR,bK g_Chunks' 35 (o.2.2.1:List aA).length∧∃g_Exps':cR,bK g_Exps' 3 (o.2.2.2.1:List aQ).length∧∃g_Vols':cR,bK g_Vols' 4 (o.2.2.2.2:List aR).length∧bV h [OC p0K p0.Seq g_Snaps' g_Chunks' g_Exps' g_Vols',bF g_Snaps' o.2.1,aV g_Chunks' o.2.2.1,bW g_Exps' o.2.2.2.1,aN g_Vols' o.2.2.2.2]∧r=nZ o.1∧h'=hp h [OC p0K p0.Seq g_Snaps' g_Chunks' g_Exps' g_Vols',bF g_Snaps' o.2.1,aV g_Chunks' o.2.2.1,bW g_Exps' o.2.2.2.1,aN g_Vols' o.2.2.2.2]):=by
 refine tH K0 145 [.tmp 4] Tryz.func75 rfl rfl rfl rfl ?_
 unfold VY at m
 refine vs (v0 ?_)
 refine gG rfl rfl λk2 K3=> ?_
 refine vs (vs ?_)
 refine fB m (σ:=Bool) (λs=>([(some k2,.obj 62 (aD p1)),OC p0K p0.Seq gS.a gC.a gE.a gV,bM gS p0.Snaps,aW gC p0.Chunks,bR gE p0.Exps,aN gV p0.Vols]++((bQ gS p0.Snaps)++((a8 gC p0.Chunks)++(bS gE p0.Exps))))) (λs=>.c 0 (.ptr p0K 0) (.c 3 (.ptr k2 0) (.c 33 (.sc (.bool s)) .nil))) (λx m=> ?_) ?_
 refine v0 (vU (by kernel_rfl) (dM fI rfl rfl (vl 0 _ bX rfl rfl rfl ?_)))
 apply vi m <;> intro b0 m
 rw[b0]
 exact gH m
 rw[b0]
 refine dM fI rfl rfl (vl 0 _ bX rfl rfl rfl (jL rfl (dM fS rfl rfl (vl 1 (aZ gV) iK rfl rfl rfl (bU (dR qP oV rfl) ?_)))))
 apply vi m <;> intro b1 m
 rw[b1]
 exact gH m
 rw[b1]
 refine jL rfl (dM fS rfl rfl (vl 1 (aZ gV) iK rfl rfl rfl (dM fI rfl rfl (vl 0 _ bX rfl rfl rfl ?_))))
 obtain⟨x1,X0,m⟩:=aC m
 refine bU (cL X0 lG oV rfl rfl) (bU (cS (bK.ne oV X0) mR rfl rfl) (vn (λu=>dY (fo:=2) (nZ x1.State) X0 eC oV bX rfl (aI 5 u rfl) (λ_=>rfl)) ?_))
 exact gH m
 rintro _ j0 m
 refine v0 ?_
 apply vi m <;> intro c0 m
 refine vs (v0 (v0 ?_))
 cases m
 refine CA (DG (L':=([(some k2,.obj 62 (aD p1)),OC p0K p0.Seq gS.a gC.a gE.a gV,bF gS.a p0.Snaps,aW gC p0.Chunks,bR gE p0.Exps,aN gV p0.Vols]++((a8 gC p0.Chunks)++(bS gE p0.Exps)))) [[_], [_], [_], [_], [_], [_],_,_,_] rfl 2 6 eS p5 ok_Snaps.k rfl rfl (by decide) rfl) ?_
 refine CA (DG (L':=([(some k2,.obj 62 (aD p1)),OC p0K p0.Seq gS.a gC.a gE.a gV,bF gS.a p0.Snaps,aV gC.a p0.Chunks,bR gE p0.Exps,aN gV p0.Vols]++(bS gE p0.Exps))) [[_], [_], [_], [_], [_], [_],_,_] rfl 3 6 eS nQ oC.k rfl rfl (by decide) rfl) ?_
 refine CA (DG (L':= [(some k2,.obj 62 (aD p1)),OC p0K p0.Seq gS.a gC.a gE.a gV,bF gS.a p0.Snaps,aV gC.a p0.Chunks,bW gE.a p0.Exps,aN gV p0.Vols]) [[_], [_], [_], [_], [_], [_],_] rfl 4 6 eS uR oE.k rfl rfl (by decide) rfl) ?_
 exact vr λu=>dX.of1 (.inl rfl) (fU _ _ (.sc (.int _ _)) rfl) (bG u [1,2,3,4,5] rfl).2 (bH.refl _ _) ⟨gS.a,ok_Snaps.k.a,gC.a,oC.k.a,gE.a,oE.k.a,gV,oV,(bG u [1,2,3,4,5] rfl).1,rfl,rfl⟩
 refine v0 (vs (v0 ?_))
 refine vz [(1000000,some p0K,.obj 30 ([nZ p0.Seq,aZ gS.a,aZ gC.a,aZ gE.a,aZ gV])),(1000000,some k2,.obj 62 (aD p1))] mixed (λu=>⟨λ_=>aI 1 u rfl,λ_=>aI 0 u rfl,trivial⟩) λu=> ?_
 refine zP 0 rfl rfl ?_
 refine zN 1 rfl rfl ?_
 refine zF 2 rfl fS rfl ?_
 refine zL 3 0 (aZ gV) rfl iK rfl rfl rfl ?_
 refine zF 4 rfl fI rfl ?_
 refine zL 5 1 (nZ p1.Vol) rfl bX rfl rfl rfl ?_
 refine zP 6 rfl rfl ?_
 refine zN 7 rfl rfl ?_
 refine zF 8 rfl fS rfl ?_
 refine zL 9 0 (aZ gV) rfl iK rfl rfl rfl ?_
 refine zF 10 rfl fI rfl ?_
 refine zL 11 1 (nZ p1.Vol) rfl bX rfl rfl rfl ?_
 obtain⟨x2,X1,m⟩:=aC m
 refine zC 12 rfl (cL X1 lG oV rfl rfl) ?_
 refine zC 13 rfl (cS (bK.ne oV X1) mR rfl rfl) ?_
 refine zE 14 rfl (cI (fo:=2) ({ x2 with State:=3}:aR) 5 u X1 eC oV rfl rfl rfl rfl (cU.refl _ _) yT rfl rfl λK1=>⟨⟨λ_=>aI 1 K1 rfl,λ_=>aI 0 K1 rfl,trivial⟩, ?_⟩)
 obtain⟨x3,X2,m⟩:=aC m
 refine zC 15 rfl (cL X2 lG (bK.set oV) rfl rfl) ?_
 refine zC 16 rfl (cS (bK.ne (bK.set oV) X2) pF rfl rfl) ?_
 refine zE 17 rfl (cI (fo:=3) ({ x3 with Files:=0}:aR) 5 K1 X2 eC (bK.set oV) rfl rfl rfl rfl (cU.refl _ _) yT rfl rfl λK2=>⟨⟨λ_=>aI 1 K2 rfl,λ_=>aI 0 K2 rfl,trivial⟩, ?_⟩)
 refine zX (qk (f:=S0 49 _ _ _ _ _ _ _ _ _ _ _ _ _ _ _ _ _) K2 rfl ?_)
 refine vs (v0 (vs (vs (v0 (jL rfl (dM dW rfl rfl (vl 1 (aZ gS.a) eK rfl rfl rfl (bU (dR iJ ok_Snaps.k.a rfl) ?_))))))))
 refine nC m (σ:=(List aG)×Int) (τ:=dF) (λg s=>([(some k2,.obj 62 (aD p1)),OC p0K p0.Seq g.a gC.a gE.a gV,bM g s.1,aW gC p0.Chunks,bR gE p0.Exps,aN gV ((p0.Vols.set p1.Vol.toNat ({ x2 with State:=3})).set p1.Vol.toNat ({ x3 with Files:=0}))]++((bQ g s.1)++((a8 gC p0.Chunks)++(bS gE p0.Exps))))) (λg s=>lX aG.Locs 4 4 g (s.1:List aG)) (λg s=>.c 0 (.ptr p0K 0) (.c 5 (.fn (.func 126) [.ptr k2 0]) (.c 55 (nZ (p0.Snaps.length:Int)) (.c 56 (nZ s.2) .nil)))) gS ok_Snaps (lx (.k4 .nil)) ?_ ?_
 rintro ng0 ⟨q0,q1⟩ x O0 m
 replace m:yB w p0 p1 q0 q1=some x:=m
 unfold yB at m
 refine vs (v0 (vs (v0 ?_)))
 apply vi m <;> intro c1 m
 refine v0 (vs (v0 (vs (v0 (v0 ?_)))))
 refine vz [(1000000,some p0K,.obj 30 ([nZ p0.Seq,aZ ng0.a,aZ gC.a,aZ gE.a,aZ gV])),(17,ng0.a.t,.obj 60 (fl kD (zg (q0:List aG) ng0.gs) ng0.a.sp))] mixed (λu=>⟨λ_=>aI 1 u rfl,λ_=>aI 2 u rfl,trivial⟩) λu=> ?_
 refine zP 0 rfl rfl ?_
 refine zN 1 rfl rfl ?_
 refine zF 2 rfl dW rfl ?_
 refine zL 3 0 (aZ ng0.a) rfl eK rfl rfl rfl ?_
 refine zI 4 rfl rfl ?_
 refine zC 5 rfl (eW (.fn _ _) rfl) ?_
 refine zP 6 rfl rfl ?_
 refine zN 7 rfl rfl ?_
 refine zF 8 rfl dW rfl ?_
 refine zL 9 0 (aZ ng0.a) rfl eK rfl rfl rfl ?_
 refine zI 10 rfl rfl ?_
 obtain⟨x4,X3,m⟩:=aC m
 refine zC 11 rfl (cL (O0.k.ix X3) gJ O0.k.z rfl rfl) ?_
 refine zC 12 rfl (cS (bK.ne O0.k.z (O0.k.ix X3)) jP rfl rfl) ?_
 obtain⟨gv0,hg0,ga0,gn0⟩:=O0.gx X3
 refine vL 13 rfl (λ_ _ hi hB=>fC (dY (fo:=3) (awO aM 4 (gx ng0.gs q1.toNat) x4.Locs) (O0.k.ix X3) kF O0.k.z e8 rfl (fW.get 1 hi rfl (hB 17 (by kernel_rfl))) (λ_=>rfl)) (bH.of_eq (congrArg (λz=>awO aM 4 z x4.Locs) hg0))) ?_
 obtain⟨y0,Y0,m⟩:=aC m
 refine zE 14 rfl ?_
 have ho0:=p4 (R:=([(some k2,.obj 62 (aD p1)),OC p0K p0.Seq ng0.a gC.a gE.a gV,bM ng0 q0,aW gC p0.Chunks,bR gE p0.Exps,aN gV ((p0.Vols.set p1.Vol.toNat ({ x2 with State:=3})).set p1.Vol.toNat ({ x3 with Files:=0}))]++((kA 81 aM ((nl aG.Locs (zg (q0:List aG) ng0.gs)).eraseIdx q1.toNat))++((a8 gC p0.Chunks)++(bS gE p0.Exps))))) u [[_], [_], [_], [_], [_], [_],_,_,_] rfl 6 rfl gn0 rfl
 have ho1:=cJ [(eI gv0 x4.Locs)] _ ho0.2
 refine dA (ho0.1.trans (cT h [(eI gv0 x4.Locs)] _).symm) (cK (M8 _ ga0 ho1.2 (a9 0 ho1.1 rfl) Y0) rfl M9 rfl ?_)
 rintro x h' ⟨ag0,O1,K4,rfl,rfl⟩
 refine kJ (cT h [fJ ag0 y0] _) ?_
 refine⟨⟨λ_=>aI 2 (dG ho1.1 K4) rfl,λ_=>aI 3 (dG ho1.1 K4) rfl,trivial⟩, ?_⟩
 obtain⟨x5,X4,m⟩:=aC m
 refine zC 15 rfl (cL (O0.k.ix X4) gJ O0.k.z rfl rfl) ?_
 refine zC 16 rfl (cS (bK.ne O0.k.z (O0.k.ix X4)) jP rfl rfl) ?_
 refine zE 17 rfl (cI (fo:=3) (x':=(({ x5 with Locs:=y0}:aG),some ag0)) 3 (dG ho1.1 K4) (O0.k.ix X4) kF O0.k.z rfl rfl (cC rfl) (cE (bY _ _ _) rfl) (cU.refl _ _) nL rfl rfl ?_)
 intro K5
 have O2:=O0.setL (x':=({ x5 with Locs:=y0}:aG)) X4 ag0 O1
 have hr0:=sP (L':=(eI ag0 y0)::(([(some k2,.obj 62 (aD p1)),OC p0K p0.Seq ng0.a gC.a gE.a gV,(ng0.a.t,.obj 60 (fl kD (((zg (q0:List aG) ng0.gs)).set q1.toNat (({ x5 with Locs:=y0}:aG),some ag0)) ng0.a.sp)),aW gC p0.Chunks,bR gE p0.Exps,aN gV ((p0.Vols.set p1.Vol.toNat ({ x2 with State:=3})).set p1.Vol.toNat ({ x3 with Files:=0}))]:HL)++((kA 81 aM ((nl aG.Locs (zg (q0:List aG) ng0.gs)).eraseIdx q1.toNat))++((a8 gC p0.Chunks)++(bS gE p0.Exps))))) K5 [[_], [_], [_], [_], [_], [_], [_],_,_,_] rfl [0,1,2,3,4,5,6,7,8,9] rfl rfl
 have hj0:=oK (L':=([(some k2,.obj 62 (aD p1)),OC p0K p0.Seq ((⟨ng0.a,ng0.gs.set q1.toNat (some ag0)⟩:dF).a) gC.a gE.a gV,bM (⟨ng0.a,ng0.gs.set q1.toNat (some ag0)⟩:dF) (q0.set q1.toNat ({ x5 with Locs:=y0})),aW gC p0.Chunks,bR gE p0.Exps,aN gV ((p0.Vols.set p1.Vol.toNat ({ x2 with State:=3})).set p1.Vol.toNat ({ x3 with Files:=0}))]++((bQ (⟨ng0.a,ng0.gs.set q1.toNat (some ag0)⟩:dF) (q0.set q1.toNat ({ x5 with Locs:=y0})))++((a8 gC p0.Chunks)++(bS gE p0.Exps))))) [[_], [_], [_], [_], [_], [_],_,_,_] rfl 6 (zs:=nl aG.Locs (zg (q0:List aG) ng0.gs)) (j:=q1.toNat) (aG.Locs ({ x5 with Locs:=y0}:aG),some ag0) (jM (O0.k.nlat X4)) rfl hr0.2 (by rw[← (O0.k.setL (x':=({ x5 with Locs:=y0}:aG)) X4 ag0 O1).2.2,(O0.k.setL (x':=({ x5 with Locs:=y0}:aG)) X4 ag0 O1).2.1]; rfl)
 refine kJ (hr0.1.trans hj0.1) ?_
 refine⟨⟨λ_=>aI 1 hj0.2 rfl,λe=>absurd e (by decide),trivial⟩, ?_⟩
 refine zX (qk (f:=vM 75 _ _ _ _ _ _ _ _ _ _ _ _ _ _ _ _ _ _) hj0.2 rfl ?_)
 refine v0 ?_
 exact eY m (⟨ng0.a,ng0.gs.set q1.toNat (some ag0)⟩:dF) O2 (lx (.k4 .nil))
 refine v0 ?_
 exact lA m ng0 O0 (lx (.k4 .nil))
 rintro ng1 ⟨r0,r1⟩ t0 m
 refine vs (vs (v0 (jL rfl (dM dZ rfl rfl (vl 1 (aZ gC.a) eD rfl rfl rfl (bU (dR hM oC.k.a rfl) ?_))))))
 refine nC m (σ:=(List aA)×Int) (τ:=dF) (λg s=>([(some k2,.obj 62 (aD p1)),OC p0K p0.Seq ng1.a g.a gE.a gV,bM ng1 r0,aW g s.1,bR gE p0.Exps,aN gV ((p0.Vols.set p1.Vol.toNat ({ x2 with State:=3})).set p1.Vol.toNat ({ x3 with Files:=0}))]++((bQ ng1 r0)++((a8 g s.1)++(bS gE p0.Exps))))) (λg s=>lX aA.Locs 35 4 g (s.1:List aA)) (λg s=>.c 0 (.ptr p0K 0) (.c 5 (.fn (.func 126) [.ptr k2 0]) (.c 81 (nZ (p0.Chunks.length:Int)) (.c 82 (nZ s.2) .nil)))) gC oC (lx (.k4 .nil)) ?_ ?_
 rintro ng2 ⟨q2,q3⟩ x O3 m
 replace m:yC w p0 p1 q2 q3=some x:=m
 unfold yC at m
 refine vs (v0 (vs (v0 ?_)))
 apply vi m <;> intro c2 m
 refine v0 (vs (v0 (vs (v0 (v0 ?_)))))
 refine vz [(1000000,some p0K,.obj 30 ([nZ p0.Seq,aZ ng1.a,aZ ng2.a,aZ gE.a,aZ gV])),(17,ng2.a.t,.obj 44 (fl jI (zg (q2:List aA) ng2.gs) ng2.a.sp))] mixed (λu=>⟨λ_=>aI 1 u rfl,λ_=>aI 3 u rfl,trivial⟩) λu=> ?_
 refine zP 0 rfl rfl ?_
 refine zN 1 rfl rfl ?_
 refine zF 2 rfl dZ rfl ?_
 refine zL 3 0 (aZ ng2.a) rfl eD rfl rfl rfl ?_
 refine zI 4 rfl rfl ?_
 refine zC 5 rfl (eW (.fn _ _) rfl) ?_
 refine zP 6 rfl rfl ?_
 refine zN 7 rfl rfl ?_
 refine zF 8 rfl dZ rfl ?_
 refine zL 9 0 (aZ ng2.a) rfl eD rfl rfl rfl ?_
 refine zI 10 rfl rfl ?_
 obtain⟨x6,X5,m⟩:=aC m
 refine zC 11 rfl (cL (O3.k.ix X5) eU O3.k.z rfl rfl) ?_
 refine zC 12 rfl (cS (bK.ne O3.k.z (O3.k.ix X5)) iW rfl rfl) ?_
 obtain⟨gv1,hg1,ga1,gn1⟩:=O3.gx X5
 refine vL 13 rfl (λ_ _ hi hB=>fC (dY (fo:=34) (awO aM 4 (gx ng2.gs q3.toNat) x6.Locs) (O3.k.ix X5) iR O3.k.z e8 rfl (fW.get 1 hi rfl (hB 17 (by kernel_rfl))) (λ_=>rfl)) (bH.of_eq (congrArg (λz=>awO aM 4 z x6.Locs) hg1))) ?_
 obtain⟨y1,Y1,m⟩:=aC m
 refine zE 14 rfl ?_
 have ho2:=p4 (R:=([(some k2,.obj 62 (aD p1)),OC p0K p0.Seq ng1.a ng2.a gE.a gV,bM ng1 r0,aW ng2 q2,bR gE p0.Exps,aN gV ((p0.Vols.set p1.Vol.toNat ({ x2 with State:=3})).set p1.Vol.toNat ({ x3 with Files:=0}))]++((bQ ng1 r0)++((kA 81 aM ((nl aA.Locs (zg (q2:List aA) ng2.gs)).eraseIdx q3.toNat))++(bS gE p0.Exps))))) u [[_], [_], [_], [_], [_], [_],_,_,_] rfl 7 rfl gn1 rfl
 have ho3:=cJ [(eI gv1 x6.Locs)] _ ho2.2
 refine dA (ho2.1.trans (cT h [(eI gv1 x6.Locs)] _).symm) (cK (M8 _ ga1 ho3.2 (a9 0 ho3.1 rfl) Y1) rfl M9 rfl ?_)
 rintro x h' ⟨ag1,O4,K6,rfl,rfl⟩
 refine kJ (cT h [fJ ag1 y1] _) ?_
 refine⟨⟨λ_=>aI 2 (dG ho3.1 K6) rfl,λ_=>aI 4 (dG ho3.1 K6) rfl,trivial⟩, ?_⟩
 obtain⟨x7,X6,m⟩:=aC m
 refine zC 15 rfl (cL (O3.k.ix X6) eU O3.k.z rfl rfl) ?_
 refine zC 16 rfl (cS (bK.ne O3.k.z (O3.k.ix X6)) iW rfl rfl) ?_
 refine zE 17 rfl (cI (fo:=34) (x':=(({ x7 with Locs:=y1}:aA),some ag1)) 4 (dG ho3.1 K6) (O3.k.ix X6) iR O3.k.z rfl rfl (cC rfl) (cE (bY _ _ _) rfl) (cU.refl _ _) nL rfl rfl ?_)
 intro K7
 have O5:=O3.setL (x':=({ x7 with Locs:=y1}:aA)) X6 ag1 O4
 have hr1:=sP (L':=(eI ag1 y1)::(([(some k2,.obj 62 (aD p1)),OC p0K p0.Seq ng1.a ng2.a gE.a gV,bM ng1 r0,(ng2.a.t,.obj 44 (fl jI (((zg (q2:List aA) ng2.gs)).set q3.toNat (({ x7 with Locs:=y1}:aA),some ag1)) ng2.a.sp)),bR gE p0.Exps,aN gV ((p0.Vols.set p1.Vol.toNat ({ x2 with State:=3})).set p1.Vol.toNat ({ x3 with Files:=0}))]:HL)++((bQ ng1 r0)++((kA 81 aM ((nl aA.Locs (zg (q2:List aA) ng2.gs)).eraseIdx q3.toNat))++(bS gE p0.Exps))))) K7 [[_], [_], [_], [_], [_], [_], [_],_,_,_] rfl [0,1,2,3,4,5,6,7,8,9] rfl rfl
 have hj1:=oK (L':=([(some k2,.obj 62 (aD p1)),OC p0K p0.Seq ng1.a ((⟨ng2.a,ng2.gs.set q3.toNat (some ag1)⟩:dF).a) gE.a gV,bM ng1 r0,aW (⟨ng2.a,ng2.gs.set q3.toNat (some ag1)⟩:dF) (q2.set q3.toNat ({ x7 with Locs:=y1})),bR gE p0.Exps,aN gV ((p0.Vols.set p1.Vol.toNat ({ x2 with State:=3})).set p1.Vol.toNat ({ x3 with Files:=0}))]++((bQ ng1 r0)++((a8 (⟨ng2.a,ng2.gs.set q3.toNat (some ag1)⟩:dF) (q2.set q3.toNat ({ x7 with Locs:=y1})))++(bS gE p0.Exps))))) [[_], [_], [_], [_], [_], [_],_,_,_] rfl 7 (zs:=nl aA.Locs (zg (q2:List aA) ng2.gs)) (j:=q3.toNat) (aA.Locs ({ x7 with Locs:=y1}:aA),some ag1) (jM (O3.k.nlat X6)) rfl hr1.2 (by rw[← (O3.k.setL (x':=({ x7 with Locs:=y1}:aA)) X6 ag1 O4).2.2,(O3.k.setL (x':=({ x7 with Locs:=y1}:aA)) X6 ag1 O4).2.1]; rfl)
 refine kJ (hr1.1.trans hj1.1) ?_
 refine⟨⟨λ_=>aI 1 hj1.2 rfl,λe=>absurd e (by decide),trivial⟩, ?_⟩
 refine zX (qk (f:=vM 101 _ _ _ _ _ _ _ _ _ _ _ _ _ _ _ _ _ _) hj1.2 rfl ?_)
 refine v0 ?_
 exact eY m (⟨ng2.a,ng2.gs.set q3.toNat (some ag1)⟩:dF) O5 (lx (.k4 .nil))
 refine v0 ?_
 exact lA m ng2 O3 (lx (.k4 .nil))
 rintro ng3 ⟨r2,r3⟩ t1 m
 refine vs (vs (v0 (jL rfl (dM eT rfl rfl (vl 1 (aZ gE.a) hX rfl rfl rfl (bU (dR nK oE.k.a rfl) ?_))))))
 refine nC m (σ:=(List aQ)×Int) (τ:=dF) (λg s=>([(some k2,.obj 62 (aD p1)),OC p0K p0.Seq ng1.a ng3.a g.a gV,bM ng1 r0,aW ng3 r2,bR g s.1,aN gV ((p0.Vols.set p1.Vol.toNat ({ x2 with State:=3})).set p1.Vol.toNat ({ x3 with Files:=0}))]++((bQ ng1 r0)++((a8 ng3 r2)++(bS g s.1))))) (λg s=>lX aQ.Locs 3 4 g (s.1:List aQ)) (λg s=>.c 0 (.ptr p0K 0) (.c 5 (.fn (.func 126) [.ptr k2 0]) (.c 107 (nZ (p0.Exps.length:Int)) (.c 108 (nZ s.2) .nil)))) gE oE (lx (.k4 .nil)) ?_ ?_
 rintro ng4 ⟨q4,q5⟩ x O6 m
 replace m:yD w p0 p1 q4 q5=some x:=m
 unfold yD at m
 refine vs (v0 (vs (v0 ?_)))
 apply vi m <;> intro c3 m
 refine v0 (vs (v0 (vs (v0 (v0 ?_)))))
 refine vz [(1000000,some p0K,.obj 30 ([nZ p0.Seq,aZ ng1.a,aZ ng3.a,aZ ng4.a,aZ gV])),(17,ng4.a.t,.obj 99 (fl kX (zg (q4:List aQ) ng4.gs) ng4.a.sp))] mixed (λu=>⟨λ_=>aI 1 u rfl,λ_=>aI 4 u rfl,trivial⟩) λu=> ?_
 refine zP 0 rfl rfl ?_
 refine zN 1 rfl rfl ?_
 refine zF 2 rfl eT rfl ?_
 refine zL 3 0 (aZ ng4.a) rfl hX rfl rfl rfl ?_
 refine zI 4 rfl rfl ?_
 refine zC 5 rfl (eW (.fn _ _) rfl) ?_
 refine zP 6 rfl rfl ?_
 refine zN 7 rfl rfl ?_
 refine zF 8 rfl eT rfl ?_
 refine zL 9 0 (aZ ng4.a) rfl hX rfl rfl rfl ?_
 refine zI 10 rfl rfl ?_
 obtain⟨x8,X7,m⟩:=aC m
 refine zC 11 rfl (cL (O6.k.ix X7) hU O6.k.z rfl rfl) ?_
 refine zC 12 rfl (cS (bK.ne O6.k.z (O6.k.ix X7)) kU rfl rfl) ?_
 obtain⟨gv2,hg2,ga2,gn2⟩:=O6.gx X7
 refine vL 13 rfl (λ_ _ hi hB=>fC (dY (fo:=2) (awO aM 4 (gx ng4.gs q5.toNat) x8.Locs) (O6.k.ix X7) oM O6.k.z e8 rfl (fW.get 1 hi rfl (hB 17 (by kernel_rfl))) (λ_=>rfl)) (bH.of_eq (congrArg (λz=>awO aM 4 z x8.Locs) hg2))) ?_
 obtain⟨y2,Y2,m⟩:=aC m
 refine zE 14 rfl ?_
 have ho4:=p4 (R:=([(some k2,.obj 62 (aD p1)),OC p0K p0.Seq ng1.a ng3.a ng4.a gV,bM ng1 r0,aW ng3 r2,bR ng4 q4,aN gV ((p0.Vols.set p1.Vol.toNat ({ x2 with State:=3})).set p1.Vol.toNat ({ x3 with Files:=0}))]++((bQ ng1 r0)++((a8 ng3 r2)++(kA 81 aM ((nl aQ.Locs (zg (q4:List aQ) ng4.gs)).eraseIdx q5.toNat)))))) u [[_], [_], [_], [_], [_], [_],_,_,_] rfl 8 rfl gn2 rfl
 have ho5:=cJ [(eI gv2 x8.Locs)] _ ho4.2
 refine dA (ho4.1.trans (cT h [(eI gv2 x8.Locs)] _).symm) (cK (M8 _ ga2 ho5.2 (a9 0 ho5.1 rfl) Y2) rfl M9 rfl ?_)
 rintro x h' ⟨ag2,O7,K8,rfl,rfl⟩
 refine kJ (cT h [fJ ag2 y2] _) ?_
 refine⟨⟨λ_=>aI 2 (dG ho5.1 K8) rfl,λ_=>aI 5 (dG ho5.1 K8) rfl,trivial⟩, ?_⟩
 obtain⟨x9,X8,m⟩:=aC m
 refine zC 15 rfl (cL (O6.k.ix X8) hU O6.k.z rfl rfl) ?_
 refine zC 16 rfl (cS (bK.ne O6.k.z (O6.k.ix X8)) kU rfl rfl) ?_
 refine zE 17 rfl (cI (fo:=2) (x':=(({ x9 with Locs:=y2}:aQ),some ag2)) 5 (dG ho5.1 K8) (O6.k.ix X8) oM O6.k.z rfl rfl (cC rfl) (cE (bY _ _ _) rfl) (cU.refl _ _) nL rfl rfl ?_)
 intro K9
 have O8:=O6.setL (x':=({ x9 with Locs:=y2}:aQ)) X8 ag2 O7
 have hr2:=sP (L':=(eI ag2 y2)::(([(some k2,.obj 62 (aD p1)),OC p0K p0.Seq ng1.a ng3.a ng4.a gV,bM ng1 r0,aW ng3 r2,(ng4.a.t,.obj 99 (fl kX (((zg (q4:List aQ) ng4.gs)).set q5.toNat (({ x9 with Locs:=y2}:aQ),some ag2)) ng4.a.sp)),aN gV ((p0.Vols.set p1.Vol.toNat ({ x2 with State:=3})).set p1.Vol.toNat ({ x3 with Files:=0}))]:HL)++((bQ ng1 r0)++((a8 ng3 r2)++(kA 81 aM ((nl aQ.Locs (zg (q4:List aQ) ng4.gs)).eraseIdx q5.toNat)))))) K9 [[_], [_], [_], [_], [_], [_], [_],_,_,_] rfl [0,1,2,3,4,5,6,7,8,9] rfl rfl
 have hj2:=oK (L':=([(some k2,.obj 62 (aD p1)),OC p0K p0.Seq ng1.a ng3.a ((⟨ng4.a,ng4.gs.set q5.toNat (some ag2)⟩:dF).a) gV,bM ng1 r0,aW ng3 r2,bR (⟨ng4.a,ng4.gs.set q5.toNat (some ag2)⟩:dF) (q4.set q5.toNat ({ x9 with Locs:=y2})),aN gV ((p0.Vols.set p1.Vol.toNat ({ x2 with State:=3})).set p1.Vol.toNat ({ x3 with Files:=0}))]++((bQ ng1 r0)++((a8 ng3 r2)++(bS (⟨ng4.a,ng4.gs.set q5.toNat (some ag2)⟩:dF) (q4.set q5.toNat ({ x9 with Locs:=y2}))))))) [[_], [_], [_], [_], [_], [_],_,_,_] rfl 8 (zs:=nl aQ.Locs (zg (q4:List aQ) ng4.gs)) (j:=q5.toNat) (aQ.Locs ({ x9 with Locs:=y2}:aQ),some ag2) (jM (O6.k.nlat X8)) rfl hr2.2 (by rw[← (O6.k.setL (x':=({ x9 with Locs:=y2}:aQ)) X8 ag2 O7).2.2,(O6.k.setL (x':=({ x9 with Locs:=y2}:aQ)) X8 ag2 O7).2.1]; rfl)
 refine kJ (hr2.1.trans hj2.1) ?_
 refine⟨⟨λ_=>aI 1 hj2.2 rfl,λe=>absurd e (by decide),trivial⟩, ?_⟩
 refine zX (qk (f:=vM 127 _ _ _ _ _ _ _ _ _ _ _ _ _ _ _ _ _ _) hj2.2 rfl ?_)
 refine v0 ?_
 exact eY m (⟨ng4.a,ng4.gs.set q5.toNat (some ag2)⟩:dF) O8 (lx (.k4 .nil))
 refine v0 ?_
 exact lA m ng4 O6 (lx (.k4 .nil))
 rintro ng5 ⟨r4,r5⟩ t2 m
 refine vs (pU (DG (L':=([(some k2,.obj 62 (aD p1)),OC p0K p0.Seq ng1.a ng3.a ng5.a gV,bF ng1.a r0,aW ng3 r2,bR ng5 r4,aN gV ((p0.Vols.set p1.Vol.toNat ({ x2 with State:=3})).set p1.Vol.toNat ({ x3 with Files:=0}))]++((a8 ng3 r2)++(bS ng5 r4)))) [[_], [_], [_], [_], [_], [_],_,_,_] rfl 2 6 eS p5 t0.k rfl rfl (by decide) rfl) (pU (DG (L':=([(some k2,.obj 62 (aD p1)),OC p0K p0.Seq ng1.a ng3.a ng5.a gV,bF ng1.a r0,aV ng3.a r2,bR ng5 r4,aN gV ((p0.Vols.set p1.Vol.toNat ({ x2 with State:=3})).set p1.Vol.toNat ({ x3 with Files:=0}))]++(bS ng5 r4))) [[_], [_], [_], [_], [_], [_],_,_] rfl 3 6 eS nQ t1.k rfl rfl (by decide) rfl) (pU (DG (L':= [(some k2,.obj 62 (aD p1)),OC p0K p0.Seq ng1.a ng3.a ng5.a gV,bF ng1.a r0,aV ng3.a r2,bW ng5.a r4,aN gV ((p0.Vols.set p1.Vol.toNat ({ x2 with State:=3})).set p1.Vol.toNat ({ x3 with Files:=0}))]) [[_], [_], [_], [_], [_], [_],_] rfl 4 6 eS uR t2.k rfl rfl (by decide) rfl) (v0 (jL rfl (dM dZ rfl rfl (vl 1 (aZ ng3.a) eD rfl rfl rfl ?_)))))))
 obtain⟨y3,Y3,m⟩:=aC m
 refine ve λu=>dA ((bC u [3,0,1,2,4,5] rfl rfl).1.trans (cT h [aV ng3.a r2] [(some k2,.obj 62 (aD p1)),OC p0K p0.Seq ng1.a ng3.a ng5.a gV,bF ng1.a r0,bW ng5.a r4,aN gV ((p0.Vols.set p1.Vol.toNat ({ x2 with State:=3})).set p1.Vol.toNat ({ x3 with Files:=0}))]).symm) (cK (ZY (hp h [(some k2,.obj 62 (aD p1)),OC p0K p0.Seq ng1.a ng3.a ng5.a gV,bF ng1.a r0,bW ng5.a r4,aN gV ((p0.Vols.set p1.Vol.toNat ({ x2 with State:=3})).set p1.Vol.toNat ({ x3 with Files:=0}))]) t1.k.a (cJ [aV ng3.a r2] [(some k2,.obj 62 (aD p1)),OC p0K p0.Seq ng1.a ng3.a ng5.a gV,bF ng1.a r0,bW ng5.a r4,aN gV ((p0.Vols.set p1.Vol.toNat ({ x2 with State:=3})).set p1.Vol.toNat ({ x3 with Files:=0}))] (bC u [3,0,1,2,4,5] rfl rfl).2).2 ZX (λx0 o h0 hs ho=>aFR _ ho) Y3) rfl ZZ rfl ?_)
 rintro x h' ⟨ag3,O9,K10,rfl,rfl⟩
 have K11:=bC (L':= [(some k2,.obj 62 (aD p1)),(hO p0K p0.Seq ng1.a ng3.a ng5.a gV),bF ng1.a r0,aV ag3 y3,bW ng5.a r4,aN gV ((p0.Vols.set p1.Vol.toNat ({ x2 with State:=3})).set p1.Vol.toNat ({ x3 with Files:=0}))]) (dG (cJ [aV ng3.a r2] [(some k2,.obj 62 (aD p1)),OC p0K p0.Seq ng1.a ng3.a ng5.a gV,bF ng1.a r0,bW ng5.a r4,aN gV ((p0.Vols.set p1.Vol.toNat ({ x2 with State:=3})).set p1.Vol.toNat ({ x3 with Files:=0}))] (bC u [3,0,1,2,4,5] rfl rfl).2).1 K10) [1,2,3,0,4,5] rfl rfl
 refine qk K11.2 ((cT h [aV ag3 y3] [(some k2,.obj 62 (aD p1)),OC p0K p0.Seq ng1.a ng3.a ng5.a gV,bF ng1.a r0,bW ng5.a r4,aN gV ((p0.Vols.set p1.Vol.toNat ({ x2 with State:=3})).set p1.Vol.toNat ({ x3 with Files:=0}))]).trans K11.1) ?_
 refine jL rfl (dM dZ rfl rfl ?_)
 refine ve λu=>aK 1 ([nZ p0.Seq,aZ ng1.a,aZ ag3,aZ ng5.a,aZ gV]) u rfl rfl (cC rfl) (cE (bY _ _ _) rfl) yX rfl rfl λK12=>qk K12 rfl ?_
 refine vs (v0 (jL rfl (dM eT rfl rfl (vl 1 (aZ ng5.a) hX rfl rfl rfl ?_))))
 obtain⟨y4,Y4,m⟩:=aC m
 refine ve λu=>dA ((bC u [4,0,1,2,3,5] rfl rfl).1.trans (cT h [bW ng5.a r4] [(some k2,.obj 62 (aD p1)),OC p0K p0.Seq ng1.a ag3 ng5.a gV,bF ng1.a r0,aV ag3 y3,aN gV ((p0.Vols.set p1.Vol.toNat ({ x2 with State:=3})).set p1.Vol.toNat ({ x3 with Files:=0}))]).symm) (cK (Z8 (hp h [(some k2,.obj 62 (aD p1)),OC p0K p0.Seq ng1.a ag3 ng5.a gV,bF ng1.a r0,aV ag3 y3,aN gV ((p0.Vols.set p1.Vol.toNat ({ x2 with State:=3})).set p1.Vol.toNat ({ x3 with Files:=0}))]) t2.k.a (cJ [bW ng5.a r4] [(some k2,.obj 62 (aD p1)),OC p0K p0.Seq ng1.a ag3 ng5.a gV,bF ng1.a r0,aV ag3 y3,aN gV ((p0.Vols.set p1.Vol.toNat ({ x2 with State:=3})).set p1.Vol.toNat ({ x3 with Files:=0}))] (bC u [4,0,1,2,3,5] rfl rfl).2).2 Z7 (λx0 o h0 hs ho=>aFS _ ho) Y4) rfl Z9 rfl ?_)
 rintro x h' ⟨ag4,O10,K13,rfl,rfl⟩
 have K14:=bC (L':= [(some k2,.obj 62 (aD p1)),(hO p0K p0.Seq ng1.a ag3 ng5.a gV),bF ng1.a r0,aV ag3 y3,bW ag4 y4,aN gV ((p0.Vols.set p1.Vol.toNat ({ x2 with State:=3})).set p1.Vol.toNat ({ x3 with Files:=0}))]) (dG (cJ [bW ng5.a r4] [(some k2,.obj 62 (aD p1)),OC p0K p0.Seq ng1.a ag3 ng5.a gV,bF ng1.a r0,aV ag3 y3,aN gV ((p0.Vols.set p1.Vol.toNat ({ x2 with State:=3})).set p1.Vol.toNat ({ x3 with Files:=0}))] (bC u [4,0,1,2,3,5] rfl rfl).2).1 K13) [1,2,3,4,0,5] rfl rfl
 refine qk K14.2 ((cT h [bW ag4 y4] [(some k2,.obj 62 (aD p1)),OC p0K p0.Seq ng1.a ag3 ng5.a gV,bF ng1.a r0,aV ag3 y3,aN gV ((p0.Vols.set p1.Vol.toNat ({ x2 with State:=3})).set p1.Vol.toNat ({ x3 with Files:=0}))]).trans K14.1) ?_
 refine jL rfl (dM eT rfl rfl ?_)
 refine ve λu=>aK 1 ([nZ p0.Seq,aZ ng1.a,aZ ag3,aZ ag4,aZ gV]) u rfl rfl (cC rfl) (cE (bY _ _ _) rfl) JG rfl rfl λK15=>qk K15 rfl ?_
 refine vs (v0 (v0 ?_))
 cases m
 exact vr λu=>dX.of1 (.inl rfl) (fU _ _ (.sc (.int _ _)) rfl) (bG u [1,2,3,4,5] rfl).2 (bH.refl _ _) ⟨ng1.a,t0.k.a,ag3,O9,ag4,O10,gV,(bK.set (bK.set oV)),(bG u [1,2,3,4,5] rfl).1,rfl,rfl⟩
theorem aFT:aO Tryz.prog 75=true:=by kernel_rfl
open Go.Vm
def QO (m:Nat) (p0:List bL):Option (List bL):=app [] p0
theorem aFU {w:Nat} {p0:List bL} {o:List bL} (h:aF) (m:QO w p0=some o):
 aL Tryz.prog 170 [.sl none 32 (List.map bJ p0)] h (λr h'=>∃t,(t=none→o= [])∧bV h [(t,.tok 36 32 (o.length*32))]∧r=ow t 32 (List.map bJ o)∧h'=hp h [(t,.tok 36 32 (o.length*32))]):=by
 refine jJ 8 [.tmp 2] Tryz.func170 rfl rfl rfl rfl ?_
 unfold QO at m
 refine gQ λK1 H1=>eL (rD (iB (.sc (.slice _ _ _)) rfl) (fT (H1 _ _ (gQ λK1 H1=>gQ λK2 H2=>eL (vE rfl (lD (jW rfl (by rw[rV]; rfl) (by rw[bN]; exact rfl) (.inl ⟨_,_,_,rfl,λb hb=> ?_⟩))))))))
 refine fT (H2 _ _ (m9 rfl (λhc=> ?_) (λhc=> ?_)))
 have h0:p0= []:=by
   cases p0 with
   | nil=>rfl
   | cons x l=>have:=hb (by simp); rw[this] at hc; cases hc
 subst h0
 obtain⟨rfl, -⟩:=jD m
 exact gQ λK1 H1=>eL (rD (iB (.sc (.slice _ _ _)) rfl) (fT (H1 _ _ (iT (dX.one (.inl rfl) (h9.refl _) (jE _ _) ⟨none,λ_=>rfl,bV.none (bV.nil _),rfl,rfl⟩)))))
 exact lZ (H1 _ _ (gQ λK1 H1=>eL (lD (LD (c:=bJ) (bV.nil _) B2 λu=>vE rfl (lD (fF (c:=bJ) 0 m B2 rfl rfl rfl (λ_=>rfl) u rfl λtg ot u=>rD (iB (ow _ _ _) rfl) (fT (H1 _ _ (iT (dX.one (.inl rfl) (h9.refl _) (bH.refl _ _) ⟨tg,ot,u,rfl,rfl⟩))))))))))
theorem aAA:aO Tryz.prog 170=true:=by kernel_rfl
def IH (m:Nat) (p0:List dH):Option (List dH):=app [] p0
theorem aAB {w:Nat} {p0:List dH} {o:List dH} (h:aF) (m:IH w p0=some o):
 aL Tryz.prog 169 [.sl none 3 (List.map bT p0)] h (λr h'=>∃g:cR,bK g 3 o.length∧bV h [(g.t,.obj 70 (fl bT o g.sp))]∧r=aZ g∧h'=hp h [(g.t,.obj 70 (fl bT o g.sp))]):=by
 refine jJ 8 [.tmp 2] Tryz.func169 rfl rfl rfl rfl ?_
 unfold IH at m
 refine gQ λK1 H1=>eL (rD (iB (.sc (.slice _ _ _)) rfl) (fT (H1 _ _ (gQ λK1 H1=>gQ λK2 H2=>eL (vE rfl (lD (jW rfl (by rw[pG]; rfl) (by rw[bN]; exact rfl) (.inl ⟨_,_,_,rfl,λb hb=> ?_⟩))))))))
 refine fT (H2 _ _ (m9 rfl (λhc=> ?_) (λhc=> ?_)))
 have h0:p0= []:=by
   cases p0 with
   | nil=>rfl
   | cons x l=>have:=hb (by simp); rw[this] at hc; cases hc
 subst h0
 obtain⟨rfl, -⟩:=jD m
 exact gQ λK1 H1=>eL (rD (iB (.sc (.slice _ _ _)) rfl) (fT (H1 _ _ (iT (dX.one (.inl rfl) (h9.refl _) (fZ _) ⟨g0,bK.g0 _,bV.none (bV.nil _),rfl,rfl⟩)))))
 exact lZ (H1 _ _ (gQ λK1 H1=>eL (lD (pV (c:=bT) (bV.nil _) JK λu=>vE rfl (lD (f8 (c:=bT) 0 m JK rfl xF rfl vT rfl rfl (bK.g0 _) u rfl λg ok u=>rD (iB (aw _ _ _) rfl) (fT (H1 _ _ (iT (dX.one (.inl rfl) (h9.refl _) (bH.refl _ _) ⟨g,ok,u,rfl,rfl⟩))))))))))
theorem aAC:aO Tryz.prog 169=true:=by kernel_rfl
def sW (m:Nat) (y9:(List dH)) (q0:List dH) (q1:Int):Option (Lp ((List dH)×Int) (bB)):=
 if (decide (q1 < (y9.length:Int)))=true then ((ix q0 q1).bind λx0=>(QO m x0.Ids).bind λy0=>(ix q0 q1).bind λx1=>some (.go (q0.set q1.toNat ({ x1 with Ids:=y0}),IntKind.wrap .i64 (q1+1)))) else some (.brk (q0,q1))
def J2 (m:Nat) (p0:bB):Option (bB):=
 (IH m p0.Parts).bind λy9=>after (aT (λs=>sW m y9 s.1 s.2) m (y9,0)) λ⟨r0,r1⟩=>some ({ Name:=p0.Name,Parts:=r0}:bB)
theorem aAD {w:Nat} {p0:bB} {o:bB} (h:aF) (m:J2 w p0=some o):
 aL Tryz.prog 115 [.agg (aU p0)] h (λr h'=>r= .agg (aU o)∧h'=h):=by
 refine fN 28 [.cell 2 58] Tryz.func115 rfl rfl rfl rfl ?_
 unfold J2 at m
 refine vs (v0 (gG rfl rfl λk2 K3=>ve λu=>bD ([.sc (.string ByteArray.empty),sZ]) u LR rfl rfl λk5 K6=>qk K6 rfl (vs (v0 (dM qQ rfl rfl (vl 1 _ kR rfl rfl rfl ?_))))))
 obtain⟨y9,Y0,m⟩:=aC m
 refine ve λu=>cK (aAB _ Y0) rfl aAC rfl ?_
 rintro x h' ⟨ag0,O0,K0,rfl,rfl⟩
 refine qk (bV.co u K0) (iU _ _ _) (dM qQ rfl rfl (ve λu=>aK 2 ([.sc (.string p0.Name),aZ ag0]) u rfl rfl (cC rfl) (cE (bY _ _ _) rfl) S6 rfl rfl λK1=>qk K1 rfl (vs (vs (v0 (dM qQ rfl rfl (vl 2 (aZ ag0) kR rfl rfl rfl (bU (dR p9 O0 rfl) (nC m (σ:=(List dH)×Int) (τ:=cR) (λg s=> [(g.t,.obj 70 (fl bT (s.1:List dH) g.sp)),(some k5,.obj 58 ([.sc (.string ByteArray.empty),sZ])),(some k2,.obj 58 ([.sc (.string p0.Name),aZ g]))]) (λg s=>bK g 3 (s.1:List dH).length) (λg s=>.c 1 (.ptr k2 0) (.c 2 (.ptr k5 0) (.c 10 (nZ (y9.length:Int)) (.c 11 (nZ s.2) .nil)))) ag0 O0 (lx (.k4 .nil)) ?_ ?_)))))))))
 rintro ag1 ⟨q0,q1⟩ x O1 m
 replace m:sW w y9 q0 q1=some x:=m
 unfold sW at m
 refine vs (v0 (vs (v0 ?_)))
 apply vi m <;> intro c0 m
 refine v0 (vs (v0 (vs (v0 (v0 (vz [(1000000,some k2,.obj 58 ([.sc (.string p0.Name),aZ ag1])),(12,ag1.t,.obj 70 (fl bT (q0:List dH) ag1.sp))] mixed (λu=>⟨λ_=>aI 2 u rfl,λ_=>aI 0 u rfl,trivial⟩) λu=>zF 0 rfl qQ rfl (zL 1 0 (aZ ag1) rfl kR rfl rfl rfl (zI 2 rfl rfl (zF 3 rfl qQ rfl (zL 4 0 (aZ ag1) rfl kR rfl rfl rfl (zI 5 rfl rfl ?_)))))))))))
 obtain⟨x0,X0,m⟩:=aC m
 refine zC 6 rfl (cL X0 pG O1 rfl rfl) (zC 7 rfl (cS (bK.ne O1 X0) LT rfl rfl) (vL 8 rfl (λ_ _ hi hB=>dY (fo:=2) (.sl none 32 (List.map bJ x0.Ids)) X0 vT O1 pH rfl (fW.get 1 hi rfl (hB 12 (by kernel_rfl))) (λ_=>rfl)) ?_))
 obtain⟨y0,Y1,m⟩:=aC m
 refine zE 9 rfl (cK (aFU _ Y1) rfl aAA rfl ?_)
 rintro x h' ⟨tg0,t0,K2,rfl,rfl⟩
 rw[iU]
 refine⟨⟨λ_=>aI 3 (bV.co u K2) rfl,λ_=>aI 1 (bV.co u K2) rfl,trivial⟩, ?_⟩
 obtain⟨x1,X1,m⟩:=aC m
 refine zC 10 rfl (cL X1 pG O1 rfl rfl) (zC 11 rfl (cS (bK.ne O1 X1) LT rfl rfl) (zE 12 rfl (w9 (s:=23) (.sl none 32 (List.map bJ y0)) (aS (.cons _ (.refl _)) (bV.co u K2)).1 (Fz.ale (aS (.cons _ (.refl _)) (bV.co u K2)).1 (mP _ 0 t0 (bV.co u K2) rfl (.refl _))) (cI (fo:=2) ({ x1 with Ids:=y0}:dH) 0 ((aS (.cons _ (.refl _)) (bV.co u K2)).2) X1 vT O1 rfl rfl rfl rfl (cU.refl _ _) TH rfl rfl λK4=>⟨⟨λ_=>aI 2 K4 rfl,λe=>absurd e (by decide),trivial⟩, ?_⟩))))
 exact zX (qk (f:=JD 25 _ _ _ _ _ _ _ _ _ _ _ _ _) K4 rfl (v0 (eY m ag1 (bK.set O1) (lx (.k4 .nil)))))
 exact v0 (lA m ag1 O1 (lx (.k4 .nil)))
 rintro ag2 ⟨r0,r1⟩ t1 m
 refine vs (v0 (vl 2 (.agg ([.sc (.string p0.Name),aZ ag2])) lI rfl rfl rfl (ve λu=>aK 1 ([.sc (.string p0.Name),aZ ag2]) u rfl rfl rfl (by repeat (first | exact rfl | refine cE (iH _ _ _) ?_ | refine cE (bY _ _ _) ?_ | refine cE (f9 _ _ _ _) ?_ | refine cE rfl ?_)) zA rfl rfl λK5=>qk K5 rfl ?_)))
 refine v0 ?_
 cases m
 refine vrl λu=> ?_
 obtain⟨K7,le0⟩:=i7.fzO (n:=28) (f:=_) 0 0 ([.sc (.string p0.Name),.sl none 3 (List.map bT r0)]) u rfl (.cons (Fz.refl _ _ _) (.cons (Fz.aw 0 vT t1 u rfl (.refl _)) .nil))
 exact OO.mk le0 (dX.of1 (.inl rfl) (qD (.agg (aU ({ Name:=p0.Name,Parts:=r0}:bB))) lI rfl (a9 0 K7 rfl) rfl) (aS (List.nil_sublist _) K7).1 (bH.refl _ _) ⟨rfl,rfl⟩)
theorem RZ:aO Tryz.prog 115=true:=by kernel_rfl
def NB (m:Nat) (p0:aA):Option (Bool):=
 after (if (!p0.Staged)=true then (some (.brk true)) else some (.brk (decide (0 < (p0.Locs.length:Int)))):Option (Lp (Bool) (Bool))) λj7=>some j7
theorem aFV {u:Nat} {p0:aA} {o:Bool} (h:aF) (m:NB u p0=some o):
 aL Tryz.prog 168 [.agg (aH p0)] h (λr h'=>r= .sc (.bool o)∧h'=h):=by
 refine fN 12 [.tmp 2] Tryz.func168 rfl rfl rfl rfl ?_
 unfold NB at m
 refine v (gG rfl rfl λk2 K3=>vs (fB m (σ:=Bool) (λs=> [(some k2,.obj 44 (aH p0))]) (λs=>.c 2 (.sc (.bool s)) .nil) (λx m=> ?_) ?_))
 refine v (vl 0 _ BW rfl rfl rfl ?_)
 apply vi m <;> intro b8 m
 rw[b8]
 exact iN m
 rw[b8]
 exact vl 0 _ e8 rfl rfl rfl (cZ iC rfl (iN m))
 rintro _ j7 m
 refine v ?_
 obtain rfl:=eB m
 exact dQ rfl
theorem aAE:aO Tryz.prog 168=true:=by kernel_rfl
def NC (m:Nat) (p0:List aA) (p1:aA→Option Bool):Option (Bool):=
 (VS m p0 p1).bind λy3=>some (decide (0≤y3))
theorem aAF {w:Nat} {p0:List aA} {p1:aA→Option Bool} {o:Bool} (h:aF) {p1F:Nat} {p1C:List AV} (p1B:aO Tryz.prog p1F=true) (p1H:∀x0 o h0,h9 h h0→p1 x0=some o→aL Tryz.prog p1F ([.agg (aH x0)]++p1C) h0 (λr h'=>r= .sc (.bool o)∧h'=h0)) (m:NC w p0 p1=some o):
 aL Tryz.prog 159 [.sl none 35 (List.map aH p0),.fn (.func p1F) p1C] h (λr h'=>r= .sc (.bool o)∧h'=h):=by
 refine fN 9 [.tmp 4] Tryz.func159 rfl rfl rfl rfl ?_
 unfold NC at m
 refine v (v ?_)
 obtain⟨_,Y4,m⟩:=aC m
 refine vn (λu=>bZ (W53 _ p1B (λx0 o h0 hs ho=>p1H x0 o h0 ((aS (List.nil_sublist _) u).1.trans hs) ho) Y4) rfl TR rfl) (v ?_)
 cases m
 exact dQ rfl
theorem R0:aO Tryz.prog 159=true:=by kernel_rfl
def J3 (m:Nat) (p0:List aA):Option (Bool):=
 (NC m p0 (λx0=>NB m x0)).bind λy3=>some (!y3)
theorem aAG {u:Nat} {p0:List aA} {o:Bool} (h:aF) (m:J3 u p0=some o):
 aL Tryz.prog 114 [.sl none 35 (List.map aH p0)] h (λr h'=>r= .sc (.bool o)∧h'=h):=by
 refine fN 6 [.tmp 2] Tryz.func114 rfl rfl rfl rfl ?_
 unfold J3 at m
 refine v (v ?_)
 obtain⟨_,Y4,m⟩:=aC m
 refine bU (bZ (aAF _ aAE (λ_ o h0 hs ho=>aFV _ ho) Y4) rfl R0 rfl) (v ?_)
 cases m
 exact dQ rfl
theorem R4:aO Tryz.prog 114=true:=by kernel_rfl
def qX (m:Nat) (p1:aP) (q0:List aA) (q1:Int):Option (Lp ((List aA)×Int) (Int×Int×(List aG)×(List aA))):=
 if (decide (q1 < (p1.Chunks.length:Int)))=true then ((ix p1.Chunks q1).bind λx0=>(vP m q0 x0.Id).bind λy0=>after (if (!y0.2)=true then ((o4 q0 y0.1 (({ Id:=x0.Id,Staged:=false,Data:= [],Locs:= []}:aA):aA)).bind λy1=>some (.brk y1)) else some (.brk q0):Option (Lp ((List aA)) (Lp ((List aA)×Int) (Int×Int×(List aG)×(List aA))))) λj0=>(RJ m x0.Data).bind λy2=>(ix j0 y0.1).bind λx1=>(ix (j0.set y0.1.toNat ({ x1 with Staged:=true})) y0.1).bind λx2=>some (.go ((j0.set y0.1.toNat ({ x1 with Staged:=true})).set y0.1.toNat ({ x2 with Data:=y2}),IntKind.wrap .i64 (q1+1)))) else some (.brk (q0,q1))
def VZ (m:Nat) (p0:aB) (p1:aP):Option (Int×Int×(List aG)×(List aA)):=
 after (if (p1.Snap.Seq !=p0.Seq)=true then (some (.brk true)) else if (decide (0 < (p1.Snap.Locs.length:Int)))=true then (some (.brk true)) else (J3 m p1.Chunks).bind λy0=>some (.brk (!y0)):Option (Lp (Bool) (Int×Int×(List aG)×(List aA)))) λj0=>if j0=true then (some (1,p0.Seq,p0.Snaps,p0.Chunks)) else (VQ m ({ Seq:=p0.Seq,Snaps:=p0.Snaps,Chunks:=p0.Chunks,Exps:=p0.Exps,Vols:=p0.Vols}:aB) p1.Snap.Man.Name).bind λy1=>if (decide (0≤y1))=true then (some (9,p0.Seq,p0.Snaps,p0.Chunks)) else (J2 m p1.Snap.Man).bind λy2=>(app p0.Snaps ([({ Seq:=p1.Snap.Seq,Man:=y2,Locs:= []}:aG)]:List aG)).bind λz0=>after (aT (λs=>qX m p1 s.1 s.2) m (p0.Chunks,0)) λ⟨r0,r1⟩=>some (0,IntKind.wrap .i64 (p0.Seq+1),z0,r0)
theorem W72 {w:Nat} {p0:aB} {p1:aP} {o:Int×Int×(List aG)×(List aA)} (h:aF) {p0K:cB} {gS:cR} (ok_Snaps:bK gS 4 p0.Snaps.length) {gC:cR} (oC:bK gC 35 p0.Chunks.length) {gE:cR} (oE:bK gE 3 p0.Exps.length) {gV:cR} (oV:bK gV 4 p0.Vols.length) (K0:bV h [OC p0K p0.Seq gS gC gE gV,bF gS p0.Snaps,aV gC p0.Chunks,bW gE p0.Exps,aN gV p0.Vols]) (m:VZ w p0 p1=some o):
 aL Tryz.prog 72 [.ptr p0K 0,.agg (aD p1)] (hp h [OC p0K p0.Seq gS gC gE gV,bF gS p0.Snaps,aV gC p0.Chunks,bW gE p0.Exps,aN gV p0.Vols]) (λr h'=>∃g_Snaps':cR,bK g_Snaps' 4 (o.2.2.1:List aG).length∧∃g_Chunks':cR,bK g_Chunks' 35 (o.2.2.2:List aA).length∧bV h [OC p0K o.2.1 g_Snaps' g_Chunks' gE gV,bF g_Snaps' o.2.2.1,aV g_Chunks' o.2.2.2,bW gE p0.Exps,aN gV p0.Vols]∧r=nZ o.1∧h'=hp h [OC p0K o.2.1 g_Snaps' g_Chunks' gE gV,bF g_Snaps' o.2.2.1,aV g_Chunks' o.2.2.2,bW gE p0.Exps,aN gV p0.Vols]):=by
 refine tH K0 115 [.tmp 4] Tryz.func72 rfl rfl rfl rfl ?_
 unfold VZ at m
 refine vs (v0 (gG rfl rfl λk2 K3=>vs (v0 (vs (fB m (σ:=Bool) (λs=> [(some k2,.obj 62 (aD p1)),OC p0K p0.Seq gS gC gE gV,bF gS p0.Snaps,aV gC p0.Chunks,bW gE p0.Exps,aN gV p0.Vols]) (λs=>.c 0 (.ptr p0K 0) (.c 3 (.ptr k2 0) (.c 9 (.sc (.bool s)) .nil))) (λx m=> ?_) ?_)))))
 refine v0 (vU (by kernel_rfl) (dM kT rfl rfl (dM uA rfl rfl (vl 0 _ bX rfl rfl rfl (jL rfl (dM nD rfl rfl (vl 1 _ bX rfl rfl rfl ?_)))))))
 apply vi m <;> intro b0 m
 rw[b0]
 exact gH m
 rw[b0]
 refine dM kT rfl rfl (dM jP rfl rfl (vl 0 _ e8 rfl rfl rfl (cZ iC rfl ?_)))
 apply vi m <;> intro b1 m
 rw[b1]
 exact gH m
 rw[b1]
 exact dM mS rfl rfl (vl 0 _ eD rfl rfl rfl (vk aAG R4 m rfl rfl λ_ m=>gH m))
 rintro _ j0 m
 refine v0 ?_
 apply vi m <;> intro c0 m
 refine vs (v0 (v0 ?_))
 cases m
 exact vr λu=>dX.of1 (.inl rfl) (fU _ _ (.sc (.int _ _)) rfl) (bG u [1,2,3,4,5] rfl).2 (bH.refl _ _) ⟨gS,ok_Snaps,gC,oC,(bG u [1,2,3,4,5] rfl).1,rfl,rfl⟩
 refine vs (v0 (vU (by kernel_rfl) (jL rfl (vl 1 (.agg ([nZ p0.Seq,aZ gS,aZ gC,aZ gE,aZ gV])) eV rfl rfl rfl (dM kT rfl rfl (dM n6 rfl rfl (dM LQ rfl rfl (vl 0 _ tI rfl rfl rfl ?_))))))))
 obtain⟨_,Y0,m⟩:=aC m
 refine vn (λu=>bZ (fH (.cons (Br.agg (.cons (Br.refl _ _) (.cons (Br.aw 2 eM ok_Snaps u rfl) (.cons (Br.aw 3 cO oC u rfl) (.cons (Br.aw 4 fM oE u rfl) (.cons (Br.aw 5 eC oV u rfl) .nil)))))) (.cons (Br.refl _ _) .nil)) rfl (W46 _ Y0)) rfl YE rfl) (v0 ?_)
 apply vi m <;> intro c1 m
 refine vs (v0 (v0 ?_))
 cases m
 exact vr λu=>dX.of1 (.inl rfl) (fU _ _ (.sc (.int _ _)) rfl) (bG u [1,2,3,4,5] rfl).2 (bH.refl _ _) ⟨gS,ok_Snaps,gC,oC,(bG u [1,2,3,4,5] rfl).1,rfl,rfl⟩
 refine v0 (vs (v0 (jL rfl (dM nD rfl rfl (vl 1 _ bX rfl rfl rfl (jL rfl (dM nD rfl rfl (ve λu=>aK 1 ([nZ (IntKind.wrap .i64 (p0.Seq+1)),aZ gS,aZ gC,aZ gE,aZ gV]) u rfl rfl rfl rfl yT rfl rfl λK1=>qk K1 rfl (vs (v0 (vz [(17,some p0K,.obj 30 ([nZ (IntKind.wrap .i64 (p0.Seq+1)),aZ gS,aZ gC,aZ gE,aZ gV])),(1000000,some k2,.obj 62 (aD p1))] mixed (λu=>⟨λ_=>aI 1 u rfl,λ_=>aI 0 u rfl,trivial⟩) λu=>zP 0 rfl rfl (zP 1 rfl rfl (zN 2 rfl rfl (zF 3 rfl dW rfl (zL 4 0 (aZ gS) rfl eK rfl rfl rfl (zF 5 rfl kT rfl (zF 6 rfl uA rfl (zL 7 1 (nZ p1.Snap.Seq) rfl bX rfl rfl rfl (zF 8 rfl kT rfl (zF 9 rfl n6 rfl (zL 10 1 (.agg (aU p1.Snap.Man)) rfl lI rfl rfl rfl ?_)))))))))))))))))))))
 obtain⟨y0,Y1,m⟩:=aC m
 refine zC 11 rfl (bZ (aAD _ Y1) rfl RZ rfl) (zC 12 rfl (fC (y:=.agg (bP ({ Seq:=p1.Snap.Seq,Man:=y0,Locs:= []}:aG))) (fG (([nZ p1.Snap.Seq]:List AV)++aU y0++([sZ]:List AV)) S7 rfl) (bH.agg (.cons (bH.refl _ _) (cU.app 2 rfl (.cons (aX _) .nil))))) (zC 13 rfl (eO (List.map bP ([({ Seq:=p1.Snap.Seq,Man:=y0,Locs:= []}:aG)]:List aG)) vO rfl rfl rfl rfl) ?_))
 obtain⟨z0,Z0,m⟩:=aC m
 refine zE 14 rfl (f8 (c:=bP) 2 Z0 vO rfl uB rfl eM rfl rfl ok_Snaps u rfl λag0 O0 K2=>⟨⟨λ_=>aI 1 K2 rfl,λ_=>aI 0 K2 rfl,trivial⟩, ?_⟩)
 refine zN 15 rfl rfl (zF 16 rfl dW rfl (zE 17 rfl (aK 1 ([nZ (IntKind.wrap .i64 (p0.Seq+1)),aZ ag0,aZ gC,aZ gE,aZ gV]) K2 rfl rfl (cC rfl) (cE (bY _ _ _) rfl) F8 rfl rfl λK4=>⟨⟨λe=>absurd e (by decide),λ_=>aI 0 K4 rfl,trivial⟩, ?_⟩)))
 refine zX (qk (f:=vM 64 _ _ _ _ _ _ _ _ _ _ _ _ _ _ _ _ _ _) K4 rfl (vs (vs (v0 (dM mS rfl rfl (vl 0 _ eD rfl rfl rfl (cZ hM rfl (nC m (σ:=(List aA)×Int) (τ:=cR) (λg s=> [(some k2,.obj 62 (aD p1)),OC p0K (IntKind.wrap .i64 (p0.Seq+1)) ag0 g gE gV,bF ag0 z0,aV g s.1,bW gE p0.Exps,aN gV p0.Vols]) (λg s=>bK g 35 (s.1:List aA).length) (λg s=>.c 0 (.ptr p0K 0) (.c 66 (.sl none 35 (List.map aH p1.Chunks)) (.c 67 (nZ (p1.Chunks.length:Int)) (.c 68 (nZ s.2) .nil)))) gC oC (lx (.k4 .nil)) ?_ ?_))))))))
 rintro ag1 ⟨q0,q1⟩ x O1 m
 replace m:qX w p1 q0 q1=some x:=m
 unfold qX at m
 refine vs (v0 (vs (v0 ?_)))
 apply vi m <;> intro c2 m
 refine v0 (vs (v0 (vs (v0 (vx m eU rfl rfl λx0 _ m=>va (.agg (aH x0)) lS rfl rfl (ve λu=>bD (bJ jX++(KK:List AV)) u nE rfl rfl λk228 K5=>qk K5 rfl (ve λu=>aK 0 (aH x0) u rfl rfl rfl rfl xD rfl rfl λK6=>qk K6 rfl (vs (v0 (vU (by kernel_rfl) (jL rfl (dM dZ rfl rfl (vl 2 (aZ ag1) eD rfl rfl rfl (dM n4 rfl rfl (vl 0 (.agg (bJ x0.Id)) fK rfl rfl rfl ?_)))))))))))))))
 obtain⟨y1,Y2,m⟩:=aC m
 refine vn (λu=>bZ (fH (.cons (Br.aw 4 cO O1 u rfl) (.cons (Br.refl _ _) .nil)) rfl (P4 _ Y2)) rfl H6 rfl) (vs (vs (v0 (o6 m (σ:=(List aA)) (τ:=cR) (λg s=> [(some k228,.obj 44 (aH x0)),(some k2,.obj 62 (aD p1)),OC p0K (IntKind.wrap .i64 (p0.Seq+1)) ag0 g gE gV,bF ag0 z0,aV g s,bW gE p0.Exps,aN gV p0.Vols]) (λg s=>bK g 35 (s:List aA).length) (λg s=>.c 0 (.ptr p0K 0) (.c 6 (.ptr k228 0) (.c 7 (nZ y1.1) (.c 66 (.sl none 35 (List.map aH p1.Chunks)) (.c 67 (nZ (p1.Chunks.length:Int)) (.c 68 (nZ q1) .nil)))))) (λx m=> ?_) ?_))))
 refine v0 ?_
 apply vi m <;> intro c3 m
 refine v0 (vz [(13,some p0K,.obj 30 ([nZ (IntKind.wrap .i64 (p0.Seq+1)),aZ ag0,aZ ag1,aZ gE,aZ gV])),(1000000,some k228,.obj 44 (aH x0))] mixed (λu=>⟨λ_=>aI 2 u rfl,λ_=>aI 0 u rfl,trivial⟩) λu=>zP 0 rfl rfl (zP 1 rfl rfl (zN 2 rfl rfl (zF 3 rfl dZ rfl (zL 4 0 (aZ ag1) rfl eD rfl rfl rfl (zI 5 rfl rfl (zF 6 rfl n4 rfl (zL 7 1 (.agg (bJ x0.Id)) rfl fK rfl rfl rfl (zC 8 rfl (fC (y:=.agg (aH ({ Id:=x0.Id,Staged:=false,Data:= [],Locs:= []}:aA))) (fG (bJ x0.Id++(KK:List AV)) W1 rfl) (bH.agg (cU.app 32 rfl (.cons (bH.refl _ _) (.cons (aX _) (.cons (aX _) .nil)))))) (zC 9 rfl (eO (List.map aH ([({ Id:=x0.Id,Staged:=false,Data:= [],Locs:= []}:aA)]:List aA)) lF rfl rfl rfl rfl) ?_))))))))))
 obtain⟨y2,Y3,m⟩:=aC m
 refine zE 10 rfl ?_
 have ho0:=lV (A:= [aV ag1 q0]) (R:= [(some k228,.obj 44 (aH x0)),(some k2,.obj 62 (aD p1)),OC p0K (IntKind.wrap .i64 (p0.Seq+1)) ag0 ag1 gE gV,bF ag0 z0,bW gE p0.Exps,aN gV p0.Vols]) u [[_], [_], [_], [_], [_], [_], [_]] rfl [4] [0,1,2,3,5,6] rfl rfl rfl
 refine dA ho0.1 (cK (aFJ cO _ O1 ho0.2.2 Y3) rfl ZM rfl ?_)
 rintro x h' ⟨ag2,O2,K7,rfl,rfl⟩
 have K8:=lW (L':= [(some k228,.obj 44 (aH x0)),(some k2,.obj 62 (aD p1)),(hO p0K (IntKind.wrap .i64 (p0.Seq+1)) ag0 ag1 gE gV),bF ag0 z0,aV ag2 y2,bW gE p0.Exps,aN gV p0.Vols]) ho0.2.1 K7 [[_]] [[_], [_], [_], [_], [_], [_]] rfl rfl [1,2,3,4,0,5,6] rfl rfl
 refine kJ K8.1 (⟨⟨λ_=>aI 2 K8.2 rfl,λ_=>aI 0 K8.2 rfl,trivial⟩, ?_⟩)
 refine zN 11 rfl rfl (zF 12 rfl dZ rfl (zE 13 rfl (aK 2 ([nZ (IntKind.wrap .i64 (p0.Seq+1)),aZ ag0,aZ ag2,aZ gE,aZ gV]) K8.2 rfl rfl (cC rfl) (cE (bY _ _ _) rfl) yX rfl rfl λK9=>⟨⟨λe=>absurd e (by decide),λ_=>aI 0 K9 rfl,trivial⟩, ?_⟩)))
 exact zX (qk (f:=SY 96 _ _ _ _ _ _ _ _ _ _ _ _ _ _) K9 rfl (eY m ag2 O2 (lx (.k6 .nil))))
 exact v0 (eY m ag1 O1 (lx (.k6 .nil)))
 rintro ag3 j1 O3 m
 refine v0 (vz [(1000000,some p0K,.obj 30 ([nZ (IntKind.wrap .i64 (p0.Seq+1)),aZ ag0,aZ ag3,aZ gE,aZ gV])),(1000000,some k228,.obj 44 (aH x0))] mixed (λu=>⟨λ_=>aI 2 u rfl,λ_=>aI 0 u rfl,trivial⟩) λu=>zP 0 rfl rfl (zN 1 rfl rfl (zF 2 rfl dZ rfl (zL 3 0 (aZ ag3) rfl eD rfl rfl rfl (zI 4 rfl rfl (zP 5 rfl rfl (zN 6 rfl rfl (zF 7 rfl dZ rfl (zL 8 0 (aZ ag3) rfl eD rfl rfl rfl (zI 9 rfl rfl (zF 10 rfl jO rfl (zL 11 1 (.sl none 1 (List.map dD x0.Data)) rfl lH rfl rfl rfl ?_))))))))))))
 obtain⟨y3,Y4,m⟩:=aC m
 refine zE 12 rfl (cK (W96 _ Y4) rfl P3 rfl ?_)
 rintro x h' ⟨tg0,t0,K10,rfl,rfl⟩
 rw[iU]
 refine⟨⟨λ_=>aI 3 (bV.co u K10) rfl,λ_=>aI 1 (bV.co u K10) rfl,trivial⟩, ?_⟩
 obtain⟨x1,X0,m⟩:=aC m
 refine zC 13 rfl (cL X0 eU O3 rfl rfl) (zC 14 rfl (cS (bK.ne O3 X0) n5 rfl rfl) (zE 15 rfl (cI (fo:=32) ({ x1 with Staged:=true}:aA) 5 (bV.co u K10) X0 cO O3 rfl rfl rfl rfl (cU.refl _ _) VL rfl rfl λK11=>⟨⟨λ_=>aI 3 K11 rfl,λ_=>aI 1 K11 rfl,trivial⟩, ?_⟩)))
 obtain⟨x2,X1,m⟩:=aC m
 refine zC 16 rfl (cL X1 eU (bK.set O3) rfl rfl) (zC 17 rfl (cS (bK.ne (bK.set O3) X1) jO rfl rfl) (zE 18 rfl (w9 (s:=109) (.sl none 1 (List.map dD y3)) (aS (.cons _ (.refl _)) K11).1 (Fz.ale (aS (.cons _ (.refl _)) K11).1 (mP _ 0 t0 K11 rfl (.refl _))) (cI (fo:=33) ({ x2 with Data:=y3}:aA) 4 ((aS (.cons _ (.refl _)) K11).2) X1 cO (bK.set O3) rfl rfl rfl rfl (cU.refl _ _) BY rfl rfl λK12=>⟨⟨λ_=>aI 2 K12 rfl,λ_=>aI 0 K12 rfl,trivial⟩, ?_⟩))))
 exact zX (qk (f:=vM 113 _ _ _ _ _ _ _ _ _ _ _ _ _ _ _ _ _ _) K12 rfl (v0 (eY m ag3 (bK.set (bK.set O3)) (kP [1,2,3,4,5,6] rfl rfl (.k4 .nil)))))
 exact v0 (lA m ag1 O1 (lx (.k4 .nil)))
 rintro ag4 ⟨r0,r1⟩ t1 m
 refine vs (v0 (v0 ?_))
 cases m
 exact vr λu=>dX.of1 (.inl rfl) (fU _ _ (.sc (.int _ _)) rfl) (bG u [1,2,3,4,5] rfl).2 (bH.refl _ _) ⟨ag0,O0,ag4,t1,(bG u [1,2,3,4,5] rfl).1,rfl,rfl⟩
theorem aFW:aO Tryz.prog 72=true:=by kernel_rfl
open Go.Vm
def II (m:Nat) (p0:List aG):Option (List aG):=app [] p0
theorem aAH {w:Nat} {p0:List aG} {o:List aG} (h:aF) (m:II w p0=some o):
 aL Tryz.prog 132 [.sl none 4 (List.map bP p0)] h (λr h'=>∃g:cR,bK g 4 o.length∧bV h [(g.t,.obj 60 (fl bP o g.sp))]∧r=aZ g∧h'=hp h [(g.t,.obj 60 (fl bP o g.sp))]):=by
 refine jJ 8 [.tmp 2] Tryz.func132 rfl rfl rfl rfl ?_
 unfold II at m
 refine gQ λK1 H1=>eL (rD (iB (.sc (.slice _ _ _)) rfl) (fT (H1 _ _ (gQ λK1 H1=>gQ λK2 H2=>eL (vE rfl (lD (jW rfl (by rw[gJ]; rfl) (by rw[bN]; exact rfl) (.inl ⟨_,_,_,rfl,λb hb=> ?_⟩))))))))
 refine fT (H2 _ _ (m9 rfl (λhc=> ?_) (λhc=> ?_)))
 have h0:p0= []:=by
   cases p0 with
   | nil=>rfl
   | cons x l=>have:=hb (by simp); rw[this] at hc; cases hc
 subst h0
 obtain⟨rfl, -⟩:=jD m
 exact gQ λK1 H1=>eL (rD (iB (.sc (.slice _ _ _)) rfl) (fT (H1 _ _ (iT (dX.one (.inl rfl) (h9.refl _) (fZ _) ⟨g0,bK.g0 _,bV.none (bV.nil _),rfl,rfl⟩)))))
 exact lZ (H1 _ _ (gQ λK1 H1=>eL (lD (pV (c:=bP) (bV.nil _) vO λu=>vE rfl (lD (f8 (c:=bP) 0 m vO rfl uB rfl eM rfl rfl (bK.g0 _) u rfl λg ok u=>rD (iB (aw _ _ _) rfl) (fT (H1 _ _ (iT (dX.one (.inl rfl) (h9.refl _) (bH.refl _ _) ⟨g,ok,u,rfl,rfl⟩))))))))))
theorem aAI:aO Tryz.prog 132=true:=by kernel_rfl
def IJ (m:Nat) (p0:List aA):Option (List aA):=app [] p0
theorem aAJ {w:Nat} {p0:List aA} {o:List aA} (h:aF) (m:IJ w p0=some o):
 aL Tryz.prog 133 [.sl none 35 (List.map aH p0)] h (λr h'=>∃g:cR,bK g 35 o.length∧bV h [(g.t,.obj 44 (fl aH o g.sp))]∧r=aZ g∧h'=hp h [(g.t,.obj 44 (fl aH o g.sp))]):=by
 refine jJ 8 [.tmp 2] Tryz.func133 rfl rfl rfl rfl ?_
 unfold IJ at m
 refine gQ λK1 H1=>eL (rD (iB (.sc (.slice _ _ _)) rfl) (fT (H1 _ _ (gQ λK1 H1=>gQ λK2 H2=>eL (vE rfl (lD (jW rfl (by rw[eU]; rfl) (by rw[bN]; exact rfl) (.inl ⟨_,_,_,rfl,λb hb=> ?_⟩))))))))
 refine fT (H2 _ _ (m9 rfl (λhc=> ?_) (λhc=> ?_)))
 have h0:p0= []:=by
   cases p0 with
   | nil=>rfl
   | cons x l=>have:=hb (by simp); rw[this] at hc; cases hc
 subst h0
 obtain⟨rfl, -⟩:=jD m
 exact gQ λK1 H1=>eL (rD (iB (.sc (.slice _ _ _)) rfl) (fT (H1 _ _ (iT (dX.one (.inl rfl) (h9.refl _) (fZ _) ⟨g0,bK.g0 _,bV.none (bV.nil _),rfl,rfl⟩)))))
 exact lZ (H1 _ _ (gQ λK1 H1=>eL (lD (pV (c:=aH) (bV.nil _) lF λu=>vE rfl (lD (f8 (c:=aH) 0 m lF rfl nE rfl cO rfl rfl (bK.g0 _) u rfl λg ok u=>rD (iB (aw _ _ _) rfl) (fT (H1 _ _ (iT (dX.one (.inl rfl) (h9.refl _) (bH.refl _ _) ⟨g,ok,u,rfl,rfl⟩))))))))))
theorem aAK:aO Tryz.prog 133=true:=by kernel_rfl
def IK (m:Nat) (p0:List aQ):Option (List aQ):=app [] p0
theorem aAL {w:Nat} {p0:List aQ} {o:List aQ} (h:aF) (m:IK w p0=some o):
 aL Tryz.prog 134 [.sl none 3 (List.map cD p0)] h (λr h'=>∃g:cR,bK g 3 o.length∧bV h [(g.t,.obj 99 (fl cD o g.sp))]∧r=aZ g∧h'=hp h [(g.t,.obj 99 (fl cD o g.sp))]):=by
 refine jJ 8 [.tmp 2] Tryz.func134 rfl rfl rfl rfl ?_
 unfold IK at m
 refine gQ λK1 H1=>eL (rD (iB (.sc (.slice _ _ _)) rfl) (fT (H1 _ _ (gQ λK1 H1=>gQ λK2 H2=>eL (vE rfl (lD (jW rfl (by rw[hU]; rfl) (by rw[bN]; exact rfl) (.inl ⟨_,_,_,rfl,λb hb=> ?_⟩))))))))
 refine fT (H2 _ _ (m9 rfl (λhc=> ?_) (λhc=> ?_)))
 have h0:p0= []:=by
   cases p0 with
   | nil=>rfl
   | cons x l=>have:=hb (by simp); rw[this] at hc; cases hc
 subst h0
 obtain⟨rfl, -⟩:=jD m
 exact gQ λK1 H1=>eL (rD (iB (.sc (.slice _ _ _)) rfl) (fT (H1 _ _ (iT (dX.one (.inl rfl) (h9.refl _) (fZ _) ⟨g0,bK.g0 _,bV.none (bV.nil _),rfl,rfl⟩)))))
 exact lZ (H1 _ _ (gQ λK1 H1=>eL (lD (pV (c:=cD) (bV.nil _) o0 λu=>vE rfl (lD (f8 (c:=cD) 0 m o0 rfl n9 rfl fM rfl rfl (bK.g0 _) u rfl λg ok u=>rD (iB (aw _ _ _) rfl) (fT (H1 _ _ (iT (dX.one (.inl rfl) (h9.refl _) (bH.refl _ _) ⟨g,ok,u,rfl,rfl⟩))))))))))
theorem aAM:aO Tryz.prog 134=true:=by kernel_rfl
def IL (m:Nat) (p0:List aR):Option (List aR):=app [] p0
theorem aAN {w:Nat} {p0:List aR} {o:List aR} (h:aF) (m:IL w p0=some o):
 aL Tryz.prog 135 [.sl none 4 (List.map cG p0)] h (λr h'=>∃g:cR,bK g 4 o.length∧bV h [(g.t,.obj 49 (fl cG o g.sp))]∧r=aZ g∧h'=hp h [(g.t,.obj 49 (fl cG o g.sp))]):=by
 refine jJ 8 [.tmp 2] Tryz.func135 rfl rfl rfl rfl ?_
 unfold IL at m
 refine gQ λK1 H1=>eL (rD (iB (.sc (.slice _ _ _)) rfl) (fT (H1 _ _ (gQ λK1 H1=>gQ λK2 H2=>eL (vE rfl (lD (jW rfl (by rw[lG]; rfl) (by rw[bN]; exact rfl) (.inl ⟨_,_,_,rfl,λb hb=> ?_⟩))))))))
 refine fT (H2 _ _ (m9 rfl (λhc=> ?_) (λhc=> ?_)))
 have h0:p0= []:=by
   cases p0 with
   | nil=>rfl
   | cons x l=>have:=hb (by simp); rw[this] at hc; cases hc
 subst h0
 obtain⟨rfl, -⟩:=jD m
 exact gQ λK1 H1=>eL (rD (iB (.sc (.slice _ _ _)) rfl) (fT (H1 _ _ (iT (dX.one (.inl rfl) (h9.refl _) (fZ _) ⟨g0,bK.g0 _,bV.none (bV.nil _),rfl,rfl⟩)))))
 exact lZ (H1 _ _ (gQ λK1 H1=>eL (lD (pV (c:=cG) (bV.nil _) F9 λu=>vE rfl (lD (f8 (c:=cG) 0 m F9 rfl D5 rfl eC rfl rfl (bK.g0 _) u rfl λg ok u=>rD (iB (aw _ _ _) rfl) (fT (H1 _ _ (iT (dX.one (.inl rfl) (h9.refl _) (bH.refl _ _) ⟨g,ok,u,rfl,rfl⟩))))))))))
theorem aAO:aO Tryz.prog 135=true:=by kernel_rfl
def sX (m:Nat) (y0:(List aG)) (q0:List aG) (q1:Int):Option (Lp ((List aG)×Int) (aB)):=
 if (decide (q1 < (y0.length:Int)))=true then ((ix q0 q1).bind λx0=>(J2 m x0.Man).bind λy1=>(EJ m x0.Locs).bind λy2=>some (.go ((q0.set q1.toNat ({ x0 with Man:=y1})).set q1.toNat ({ ({ x0 with Man:=y1}:aG) with Locs:=y2}),IntKind.wrap .i64 (q1+1)))) else some (.brk (q0,q1))
def sY (m:Nat) (y0:(List aA)) (q0:List aA) (q1:Int):Option (Lp ((List aA)×Int) (aB)):=
 if (decide (q1 < (y0.length:Int)))=true then ((ix q0 q1).bind λx0=>(RJ m x0.Data).bind λy1=>(EJ m x0.Locs).bind λy2=>some (.go ((q0.set q1.toNat ({ x0 with Data:=y1})).set q1.toNat ({ ({ x0 with Data:=y1}:aA) with Locs:=y2}),IntKind.wrap .i64 (q1+1)))) else some (.brk (q0,q1))
def s9 (m:Nat) (y0:(List aQ)) (q0:List aQ) (q1:Int):Option (Lp ((List aQ)×Int) (aB)):=
 if (decide (q1 < (y0.length:Int)))=true then ((ix q0 q1).bind λx0=>(EJ m x0.Locs).bind λy1=>(ix q0 q1).bind λx1=>some (.go (q0.set q1.toNat ({ x1 with Locs:=y1}),IntKind.wrap .i64 (q1+1)))) else some (.brk (q0,q1))
def ND (m:Nat) (p0:aB):Option (aB):=
 (II m p0.Snaps).bind λy0=>(IJ m p0.Chunks).bind λy1=>(IK m p0.Exps).bind λy2=>(IL m p0.Vols).bind λy3=>after (aT (λs=>sX m y0 s.1 s.2) m (y0,0)) λ⟨r0,r1⟩=>after (aT (λs=>sY m y1 s.1 s.2) m (y1,0)) λ⟨r2,r3⟩=>after (aT (λs=>s9 m y2 s.1 s.2) m (y2,0)) λ⟨r4,r5⟩=>some ({ Seq:=p0.Seq,Snaps:=r0,Chunks:=r2,Exps:=r4,Vols:=y3}:aB)
theorem aFX {w:Nat} {p0:aB} {o:aB} (h:aF) (m:ND w p0=some o):
 aL Tryz.prog 77 [.agg (aE p0)] h (λr h'=>∃gS:dF,lX aG.Locs 4 4 gS (o.Snaps:List aG)∧∃gC:dF,lX aA.Locs 35 4 gC (o.Chunks:List aA)∧∃gE:dF,lX aQ.Locs 3 4 gE (o.Exps:List aQ)∧∃gV:cR,bK gV 4 o.Vols.length∧bV h ([bM gS o.Snaps,aW gC o.Chunks,bR gE o.Exps,aN gV o.Vols]++((bQ gS o.Snaps)++((a8 gC o.Chunks)++(bS gE o.Exps))))∧r= .agg ([nZ o.Seq,aZ gS.a,aZ gC.a,aZ gE.a,aZ gV])∧h'=hp h ([bM gS o.Snaps,aW gC o.Chunks,bR gE o.Exps,aN gV o.Vols]++((bQ gS o.Snaps)++((a8 gC o.Chunks)++(bS gE o.Exps))))):=by
 refine fN 98 [.cell 2 30] Tryz.func77 rfl rfl rfl rfl ?_
 unfold ND at m
 refine vs (v0 (gG rfl rfl λk2 K3=>ve λu=>bD (gR) u pE rfl rfl λk5 K6=>qk K6 rfl (vs (v0 (vz [(13,some k2,.obj 30 (aE p0))] mixed (λu=>⟨λ_=>aI 1 u rfl,trivial⟩) λu=>zF 0 rfl dW rfl (zL 1 0 (.sl none 4 (List.map bP p0.Snaps)) rfl eK rfl rfl rfl (zF 3 rfl dZ rfl (zL 4 0 (.sl none 35 (List.map aH p0.Chunks)) rfl eD rfl rfl rfl (zF 6 rfl eT rfl (zL 7 0 (.sl none 3 (List.map cD p0.Exps)) rfl hX rfl rfl rfl (zF 9 rfl fS rfl (zL 10 0 (.sl none 4 (List.map cG p0.Vols)) rfl iK rfl rfl rfl ?_))))))))))))
 obtain⟨y0,Y0,m⟩:=aC m
 refine zE 2 rfl (cK (aAH _ Y0) rfl aAI rfl ?_)
 rintro x h' ⟨ag0,O0,K0,rfl,rfl⟩
 rw[iU]
 refine⟨⟨λ_=>aI 2 (bV.co u K0) rfl,trivial⟩, ?_⟩
 refine zF 12 rfl dW rfl ?_
 obtain⟨y1,Y1,m⟩:=aC m
 refine zE 5 rfl (cK (aAJ _ Y1) rfl aAK rfl ?_)
 rintro x h' ⟨ag1,O1,K1,rfl,rfl⟩
 rw[iU]
 refine⟨⟨λ_=>aI 3 (bV.co (bV.co u K0) K1) rfl,trivial⟩, ?_⟩
 obtain⟨y2,Y2,m⟩:=aC m
 refine zE 8 rfl (cK (aAL _ Y2) rfl aAM rfl ?_)
 rintro x h' ⟨ag2,O2,K2,rfl,rfl⟩
 rw[iU]
 refine⟨⟨λ_=>aI 4 (bV.co (bV.co (bV.co u K0) K1) K2) rfl,trivial⟩, ?_⟩
 obtain⟨y3,Y3,m⟩:=aC m
 refine zE 11 rfl (cK (aAN _ Y3) rfl aAO rfl ?_)
 rintro x h' ⟨ag3,O3,K4,rfl,rfl⟩
 rw[iU]
 refine⟨⟨λ_=>aI 5 (bV.co (bV.co (bV.co (bV.co u K0) K1) K2) K4) rfl,trivial⟩, ?_⟩
 refine zE 13 rfl (aK 5 ([nZ p0.Seq,aZ ag0,.sl none 35 (List.map aH p0.Chunks),.sl none 3 (List.map cD p0.Exps),.sl none 4 (List.map cG p0.Vols)]) (bV.co (bV.co (bV.co (bV.co u K0) K1) K2) K4) rfl rfl (cC rfl) (cE (bY _ _ _) rfl) F8 rfl rfl λK5=>⟨⟨λe=>absurd e (by decide),trivial⟩, ?_⟩)
 refine zF 14 rfl dZ rfl (zE 15 rfl (aK 5 ([nZ p0.Seq,aZ ag0,aZ ag1,.sl none 3 (List.map cD p0.Exps),.sl none 4 (List.map cG p0.Vols)]) K5 rfl rfl (cC rfl) (cE (bY _ _ _) rfl) yX rfl rfl λK7=>⟨⟨λe=>absurd e (by decide),trivial⟩, ?_⟩))
 refine zF 16 rfl eT rfl (zE 17 rfl (aK 5 ([nZ p0.Seq,aZ ag0,aZ ag1,aZ ag2,.sl none 4 (List.map cG p0.Vols)]) K7 rfl rfl (cC rfl) (cE (bY _ _ _) rfl) JG rfl rfl λK8=>⟨⟨λe=>absurd e (by decide),trivial⟩, ?_⟩))
 refine zF 18 rfl fS rfl (zE 19 rfl (aK 5 ([nZ p0.Seq,aZ ag0,aZ ag1,aZ ag2,aZ ag3]) K8 rfl rfl (cC rfl) (cE (bY _ _ _) rfl) PW rfl rfl λK9=>⟨⟨λe=>absurd e (by decide),trivial⟩, ?_⟩))
 refine zX (qk (f:=.c 23 _ (.c 22 _ (.c 21 _ (.c 19 _ (.c 16 _ (.c 13 _ (.c 20 _ (.c 10 _ (.c 18 _ (.c 17 _ (.c 15 _ (.c 14 _ (.c 12 _ (.c 11 _ (.c 9 _ (.c 8 _ _)))))))))))))))) K9 rfl (vs (vs (pU (toN (L':=([aN ag3 y3,bR (⟨ag2,List.replicate (y2:List aQ).length none⟩:dF) y2,aV ag1 y1,bF ag0 y0,(some k5,.obj 30 (gR)),OC k2 p0.Seq ag0 ag1 ((⟨ag2,List.replicate (y2:List aQ).length none⟩:dF).a) ag3]++(bS (⟨ag2,List.replicate (y2:List aQ).length none⟩:dF) y2))) (λ_=>rfl) [[_], [_], [_], [_], [_], [_]] rfl 1 rfl rfl) (pU (toN (L':=([aN ag3 y3,bR (⟨ag2,List.replicate (y2:List aQ).length none⟩:dF) y2,aW (⟨ag1,List.replicate (y1:List aA).length none⟩:dF) y1,bF ag0 y0,(some k5,.obj 30 (gR)),OC k2 p0.Seq ag0 ((⟨ag1,List.replicate (y1:List aA).length none⟩:dF).a) ((⟨ag2,List.replicate (y2:List aQ).length none⟩:dF).a) ag3]++((bS (⟨ag2,List.replicate (y2:List aQ).length none⟩:dF) y2)++(a8 (⟨ag1,List.replicate (y1:List aA).length none⟩:dF) y1)))) (λ_=>rfl) [[_], [_], [_], [_], [_], [_],_] rfl 2 rfl rfl) (pU (toN (L':=([aN ag3 y3,bR (⟨ag2,List.replicate (y2:List aQ).length none⟩:dF) y2,aW (⟨ag1,List.replicate (y1:List aA).length none⟩:dF) y1,bM (⟨ag0,List.replicate (y0:List aG).length none⟩:dF) y0,(some k5,.obj 30 (gR)),OC k2 p0.Seq ((⟨ag0,List.replicate (y0:List aG).length none⟩:dF).a) ((⟨ag1,List.replicate (y1:List aA).length none⟩:dF).a) ((⟨ag2,List.replicate (y2:List aQ).length none⟩:dF).a) ag3]++((bS (⟨ag2,List.replicate (y2:List aQ).length none⟩:dF) y2)++((a8 (⟨ag1,List.replicate (y1:List aA).length none⟩:dF) y1)++(bQ (⟨ag0,List.replicate (y0:List aG).length none⟩:dF) y0))))) (λ_=>rfl) [[_], [_], [_], [_], [_], [_],_,_] rfl 3 rfl rfl) (v0 (dM dW rfl rfl (vl 5 (aw (⟨ag0,List.replicate (y0:List aG).length none⟩:dF).a.t (⟨ag0,List.replicate (y0:List aG).length none⟩:dF).a.n (⟨ag0,List.replicate (y0:List aG).length none⟩:dF).a.cap) eK rfl rfl rfl (bU (dR iJ ((CB.zero (l:=aG.Locs) (szi:=4) O0).k.a) rfl) ?_))))))))))
 refine UD m (σ:=(List aG)×Int) (τ:=dF) (λg s=>([aN ag3 y3,bR (⟨ag2,List.replicate (y2:List aQ).length none⟩:dF) y2,aW (⟨ag1,List.replicate (y1:List aA).length none⟩:dF) y1,bM g s.1,(some k5,.obj 30 (gR)),OC k2 p0.Seq g.a ((⟨ag1,List.replicate (y1:List aA).length none⟩:dF).a) ((⟨ag2,List.replicate (y2:List aQ).length none⟩:dF).a) ag3]++((bS (⟨ag2,List.replicate (y2:List aQ).length none⟩:dF) y2)++((a8 (⟨ag1,List.replicate (y1:List aA).length none⟩:dF) y1)++(bQ g s.1))))) (λg s=>CB aG.Locs 4 4 g (s.1:List aG) s.2.toNat (y0:List aG).length) (λg s=>lX aG.Locs 4 4 g (s.1:List aG)) (λg s=>.c 1 (.ptr k2 0) (.c 2 (.ptr k5 0) (.c 26 (nZ (y0.length:Int)) (.c 27 (nZ s.2) .nil)))) (⟨ag0,List.replicate (y0:List aG).length none⟩:dF) (CB.zero (l:=aG.Locs) (szi:=4) O0) (lx (.k4 .nil)) ?_ ?_
 rintro ng0 ⟨q0,q1⟩ x O4 m
 replace m:sX w y0 q0 q1=some x:=m
 unfold sX at m
 refine vs (v0 (vs (v0 ?_)))
 apply vi m <;> intro c0 m
 refine v0 (vs (v0 (vs (v0 (vs (v0 (dM dW rfl rfl (vl 5 (aZ ng0.a) eK rfl rfl rfl ?_))))))))
 obtain⟨x0,X0,m⟩:=aC m
 refine bU (cL (O4.k.ix X0) gJ O4.k.z rfl rfl) (pU (MT (L':=([aN ag3 y3,bR (⟨ag2,List.replicate (y2:List aQ).length none⟩:dF) y2,aW (⟨ag1,List.replicate (y1:List aA).length none⟩:dF) y1,bM ng0 q0,(some k5,.obj 30 (gR)),OC k2 p0.Seq ng0.a ((⟨ag1,List.replicate (y1:List aA).length none⟩:dF).a) ((⟨ag2,List.replicate (y2:List aQ).length none⟩:dF).a) ag3]++((bS (⟨ag2,List.replicate (y2:List aQ).length none⟩:dF) y2)++((a8 (⟨ag1,List.replicate (y1:List aA).length none⟩:dF) y1)++(kA 81 aM ((nl aG.Locs (zg (q0:List aG) ng0.gs)).eraseIdx q1.toNat)))))) [[_], [_], [_], [_], [_], [_],_,_,_] rfl 8 (q1.toNat) rfl rfl) (v0 (vz [(14,ng0.a.t,.obj 60 (fl kD (zg (q0:List aG) ng0.gs) ng0.a.sp))] mixed (λu=>⟨λ_=>aI 3 u rfl,trivial⟩) λu=>zC 0 rfl (eW (vK _ _) rfl) (zC 1 rfl (eW (vK _ _) rfl) (zC 2 rfl (eW (vK _ _) rfl) (zC 3 rfl (iV (bK.ne O4.k.z (O4.k.ix X0)) rfl) (zC 4 rfl (cS (bK.ne O4.k.z (O4.k.ix X0)) n6 rfl rfl) (vL 5 rfl (λ_ _ hi hB=>dY (fo:=1) (.agg (aU x0.Man)) (O4.k.ix X0) kF O4.k.z lI rfl (fW.get 0 hi rfl (hB 14 (by kernel_rfl))) (λ_=>rfl)) ?_))))))))
 obtain⟨y4,Y4,m⟩:=aC m
 refine zC 6 rfl (bZ (aAD _ Y4) rfl RZ rfl) (zC 7 rfl (eW (vK _ _) rfl) (zC 8 rfl (iV (bK.ne O4.k.z (O4.k.ix X0)) rfl) (zC 9 rfl (cS (bK.ne O4.k.z (O4.k.ix X0)) jP rfl rfl) (vL 10 rfl (λ_ _ hi hB=>fC (dY (fo:=3) (awO aM 4 (gx ng0.gs q1.toNat) x0.Locs) (O4.k.ix X0) kF O4.k.z e8 rfl (fW.get 0 hi rfl (hB 14 (by kernel_rfl))) (λ_=>rfl)) (bH.of_eq (congrArg (λz=>awO aM 4 z x0.Locs) (O4.post _ (Nat.le_refl _))))) ?_))))
 obtain⟨y5,Y5,m⟩:=aC m
 refine zE 11 rfl (cK (T7 _ Y5) rfl T8 rfl ?_)
 rintro x h' ⟨ag4,O5,K10,rfl,rfl⟩
 rw[iU]
 refine⟨⟨λ_=>aI 4 (bV.co u K10) rfl,trivial⟩, ?_⟩
 refine zC 12 rfl (iV (bK.ne O4.k.z (O4.k.ix X0)) rfl) (zC 13 rfl (cS (bK.ne O4.k.z (O4.k.ix X0)) n6 rfl rfl) (zE 14 rfl (cI (fo:=1) (x':=(({ x0 with Man:=y4}:aG),(gx ng0.gs q1.toNat))) 4 (bV.co u K10) (O4.k.ix X0) kF O4.k.z rfl rfl rfl rfl (cU.refl _ _) zA rfl rfl ?_)))
 intro K11
 have hs0:sO aG.Locs 4 4 ng0 (q0:List aG):=O4.k
 have hn0:hp h _=hp h ([fJ ag4 y5,aN ag3 y3,bR (⟨ag2,List.replicate (y2:List aQ).length none⟩:dF) y2,aW (⟨ag1,List.replicate (y1:List aA).length none⟩:dF) y1,bM ng0 (q0.set q1.toNat ({ x0 with Man:=y4})),(some k5,.obj 30 (gR)),OC k2 p0.Seq ng0.a ((⟨ag1,List.replicate (y1:List aA).length none⟩:dF).a) ((⟨ag2,List.replicate (y2:List aQ).length none⟩:dF).a) ag3]++((bS (⟨ag2,List.replicate (y2:List aQ).length none⟩:dF) y2)++((a8 (⟨ag1,List.replicate (y1:List aA).length none⟩:dF) y1)++(kA 81 aM ((nl aG.Locs (zg (q0.set q1.toNat ({ x0 with Man:=y4}):List aG) ng0.gs)).eraseIdx q1.toNat)))))∧bV h ([fJ ag4 y5,aN ag3 y3,bR (⟨ag2,List.replicate (y2:List aQ).length none⟩:dF) y2,aW (⟨ag1,List.replicate (y1:List aA).length none⟩:dF) y1,bM ng0 (q0.set q1.toNat ({ x0 with Man:=y4})),(some k5,.obj 30 (gR)),OC k2 p0.Seq ng0.a ((⟨ag1,List.replicate (y1:List aA).length none⟩:dF).a) ((⟨ag2,List.replicate (y2:List aQ).length none⟩:dF).a) ag3]++((bS (⟨ag2,List.replicate (y2:List aQ).length none⟩:dF) y2)++((a8 (⟨ag1,List.replicate (y1:List aA).length none⟩:dF) y1)++(kA 81 aM ((nl aG.Locs (zg (q0.set q1.toNat ({ x0 with Man:=y4}):List aG) ng0.gs)).eraseIdx q1.toNat))))):=eqN (L:=_) K11 (by unfold bM; (try unfold bQ); rw[(hs0.set (x':=({ x0 with Man:=y4}:aG)) X0 rfl).2.2,← (hs0.set (x':=({ x0 with Man:=y4}:aG)) X0 rfl).2.1]; first | done | rfl)
 refine kJ hn0.1 (⟨⟨λe=>absurd e (by decide),trivial⟩, ?_⟩)
 refine zC 15 rfl (iV (bK.ne ((O4.set (x':=({ x0 with Man:=y4}:aG)) X0 rfl).k.z) ((O4.set (x':=({ x0 with Man:=y4}:aG)) X0 rfl).k.ix (dE (x':=({ x0 with Man:=y4}:aG)) X0))) rfl) (zC 16 rfl (cS (bK.ne ((O4.set (x':=({ x0 with Man:=y4}:aG)) X0 rfl).k.z) ((O4.set (x':=({ x0 with Man:=y4}:aG)) X0 rfl).k.ix (dE (x':=({ x0 with Man:=y4}:aG)) X0))) jP rfl rfl) (zE 17 rfl (cI (fo:=3) (x':=(({ ({ x0 with Man:=y4}:aG) with Locs:=y5}:aG),some ag4)) 4 hn0.2 ((O4.set (x':=({ x0 with Man:=y4}:aG)) X0 rfl).k.ix (dE (x':=({ x0 with Man:=y4}:aG)) X0)) kF ((O4.set (x':=({ x0 with Man:=y4}:aG)) X0 rfl).k.z) rfl rfl (cC rfl) (cE (bY _ _ _) rfl) (cU.refl _ _) nL rfl rfl ?_)))
 intro K12
 have O6:=(O4.set (x':=({ x0 with Man:=y4}:aG)) X0 rfl).step (x':=({ ({ x0 with Man:=y4}:aG) with Locs:=y5}:aG)) (dE (x':=({ x0 with Man:=y4}:aG)) X0) ag4 O5
 have hr0:=sP (L':=(eI ag4 y5)::(([aN ag3 y3,bR (⟨ag2,List.replicate (y2:List aQ).length none⟩:dF) y2,aW (⟨ag1,List.replicate (y1:List aA).length none⟩:dF) y1,(ng0.a.t,.obj 60 (fl kD (((zg (q0.set q1.toNat ({ x0 with Man:=y4}):List aG) ng0.gs)).set q1.toNat (({ ({ x0 with Man:=y4}:aG) with Locs:=y5}:aG),some ag4)) ng0.a.sp)),(some k5,.obj 30 (gR)),OC k2 p0.Seq ng0.a ((⟨ag1,List.replicate (y1:List aA).length none⟩:dF).a) ((⟨ag2,List.replicate (y2:List aQ).length none⟩:dF).a) ag3]:HL)++((bS (⟨ag2,List.replicate (y2:List aQ).length none⟩:dF) y2)++((a8 (⟨ag1,List.replicate (y1:List aA).length none⟩:dF) y1)++(kA 81 aM ((nl aG.Locs (zg (q0.set q1.toNat ({ x0 with Man:=y4}):List aG) ng0.gs)).eraseIdx q1.toNat)))))) K12 [[_], [_], [_], [_], [_], [_], [_],_,_,_] rfl [0,1,2,3,4,5,6,7,8,9] rfl rfl
 have hj0:=oK (L':=([aN ag3 y3,bR (⟨ag2,List.replicate (y2:List aQ).length none⟩:dF) y2,aW (⟨ag1,List.replicate (y1:List aA).length none⟩:dF) y1,bM (⟨ng0.a,ng0.gs.set q1.toNat (some ag4)⟩:dF) ((q0.set q1.toNat ({ x0 with Man:=y4})).set q1.toNat ({ ({ x0 with Man:=y4}:aG) with Locs:=y5})),(some k5,.obj 30 (gR)),OC k2 p0.Seq ((⟨ng0.a,ng0.gs.set q1.toNat (some ag4)⟩:dF).a) ((⟨ag1,List.replicate (y1:List aA).length none⟩:dF).a) ((⟨ag2,List.replicate (y2:List aQ).length none⟩:dF).a) ag3]++((bS (⟨ag2,List.replicate (y2:List aQ).length none⟩:dF) y2)++((a8 (⟨ag1,List.replicate (y1:List aA).length none⟩:dF) y1)++(bQ (⟨ng0.a,ng0.gs.set q1.toNat (some ag4)⟩:dF) ((q0.set q1.toNat ({ x0 with Man:=y4})).set q1.toNat ({ ({ x0 with Man:=y4}:aG) with Locs:=y5}))))))) [[_], [_], [_], [_], [_], [_],_,_,_] rfl 8 (zs:=nl aG.Locs (zg (q0.set q1.toNat ({ x0 with Man:=y4}):List aG) ng0.gs)) (j:=q1.toNat) (aG.Locs ({ ({ x0 with Man:=y4}:aG) with Locs:=y5}:aG),some ag4) (jM ((O4.set (x':=({ x0 with Man:=y4}:aG)) X0 rfl).k.nlat (dE (x':=({ x0 with Man:=y4}:aG)) X0))) rfl hr0.2 (by rw[← ((O4.set (x':=({ x0 with Man:=y4}:aG)) X0 rfl).k.setL (x':=({ ({ x0 with Man:=y4}:aG) with Locs:=y5}:aG)) (dE (x':=({ x0 with Man:=y4}:aG)) X0) ag4 O5).2.2,((O4.set (x':=({ x0 with Man:=y4}:aG)) X0 rfl).k.setL (x':=({ ({ x0 with Man:=y4}:aG) with Locs:=y5}:aG)) (dE (x':=({ x0 with Man:=y4}:aG)) X0) ag4 O5).2.1]; rfl)
 refine kJ (hr0.1.trans hj0.1) (⟨⟨λe=>absurd e (by decide),trivial⟩, ?_⟩)
 exact zX (qk (f:=S0 49 _ _ _ _ _ _ _ _ _ _ _ _ _ _ _ _ _) hj0.2 rfl (v0 (eY m (⟨ng0.a,ng0.gs.set q1.toNat (some ag4)⟩:dF) O6 (lx (.k4 .nil)))))
 exact v0 (lA m ng0 (O4.all c0) (lx (.k4 .nil)))
 rintro ng1 ⟨r0,r1⟩ t0 m
 refine vs (vs (v0 (dM dZ rfl rfl (vl 5 (aw (⟨ag1,List.replicate (y1:List aA).length none⟩:dF).a.t (⟨ag1,List.replicate (y1:List aA).length none⟩:dF).a.n (⟨ag1,List.replicate (y1:List aA).length none⟩:dF).a.cap) eD rfl rfl rfl (bU (dR hM ((CB.zero (l:=aA.Locs) (szi:=4) O1).k.a) rfl) (UD m (σ:=(List aA)×Int) (τ:=dF) (λg s=>([aN ag3 y3,bR (⟨ag2,List.replicate (y2:List aQ).length none⟩:dF) y2,aW g s.1,bM ng1 r0,(some k5,.obj 30 (gR)),OC k2 p0.Seq ng1.a g.a ((⟨ag2,List.replicate (y2:List aQ).length none⟩:dF).a) ag3]++((bS (⟨ag2,List.replicate (y2:List aQ).length none⟩:dF) y2)++((a8 g s.1)++(bQ ng1 r0))))) (λg s=>CB aA.Locs 35 4 g (s.1:List aA) s.2.toNat (y1:List aA).length) (λg s=>lX aA.Locs 35 4 g (s.1:List aA)) (λg s=>.c 1 (.ptr k2 0) (.c 2 (.ptr k5 0) (.c 53 (nZ (y1.length:Int)) (.c 54 (nZ s.2) .nil)))) (⟨ag1,List.replicate (y1:List aA).length none⟩:dF) (CB.zero (l:=aA.Locs) (szi:=4) O1) (lx (.k4 .nil)) ?_ ?_))))))
 rintro ng2 ⟨q2,q3⟩ x O7 m
 replace m:sY w y1 q2 q3=some x:=m
 unfold sY at m
 refine vs (v0 (vs (v0 ?_)))
 apply vi m <;> intro c1 m
 refine v0 (vs (v0 (vs (v0 (vs (v0 (dM dZ rfl rfl (vl 5 (aZ ng2.a) eD rfl rfl rfl ?_))))))))
 obtain⟨x1,X1,m⟩:=aC m
 refine bU (cL (O7.k.ix X1) eU O7.k.z rfl rfl) (pU (MT (L':=([aN ag3 y3,bR (⟨ag2,List.replicate (y2:List aQ).length none⟩:dF) y2,aW ng2 q2,bM ng1 r0,(some k5,.obj 30 (gR)),OC k2 p0.Seq ng1.a ng2.a ((⟨ag2,List.replicate (y2:List aQ).length none⟩:dF).a) ag3]++((bS (⟨ag2,List.replicate (y2:List aQ).length none⟩:dF) y2)++((kA 81 aM ((nl aA.Locs (zg (q2:List aA) ng2.gs)).eraseIdx q3.toNat))++(bQ ng1 r0))))) [[_], [_], [_], [_], [_], [_],_,_,_] rfl 7 (q3.toNat) rfl rfl) (v0 (vz [(14,ng2.a.t,.obj 44 (fl jI (zg (q2:List aA) ng2.gs) ng2.a.sp))] mixed (λu=>⟨λ_=>aI 2 u rfl,trivial⟩) λu=>zC 0 rfl (eW (vK _ _) rfl) (zC 1 rfl (eW (vK _ _) rfl) (zC 2 rfl (eW (vK _ _) rfl) (zC 3 rfl (iV (bK.ne O7.k.z (O7.k.ix X1)) rfl) (zC 4 rfl (cS (bK.ne O7.k.z (O7.k.ix X1)) jO rfl rfl) (vL 5 rfl (λ_ _ hi hB=>dY (fo:=33) (.sl none 1 (List.map dD x1.Data)) (O7.k.ix X1) iR O7.k.z lH rfl (fW.get 0 hi rfl (hB 14 (by kernel_rfl))) (λ_=>rfl)) (zC 7 rfl (eW (vK _ _) rfl) (zC 8 rfl (iV (bK.ne O7.k.z (O7.k.ix X1)) rfl) (zC 9 rfl (cS (bK.ne O7.k.z (O7.k.ix X1)) iW rfl rfl) (vL 10 rfl (λ_ _ hi hB=>fC (dY (fo:=34) (awO aM 4 (gx ng2.gs q3.toNat) x1.Locs) (O7.k.ix X1) iR O7.k.z e8 rfl (fW.get 0 hi rfl (hB 14 (by kernel_rfl))) (λ_=>rfl)) (bH.of_eq (congrArg (λz=>awO aM 4 z x1.Locs) (O7.post _ (Nat.le_refl _))))) ?_))))))))))))
 obtain⟨y6,Y6,m⟩:=aC m
 refine zE 6 rfl (cK (W96 _ Y6) rfl P3 rfl ?_)
 rintro x h' ⟨tg0,t1,K13,rfl,rfl⟩
 rw[iU]
 refine⟨⟨λ_=>aI 3 (bV.co u K13) rfl,trivial⟩, ?_⟩
 obtain⟨y7,Y7,m⟩:=aC m
 refine zE 11 rfl (cK (T7 _ Y7) rfl T8 rfl ?_)
 rintro x h' ⟨ag5,O8,K14,rfl,rfl⟩
 rw[iU]
 refine⟨⟨λ_=>aI 4 (bV.co (bV.co u K13) K14) rfl,trivial⟩, ?_⟩
 refine zC 12 rfl (iV (bK.ne O7.k.z (O7.k.ix X1)) rfl) (zC 13 rfl (cS (bK.ne O7.k.z (O7.k.ix X1)) jO rfl rfl) (zE 14 rfl (w9 (s:=67) (.sl none 1 (List.map dD y6)) (aS (.cons_cons _ (.cons _ (.refl _))) (bV.co (bV.co u K13) K14)).1 (Fz.ale (aS (.cons_cons _ (.cons _ (.refl _))) (bV.co (bV.co u K13) K14)).1 (mP _ 1 t1 (bV.co (bV.co u K13) K14) rfl (.refl _))) (cI (fo:=33) (x':=(({ x1 with Data:=y6}:aA),(gx ng2.gs q3.toNat))) 3 ((aS (.cons_cons _ (.cons _ (.refl _))) (bV.co (bV.co u K13) K14)).2) (O7.k.ix X1) iR O7.k.z rfl rfl rfl rfl (cU.refl _ _) BY rfl rfl ?_))))
 intro K15
 have hs1:sO aA.Locs 35 4 ng2 (q2:List aA):=O7.k
 have hn1:hp h _=hp h ([fJ ag5 y7,aN ag3 y3,bR (⟨ag2,List.replicate (y2:List aQ).length none⟩:dF) y2,aW ng2 (q2.set q3.toNat ({ x1 with Data:=y6})),bM ng1 r0,(some k5,.obj 30 (gR)),OC k2 p0.Seq ng1.a ng2.a ((⟨ag2,List.replicate (y2:List aQ).length none⟩:dF).a) ag3]++((bS (⟨ag2,List.replicate (y2:List aQ).length none⟩:dF) y2)++((kA 81 aM ((nl aA.Locs (zg (q2.set q3.toNat ({ x1 with Data:=y6}):List aA) ng2.gs)).eraseIdx q3.toNat))++(bQ ng1 r0))))∧bV h ([fJ ag5 y7,aN ag3 y3,bR (⟨ag2,List.replicate (y2:List aQ).length none⟩:dF) y2,aW ng2 (q2.set q3.toNat ({ x1 with Data:=y6})),bM ng1 r0,(some k5,.obj 30 (gR)),OC k2 p0.Seq ng1.a ng2.a ((⟨ag2,List.replicate (y2:List aQ).length none⟩:dF).a) ag3]++((bS (⟨ag2,List.replicate (y2:List aQ).length none⟩:dF) y2)++((kA 81 aM ((nl aA.Locs (zg (q2.set q3.toNat ({ x1 with Data:=y6}):List aA) ng2.gs)).eraseIdx q3.toNat))++(bQ ng1 r0)))):=eqN (L:=_) K15 (by unfold aW; (try unfold a8); rw[(hs1.set (x':=({ x1 with Data:=y6}:aA)) X1 rfl).2.2,← (hs1.set (x':=({ x1 with Data:=y6}:aA)) X1 rfl).2.1]; first | done | rfl)
 refine kJ hn1.1 (⟨⟨λe=>absurd e (by decide),trivial⟩, ?_⟩)
 refine zC 15 rfl (iV (bK.ne ((O7.set (x':=({ x1 with Data:=y6}:aA)) X1 rfl).k.z) ((O7.set (x':=({ x1 with Data:=y6}:aA)) X1 rfl).k.ix (dE (x':=({ x1 with Data:=y6}:aA)) X1))) rfl) (zC 16 rfl (cS (bK.ne ((O7.set (x':=({ x1 with Data:=y6}:aA)) X1 rfl).k.z) ((O7.set (x':=({ x1 with Data:=y6}:aA)) X1 rfl).k.ix (dE (x':=({ x1 with Data:=y6}:aA)) X1))) iW rfl rfl) (zE 17 rfl (cI (fo:=34) (x':=(({ ({ x1 with Data:=y6}:aA) with Locs:=y7}:aA),some ag5)) 3 hn1.2 ((O7.set (x':=({ x1 with Data:=y6}:aA)) X1 rfl).k.ix (dE (x':=({ x1 with Data:=y6}:aA)) X1)) iR ((O7.set (x':=({ x1 with Data:=y6}:aA)) X1 rfl).k.z) rfl rfl (cC rfl) (cE (bY _ _ _) rfl) (cU.refl _ _) nL rfl rfl ?_)))
 intro K16
 have O9:=(O7.set (x':=({ x1 with Data:=y6}:aA)) X1 rfl).step (x':=({ ({ x1 with Data:=y6}:aA) with Locs:=y7}:aA)) (dE (x':=({ x1 with Data:=y6}:aA)) X1) ag5 O8
 have hr1:=sP (L':=(eI ag5 y7)::(([aN ag3 y3,bR (⟨ag2,List.replicate (y2:List aQ).length none⟩:dF) y2,(ng2.a.t,.obj 44 (fl jI (((zg (q2.set q3.toNat ({ x1 with Data:=y6}):List aA) ng2.gs)).set q3.toNat (({ ({ x1 with Data:=y6}:aA) with Locs:=y7}:aA),some ag5)) ng2.a.sp)),bM ng1 r0,(some k5,.obj 30 (gR)),OC k2 p0.Seq ng1.a ng2.a ((⟨ag2,List.replicate (y2:List aQ).length none⟩:dF).a) ag3]:HL)++((bS (⟨ag2,List.replicate (y2:List aQ).length none⟩:dF) y2)++((kA 81 aM ((nl aA.Locs (zg (q2.set q3.toNat ({ x1 with Data:=y6}):List aA) ng2.gs)).eraseIdx q3.toNat))++(bQ ng1 r0))))) K16 [[_], [_], [_], [_], [_], [_], [_],_,_,_] rfl [0,1,2,3,4,5,6,7,8,9] rfl rfl
 have hj1:=oK (L':=([aN ag3 y3,bR (⟨ag2,List.replicate (y2:List aQ).length none⟩:dF) y2,aW (⟨ng2.a,ng2.gs.set q3.toNat (some ag5)⟩:dF) ((q2.set q3.toNat ({ x1 with Data:=y6})).set q3.toNat ({ ({ x1 with Data:=y6}:aA) with Locs:=y7})),bM ng1 r0,(some k5,.obj 30 (gR)),OC k2 p0.Seq ng1.a ((⟨ng2.a,ng2.gs.set q3.toNat (some ag5)⟩:dF).a) ((⟨ag2,List.replicate (y2:List aQ).length none⟩:dF).a) ag3]++((bS (⟨ag2,List.replicate (y2:List aQ).length none⟩:dF) y2)++((a8 (⟨ng2.a,ng2.gs.set q3.toNat (some ag5)⟩:dF) ((q2.set q3.toNat ({ x1 with Data:=y6})).set q3.toNat ({ ({ x1 with Data:=y6}:aA) with Locs:=y7})))++(bQ ng1 r0))))) [[_], [_], [_], [_], [_], [_],_,_,_] rfl 7 (zs:=nl aA.Locs (zg (q2.set q3.toNat ({ x1 with Data:=y6}):List aA) ng2.gs)) (j:=q3.toNat) (aA.Locs ({ ({ x1 with Data:=y6}:aA) with Locs:=y7}:aA),some ag5) (jM ((O7.set (x':=({ x1 with Data:=y6}:aA)) X1 rfl).k.nlat (dE (x':=({ x1 with Data:=y6}:aA)) X1))) rfl hr1.2 (by rw[← ((O7.set (x':=({ x1 with Data:=y6}:aA)) X1 rfl).k.setL (x':=({ ({ x1 with Data:=y6}:aA) with Locs:=y7}:aA)) (dE (x':=({ x1 with Data:=y6}:aA)) X1) ag5 O8).2.2,((O7.set (x':=({ x1 with Data:=y6}:aA)) X1 rfl).k.setL (x':=({ ({ x1 with Data:=y6}:aA) with Locs:=y7}:aA)) (dE (x':=({ x1 with Data:=y6}:aA)) X1) ag5 O8).2.1]; rfl)
 refine kJ (hr1.1.trans hj1.1) (⟨⟨λe=>absurd e (by decide),trivial⟩, ?_⟩)
 exact zX (qk (f:=fq5 76 _ _ _ _ _ (.c 67 _ (PP 71 _ _ _ _ (fq6 66 _ _ _ _ _ _ _)))) hj1.2 rfl (v0 (eY m (⟨ng2.a,ng2.gs.set q3.toNat (some ag5)⟩:dF) O9 (lx (.k4 .nil)))))
 exact v0 (lA m ng2 (O7.all c1) (lx (.k4 .nil)))
 rintro ng3 ⟨r2,r3⟩ t2 m
 refine vs (vs (v0 (dM eT rfl rfl (vl 5 (aw (⟨ag2,List.replicate (y2:List aQ).length none⟩:dF).a.t (⟨ag2,List.replicate (y2:List aQ).length none⟩:dF).a.n (⟨ag2,List.replicate (y2:List aQ).length none⟩:dF).a.cap) hX rfl rfl rfl (bU (dR nK ((CB.zero (l:=aQ.Locs) (szi:=4) O2).k.a) rfl) (UD m (σ:=(List aQ)×Int) (τ:=dF) (λg s=>([aN ag3 y3,bR g s.1,aW ng3 r2,bM ng1 r0,(some k5,.obj 30 (gR)),OC k2 p0.Seq ng1.a ng3.a g.a ag3]++((bS g s.1)++((a8 ng3 r2)++(bQ ng1 r0))))) (λg s=>CB aQ.Locs 3 4 g (s.1:List aQ) s.2.toNat (y2:List aQ).length) (λg s=>lX aQ.Locs 3 4 g (s.1:List aQ)) (λg s=>.c 1 (.ptr k2 0) (.c 2 (.ptr k5 0) (.c 80 (nZ (y2.length:Int)) (.c 81 (nZ s.2) .nil)))) (⟨ag2,List.replicate (y2:List aQ).length none⟩:dF) (CB.zero (l:=aQ.Locs) (szi:=4) O2) (lx (.k4 .nil)) ?_ ?_))))))
 rintro ng4 ⟨q4,q5⟩ x O10 m
 replace m:s9 w y2 q4 q5=some x:=m
 unfold s9 at m
 refine vs (v0 (vs (v0 ?_)))
 apply vi m <;> intro c2 m
 refine v0 (vs (v0 (vs (v0 (pU (MT (L':=([aN ag3 y3,bR ng4 q4,aW ng3 r2,bM ng1 r0,(some k5,.obj 30 (gR)),OC k2 p0.Seq ng1.a ng3.a ng4.a ag3]++((kA 81 aM ((nl aQ.Locs (zg (q4:List aQ) ng4.gs)).eraseIdx q5.toNat))++((a8 ng3 r2)++(bQ ng1 r0))))) [[_], [_], [_], [_], [_], [_],_,_,_] rfl 6 (q5.toNat) rfl rfl) (v0 (vz [(1000000,some k2,.obj 30 ([nZ p0.Seq,aZ ng1.a,aZ ng3.a,aZ ng4.a,aZ ag3])),(12,ng4.a.t,.obj 99 (fl kX (zg (q4:List aQ) ng4.gs) ng4.a.sp))] mixed (λu=>⟨λ_=>aI 5 u rfl,λ_=>aI 1 u rfl,trivial⟩) λu=>zF 0 rfl eT rfl (zL 1 0 (aZ ng4.a) rfl hX rfl rfl rfl (zI 2 rfl rfl (zF 3 rfl eT rfl (zL 4 0 (aZ ng4.a) rfl hX rfl rfl rfl (zI 5 rfl rfl ?_))))))))))))
 obtain⟨x2,X2,m⟩:=aC m
 refine zC 6 rfl (cL (O10.k.ix X2) hU O10.k.z rfl rfl) (zC 7 rfl (cS (bK.ne O10.k.z (O10.k.ix X2)) kU rfl rfl) (vL 8 rfl (λ_ _ hi hB=>fC (dY (fo:=2) (awO aM 4 (gx ng4.gs q5.toNat) x2.Locs) (O10.k.ix X2) oM O10.k.z e8 rfl (fW.get 1 hi rfl (hB 12 (by kernel_rfl))) (λ_=>rfl)) (bH.of_eq (congrArg (λz=>awO aM 4 z x2.Locs) (O10.post _ (Nat.le_refl _))))) ?_))
 obtain⟨y8,Y8,m⟩:=aC m
 refine zE 9 rfl (cK (T7 _ Y8) rfl T8 rfl ?_)
 rintro x h' ⟨ag6,O11,K17,rfl,rfl⟩
 rw[iU]
 refine⟨⟨λ_=>aI 6 (bV.co u K17) rfl,λ_=>aI 2 (bV.co u K17) rfl,trivial⟩, ?_⟩
 obtain⟨x3,X3,m⟩:=aC m
 refine zC 10 rfl (cL (O10.k.ix X3) hU O10.k.z rfl rfl) (zC 11 rfl (cS (bK.ne O10.k.z (O10.k.ix X3)) kU rfl rfl) (zE 12 rfl (cI (fo:=2) (x':=(({ x3 with Locs:=y8}:aQ),some ag6)) 2 (bV.co u K17) (O10.k.ix X3) oM O10.k.z rfl rfl (cC rfl) (cE (bY _ _ _) rfl) (cU.refl _ _) nL rfl rfl ?_)))
 intro K18
 have O12:=O10.step (x':=({ x3 with Locs:=y8}:aQ)) X3 ag6 O11
 have hr2:=sP (L':=(eI ag6 y8)::(([aN ag3 y3,(ng4.a.t,.obj 99 (fl kX (((zg (q4:List aQ) ng4.gs)).set q5.toNat (({ x3 with Locs:=y8}:aQ),some ag6)) ng4.a.sp)),aW ng3 r2,bM ng1 r0,(some k5,.obj 30 (gR)),OC k2 p0.Seq ng1.a ng3.a ng4.a ag3]:HL)++((kA 81 aM ((nl aQ.Locs (zg (q4:List aQ) ng4.gs)).eraseIdx q5.toNat))++((a8 ng3 r2)++(bQ ng1 r0))))) K18 [[_], [_], [_], [_], [_], [_], [_],_,_,_] rfl [0,1,2,3,4,5,6,7,8,9] rfl rfl
 have hj2:=oK (L':=([aN ag3 y3,bR (⟨ng4.a,ng4.gs.set q5.toNat (some ag6)⟩:dF) (q4.set q5.toNat ({ x3 with Locs:=y8})),aW ng3 r2,bM ng1 r0,(some k5,.obj 30 (gR)),OC k2 p0.Seq ng1.a ng3.a ((⟨ng4.a,ng4.gs.set q5.toNat (some ag6)⟩:dF).a) ag3]++((bS (⟨ng4.a,ng4.gs.set q5.toNat (some ag6)⟩:dF) (q4.set q5.toNat ({ x3 with Locs:=y8})))++((a8 ng3 r2)++(bQ ng1 r0))))) [[_], [_], [_], [_], [_], [_],_,_,_] rfl 6 (zs:=nl aQ.Locs (zg (q4:List aQ) ng4.gs)) (j:=q5.toNat) (aQ.Locs ({ x3 with Locs:=y8}:aQ),some ag6) (jM (O10.k.nlat X3)) rfl hr2.2 (by rw[← (O10.k.setL (x':=({ x3 with Locs:=y8}:aQ)) X3 ag6 O11).2.2,(O10.k.setL (x':=({ x3 with Locs:=y8}:aQ)) X3 ag6 O11).2.1]; rfl)
 refine kJ (hr2.1.trans hj2.1) (⟨⟨λ_=>aI 5 hj2.2 rfl,λe=>absurd e (by decide),trivial⟩, ?_⟩)
 exact zX (qk (f:=JD 95 _ _ _ _ _ _ _ _ _ _ _ _ _) hj2.2 rfl (v0 (eY m (⟨ng4.a,ng4.gs.set q5.toNat (some ag6)⟩:dF) O12 (lx (.k4 .nil)))))
 exact v0 (lA m ng4 (O10.all c2) (lx (.k4 .nil)))
 rintro ng5 ⟨r4,r5⟩ t3 m
 refine vs (v0 (vl 5 (.agg ([nZ p0.Seq,aZ ng1.a,aZ ng3.a,aZ ng5.a,aZ ag3])) eV rfl rfl rfl (ve λu=>aK 4 ([nZ p0.Seq,aZ ng1.a,aZ ng3.a,aZ ng5.a,aZ ag3]) u rfl rfl rfl (by repeat (first | exact rfl | refine cE (iH _ _ _) ?_ | refine cE (bY _ _ _) ?_ | refine cE (f9 _ _ _ _) ?_ | refine cE rfl ?_)) lQ rfl rfl λK19=>qk K19 rfl ?_)))
 refine v0 ?_
 cases m
 exact vr λu=>dX.of1 (.inl rfl) (qD (.agg ([nZ p0.Seq,aZ ng1.a,aZ ng3.a,aZ ng5.a,aZ ag3])) eV rfl (a9 4 u rfl) rfl) (sQ (L':=([bM ng1 r0,aW ng3 r2,bR ng5 r4,aN ag3 y3]++((bQ ng1 r0)++((a8 ng3 r2)++(bS ng5 r4))))) u [[_], [_], [_], [_], [_], [_],_,_,_] rfl [3,2,1,0,8,7,6] rfl rfl).2 (bH.refl _ _) ⟨ng1,t0,ng3,t2,ng5,t3,ag3,O3,(sQ (L':=([bM ng1 r0,aW ng3 r2,bR ng5 r4,aN ag3 y3]++((bQ ng1 r0)++((a8 ng3 r2)++(bS ng5 r4))))) u [[_], [_], [_], [_], [_], [_],_,_,_] rfl [3,2,1,0,8,7,6] rfl rfl).1,rfl,rfl⟩
theorem aFY:aO Tryz.prog 77=true:=by kernel_rfl
end Go.Proofs.YtbbifdfldpfphaaGreat
