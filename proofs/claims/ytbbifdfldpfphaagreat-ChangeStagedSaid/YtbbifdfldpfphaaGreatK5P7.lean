import Derived.Test.YtbbifdfldpfphaaGreatK5P4
import Derived.Test.YtbbifdfldpfphaaGreatK5P5
import Derived.Test.YtbbifdfldpfphaaGreatK5P6
import Derived.Test.YtbbifdfldpfphaaGreatK5P3
set_option linter.unusedSimpArgs false
set_option linter.unusedVariables false
set_option maxHeartbeats 4000000
set_option maxRecDepth 100000
namespace Go.Proofs.YtbbifdfldpfphaaGreat
open Go.Vm
def CZ (m:Nat) (p0:List aB) (p1:aB→Option Bool) (q0:Int):Option (Lp (Int) (Int)):=
 if (decide (q0 < (p0.length:Int)))=true then ((ix p0 q0).bind λx0=>(p1 x0).bind λy0=>if y0=true then (some (.ret q0)) else some (.go (IntKind.wrap .i64 (q0+1)))) else some (.brk q0)
def US (m:Nat) (p0:List aB) (p1:aB→Option Bool):Option (Int):=
 after (aU (λs=>CZ m p0 p1 s) m 0) λr0=>some (-1)
theorem aFJ {w:Nat} {p0:List aB} {p1:aB→Option Bool} {o:Int} (h:aE) {g_p0:cT} (ok_p0:bI g_p0 35 p0.length) (K0:bT h [(cE g_p0 p0)]) {p1F:Nat} {p1C:List AV} (p1B:aO Tryz.prog p1F=true) (p1H:∀x0 o h0,iD h h0→p1 x0=some o→aL Tryz.prog p1F ([.agg (aI x0)]++p1C) h0 (λr h'=>r= .sc (.bool o)∧h'=h0)) (m:US w p0 p1=some o):
 aL Tryz.prog 53 [aZ g_p0,.fn (.func p1F) p1C] (hp h [(cE g_p0 p0)]) (λr h'=>r=nZ o∧h'=hp h [(cE g_p0 p0)]):=by
 refine uE K0 19 [.tmp 4] Tryz.func53 rfl rfl rfl rfl ?_
 unfold US at m
 refine vs (v0 (vs (vs (v0 (bU (dQ iG ok_p0 rfl) ?_)))))
 refine jY m (σ:=Int) (λs=> [(cE g_p0 p0)]) (λs=>.c 0 (aZ g_p0) (.c 1 (.fn (.func p1F) p1C) (.c 7 (nZ (p0.length:Int)) (.c 8 (nZ s) .nil)))) (lx (.k4 .nil)) ?_ ?_
 rintro _ q0 x m
 replace m:CZ w p0 p1 q0=some x:=m
 unfold CZ at m
 refine vs (v0 (vs (v0 ?_)))
 apply vi m <;> intro c0 m
 refine v0 (vs (v0 (vs (v0 (vs (v0 ?_))))))
 obtain⟨x1,X0,m⟩:=aC m
 refine bU (cM X0 fH ok_p0 rfl rfl) (vn (λu=>dX (fo:=0) (.agg (aI x1)) X0 cO ok_p0 kQ rfl (aJ 0 u rfl) (λ_=>rfl)) ?_)
 obtain⟨_,Y0,m⟩:=aC m
 refine vn (λu=>bY (p1H _ _ _ (aT (List.nil_sublist _) u).1 Y0) rfl p1B rfl) (v0 ?_)
 apply vi m <;> intro c1 m
 refine vs (v0 (v0 ?_))
 refine gM m λm=> ?_
 obtain rfl:=eT m
 exact vr λu=>dW.of1 (.inl rfl) (fT _ _ (.sc (.int _ _)) rfl) (bE u [0] rfl).2 (bF.refl _ _) ⟨rfl,rfl⟩
 refine v0 (v0 ?_)
 exact iE m
 refine v0 ?_
 exact wW m
 rintro _ r0 m
 refine vs (v0 (v0 ?_))
 cases m
 exact vr λu=>dW.of1 (.inl rfl) (fT _ _ (.sc (.int _ _)) rfl) (bE u [0] rfl).2 (bF.refl _ _) ⟨rfl,rfl⟩
def zA (m:Nat) (p0:List aQ) (p1:aQ→Option Bool) (q0:Int):Option (Lp (Int) (Int)):=
 if (decide (q0 < (p0.length:Int)))=true then ((ix p0 q0).bind λx0=>(p1 x0).bind λy0=>if y0=true then (some (.ret q0)) else some (.go (IntKind.wrap .i64 (q0+1)))) else some (.brk q0)
def NC (m:Nat) (p0:List aQ) (p1:aQ→Option Bool):Option (Int):=
 after (aU (λs=>zA m p0 p1 s) m 0) λr0=>some (-1)
theorem ZU {w:Nat} {p0:List aQ} {p1:aQ→Option Bool} {o:Int} (h:aE) {g_p0:cT} (ok_p0:bI g_p0 3 p0.length) (K0:bT h [(fA g_p0 p0)]) {p1F:Nat} {p1C:List AV} (p1B:aO Tryz.prog p1F=true) (p1H:∀x0 o h0,iD h h0→p1 x0=some o→aL Tryz.prog p1F ([.agg (cP x0)]++p1C) h0 (λr h'=>r= .sc (.bool o)∧h'=h0)) (m:NC w p0 p1=some o):
 aL Tryz.prog 181 [aZ g_p0,.fn (.func p1F) p1C] (hp h [(fA g_p0 p0)]) (λr h'=>r=nZ o∧h'=hp h [(fA g_p0 p0)]):=by
 refine uE K0 19 [.tmp 4] Tryz.func181 rfl rfl rfl rfl ?_
 unfold NC at m
 refine vs (v0 (vs (vs (v0 (bU (dQ pW ok_p0 rfl) ?_)))))
 refine jY m (σ:=Int) (λs=> [(fA g_p0 p0)]) (λs=>.c 0 (aZ g_p0) (.c 1 (.fn (.func p1F) p1C) (.c 7 (nZ (p0.length:Int)) (.c 8 (nZ s) .nil)))) (lx (.k4 .nil)) ?_ ?_
 rintro _ q0 x m
 replace m:zA w p0 p1 q0=some x:=m
 unfold zA at m
 refine vs (v0 (vs (v0 ?_)))
 apply vi m <;> intro c0 m
 refine v0 (vs (v0 (vs (v0 (vs (v0 ?_))))))
 obtain⟨x1,X0,m⟩:=aC m
 refine bU (cM X0 iM ok_p0 rfl rfl) (vn (λu=>dX (fo:=0) (.agg (cP x1)) X0 fL ok_p0 u7 rfl (aJ 0 u rfl) (λ_=>rfl)) ?_)
 obtain⟨_,Y0,m⟩:=aC m
 refine vn (λu=>bY (p1H _ _ _ (aT (List.nil_sublist _) u).1 Y0) rfl p1B rfl) (v0 ?_)
 apply vi m <;> intro c1 m
 refine vs (v0 (v0 ?_))
 refine gM m λm=> ?_
 obtain rfl:=eT m
 exact vr λu=>dW.of1 (.inl rfl) (fT _ _ (.sc (.int _ _)) rfl) (bE u [0] rfl).2 (bF.refl _ _) ⟨rfl,rfl⟩
 refine v0 (v0 ?_)
 exact iE m
 refine v0 ?_
 exact wW m
 rintro _ r0 m
 refine vs (v0 (v0 ?_))
 cases m
 exact vr λu=>dW.of1 (.inl rfl) (fT _ _ (.sc (.int _ _)) rfl) (bE u [0] rfl).2 (bF.refl _ _) ⟨rfl,rfl⟩
theorem ZV:aO Tryz.prog 181=true:=by kernel_rfl
def UT (m:Nat) (p0:a8) (c0:aR):Option (Bool):=
 some (p0.Vol==c0.Vol)
theorem aFK {w:Nat} {p0:a8} {c0:aR} {o:Bool} (h:aE) {c0K:cB} (c0H:h c0K=some (.obj 62 (aD c0))) (m:UT w p0 c0=some o):
 aL Tryz.prog 127 [.agg (aN p0),.ptr c0K 0] h (λr h'=>r= .sc (.bool o)∧h'=h):=by
 refine f8 9 [.tmp 3] Tryz.func127 rfl rfl rfl rfl ?_
 unfold UT at m
 refine v ?_
 refine gY rfl rfl λk2 K3=> ?_
 refine v (vl 0 _ cF rfl rfl rfl (vn (λu=>pE (nZ c0.Vol) cF rfl (kP u c0H) rfl) (v ?_)))
 cases m
 exact eD rfl
theorem ZW:aO Tryz.prog 127=true:=by kernel_rfl
def E7 (m:Nat) (p0:List a8) (c0:aR):Option ((List a8)):=
 (UJ m p0 (λx0=>UT m x0 c0)).bind λy3=>some y3
theorem ND {w:Nat} {p0:List a8} {c0:aR} {o:(List a8)} (h:aE) {g_p0:cT} (ok_p0:bI g_p0 4 p0.length) (K0:bT h [fJ g_p0 p0]) {c0K:cB} (c0H:h c0K=some (.obj 62 (aD c0))) (m:E7 w p0 c0=some o):
 aL Tryz.prog 126 [aZ g_p0,.ptr c0K 0] (hp h [fJ g_p0 p0]) (λr h'=>∃g:cT,bI g 4 o.length∧bT h [(g.t,.obj 81 (fl aN o g.sp))]∧r=aZ g∧h'=hp h [(g.t,.obj 81 (fl aN o g.sp))]):=by
 refine uE K0 7 [.tmp 3] Tryz.func126 rfl rfl rfl rfl ?_
 unfold E7 at m
 refine vs (v0 (vs (v0 ?_)))
 obtain⟨y3,Y4,m⟩:=aC m
 refine ve λu=>dB ((bC u [0] rfl rfl).1.trans (cV h [fJ g_p0 p0] []).symm) (cK (aE0 (hp h []) ok_p0 (cJ [fJ g_p0 p0] [] (bC u [0] rfl rfl).2).2 ZW (λ_ o h0 hs ho=>aFK _ (hs _ _ (kP (cJ [fJ g_p0 p0] [] (bC u [0] rfl rfl).2).1 c0H)) ho) Y4) rfl aE1 rfl ?_)
 rintro x h' ⟨ag5,O6,K7,rfl,rfl⟩
 have K8:=bC (L':= [fJ ag5 y3]) (dI (cJ [fJ g_p0 p0] [] (bC u [0] rfl rfl).2).1 K7) [0] rfl rfl
 refine qk K8.2 ((cV h [fJ ag5 y3] []).trans K8.1) ?_
 refine v0 ?_
 obtain rfl:=eT m
 exact vr λu=>dW.one (.inl rfl) (aT (h0:=h) (L':= [fJ ag5 y3]) (.refl _) u).1 (bF.refl _ _) ⟨ag5,O6,(aT (h0:=h) (L':= [fJ ag5 y3]) (.refl _) u).2,rfl,rfl⟩
theorem NE:aO Tryz.prog 126=true:=by kernel_rfl
def UU (m:Nat) (p0:aB):Option (Bool):=
 after (if (!p0.Staged)=true then (some (.brk ((p0.Locs.length:Int)==0))) else some (.brk false):Option (Lp (Bool) (Bool))) λj7=>some j7
theorem aFL {u:Nat} {p0:aB} {o:Bool} (h:aE) (m:UU u p0=some o):
 aL Tryz.prog 129 [.agg (aI p0)] h (λr h'=>r= .sc (.bool o)∧h'=h):=by
 refine f8 12 [.tmp 2] Tryz.func129 rfl rfl rfl rfl ?_
 unfold UU at m
 refine v ?_
 refine gY rfl rfl λk2 K3=> ?_
 refine vs ?_
 refine fN m (σ:=Bool) (λs=> [(some k2,.obj 44 (aI p0))]) (λs=>.c 2 (.sc (.bool s)) .nil) (λx m=> ?_) ?_
 refine v (vl 0 _ yC rfl rfl rfl ?_)
 apply vi m <;> intro b8 m
 rw[b8]
 refine vl 0 _ eL rfl rfl rfl (dE gO rfl ?_)
 exact iX m
 rw[b8]
 exact iX m
 rintro _ j7 m
 refine v ?_
 obtain rfl:=eT m
 exact eD rfl
theorem ZX:aO Tryz.prog 129=true:=by kernel_rfl
def zB (m:Nat) (p1:aB→Option Bool) (q0:List aB) (q1:Int) (q2:Int):Option (Lp ((List aB)×Int×Int) ((List aB))):=
 if (decide (q2 < (q0.length:Int)))=true then ((ix q0 q2).bind λx0=>(p1 x0).bind λy0=>after (if (!y0)=true then ((ix q0 q1).bind λ_=>some (.brk (q0.set q1.toNat (x0),IntKind.wrap .i64 (q1+1)))) else some (.brk (q0,q1)):Option (Lp ((List aB)×Int) (Lp ((List aB)×Int×Int) ((List aB))))) λ⟨j0,j1⟩=>some (.go (j0,j1,IntKind.wrap .i64 (q2+1)))) else some (.brk (q0,q1,q2))
def NF (m:Nat) (p0:List aB) (p1:aB→Option Bool):Option ((List aB)):=
 (US m p0 p1).bind λy3=>if (y3==(-1))=true then (some p0) else after (aU (λs=>zB m p1 s.1 s.2.1 s.2.2) m (p0,y3,IntKind.wrap .i64 (y3+1))) λ⟨r0,r1,r2⟩=>grd (decide (0≤r1) && decide (r1 < (r0.length:Int))) <| grd (decide (0≤r1) && decide (r1≤(r0.length:Int))) <| some (r0.take r1.toNat)
theorem ZY {w:Nat} {p0:List aB} {p1:aB→Option Bool} {o:(List aB)} (h:aE) {g_p0:cT} (ok_p0:bI g_p0 35 p0.length) (K0:bT h [(cE g_p0 p0)]) {p1F:Nat} {p1C:List AV} (p1B:aO Tryz.prog p1F=true) (p1H:∀x0 o h0,iD h h0→p1 x0=some o→aL Tryz.prog p1F ([.agg (aI x0)]++p1C) h0 (λr h'=>r= .sc (.bool o)∧h'=h0)) (m:NF w p0 p1=some o):
 aL Tryz.prog 128 [aZ g_p0,.fn (.func p1F) p1C] (hp h [(cE g_p0 p0)]) (λr h'=>∃g:cT,bI g 35 o.length∧bT h [(g.t,.obj 44 (fl aI o g.sp))]∧r=aZ g∧h'=hp h [(g.t,.obj 44 (fl aI o g.sp))]):=by
 refine uE K0 42 [.tmp 4] Tryz.func128 rfl rfl rfl rfl ?_
 unfold NF at m
 refine vs (v0 (vs (v0 ?_)))
 obtain⟨_,Y4,m⟩:=aC m
 refine ve λu=>dB ((bC u [0] rfl rfl).1.trans (cV h [(cE g_p0 p0)] []).symm) (cK (aFJ (hp h []) ok_p0 (cJ [(cE g_p0 p0)] [] (bC u [0] rfl rfl).2).2 p1B (λx0 o h0 hs ho=>p1H x0 o h0 ((aT (List.nil_sublist _) (cJ [(cE g_p0 p0)] [] (bC u [0] rfl rfl).2).1).1.trans hs) ho) Y4) rfl YG rfl ?_)
 rintro x h' ⟨rfl,rfl⟩
 refine qk u ((cV h [(cE g_p0 p0)] []).trans (bC u [0] rfl rfl).1.symm) ?_
 refine vs (vs (v0 (v0 ?_)))
 apply vi m <;> intro c7 m
 refine vs (v0 (v0 ?_))
 obtain rfl:=eT m
 exact vr λu=>dW.one (.inl rfl) (aT (h0:=h) (L':= [(cE g_p0 p0)]) (.refl _) u).1 (bF.refl _ _) ⟨g_p0,ok_p0,(aT (h0:=h) (L':= [(cE g_p0 p0)]) (.refl _) u).2,rfl,rfl⟩
 refine v0 (vs (vs (v0 ?_)))
 refine nR m (σ:=(List aB)×Int×Int) (τ:=cT) (λg s=> [(cE g s.1)]) (λg s=>bI g 35 (s.1:List aB).length) (λg s=>.c 0 (aZ g) (.c 1 (.fn (.func p1F) p1C) (.c 5 (nZ s.2.1) (.c 6 (nZ s.2.2) .nil)))) g_p0 ok_p0 (lx (.k4 .nil)) ?_ ?_
 rintro ag0 ⟨q0,q1,q2⟩ x O0 m
 replace m:zB w p1 q0 q1 q2=some x:=m
 unfold zB at m
 refine vs (vs (v0 (bU (dQ iG O0 rfl) (v0 ?_))))
 apply vi m <;> intro c0 m
 refine v0 (vs (v0 (vs (v0 ?_))))
 obtain⟨x1,X0,m⟩:=aC m
 refine bU (cM X0 fH O0 rfl rfl) (vn (λu=>dX (fo:=0) (.agg (aI x1)) X0 cO O0 kQ rfl (aJ 0 u rfl) (λ_=>rfl)) ?_)
 refine ve λu=>bJ (bL jW++(FN:List AV)) u l6 rfl rfl λk86 K1=>qk K1 rfl ?_
 refine ve λu=>aK 0 (aI x1) u rfl rfl rfl rfl rI rfl rfl λK2=>qk K2 rfl ?_
 refine vs (v0 (vl 0 (.agg (aI x1)) kQ rfl rfl rfl ?_))
 obtain⟨_,Y0,m⟩:=aC m
 refine vn (λu=>bY (p1H _ _ _ (aT (List.nil_sublist _) u).1 Y0) rfl p1B rfl) ?_
 refine pO m (σ:=(List aB)×Int) (τ:=cT) (λg s=> [(some k86,.obj 44 (aI x1)),(cE g s.1)]) (λg s=>bI g 35 (s.1:List aB).length) (λg s=>.c 0 (aZ g) (.c 1 (.fn (.func p1F) p1C) (.c 5 (nZ s.2) (.c 6 (nZ q2) .nil)))) (λx m=> ?_) ?_
 refine v0 ?_
 apply vi m <;> intro c1 m
 refine vs (v0 (vl 0 (.agg (aI x1)) kQ rfl rfl rfl ?_))
 obtain⟨_,X1,m⟩:=aC m
 refine bU (cM X1 fH O0 rfl rfl) ?_
 refine ve λu=>cI (fo:=0) (x1:aB) 1 u X1 cO O0 rfl rfl rfl rfl (cW.refl _ _) rI rfl rfl λK3=>qk K3 rfl ?_
 refine v0 ?_
 exact eW m ag0 (bI.set O0) (lx (.k4 .nil))
 refine v0 ?_
 exact eW m ag0 O0 (lx (.k4 .nil))
 rintro ag1 ⟨j0,j1⟩ O1 m
 refine v0 ?_
 exact eW m ag1 O1 (lW [1] rfl rfl (.k4 .nil))
 refine v0 ?_
 exact lM m ag0 O0 (lx (.k4 .nil))
 rintro ag2 ⟨r0,r1,r2⟩ t0 m
 refine vs (v0 ?_)
 obtain⟨Z0,m⟩:=m0 m
 refine bU (CG Z0 fH t0 rfl rfl) ?_
 refine ve λu=>A4 0 u Z0 cO t0 u26 l6 rfl rfl rfl rfl λsp0 O2 K4=>qk K4 rfl ?_
 refine vs (v0 ?_)
 obtain⟨Z1,m⟩:=m0 m
 refine bU (CH Z1 t0 fH rfl rfl) (v0 ?_)
 cases m
 exact vr λu=>dW.one (.inl rfl) (aT (h0:=h) (L':= [((⟨ag2.t,r1.toNat,ag2.cap,sp0⟩:cT).t,.obj 44 (fl aI (r0.take r1.toNat:List aB) (⟨ag2.t,r1.toNat,ag2.cap,sp0⟩:cT).sp))]) (.refl _) u).1 (bF.refl _ _) ⟨(⟨ag2.t,r1.toNat,ag2.cap,sp0⟩:cT),O2,(aT (h0:=h) (L':= [((⟨ag2.t,r1.toNat,ag2.cap,sp0⟩:cT).t,.obj 44 (fl aI (r0.take r1.toNat:List aB) (⟨ag2.t,r1.toNat,ag2.cap,sp0⟩:cT).sp))]) (.refl _) u).2,rfl,rfl⟩
theorem ZZ:aO Tryz.prog 128=true:=by kernel_rfl
def UV (m:Nat) (p0:aQ):Option (Bool):=
 some ((p0.Locs.length:Int)==0)
theorem aFM {u:Nat} {p0:aQ} {o:Bool} (h:aE) (m:UV u p0=some o):
 aL Tryz.prog 131 [.agg (cP p0)] h (λr h'=>r= .sc (.bool o)∧h'=h):=by
 refine f8 7 [.tmp 2] Tryz.func131 rfl rfl rfl rfl ?_
 unfold UV at m
 refine v ?_
 refine gY rfl rfl λk2 K3=> ?_
 refine v (vl 0 _ eL rfl rfl rfl (dE gO rfl (v ?_)))
 cases m
 exact eD rfl
theorem Z7:aO Tryz.prog 131=true:=by kernel_rfl
def zD (m:Nat) (p1:aQ→Option Bool) (q0:List aQ) (q1:Int) (q2:Int):Option (Lp ((List aQ)×Int×Int) ((List aQ))):=
 if (decide (q2 < (q0.length:Int)))=true then ((ix q0 q2).bind λx0=>(p1 x0).bind λy0=>after (if (!y0)=true then ((ix q0 q1).bind λ_=>some (.brk (q0.set q1.toNat (x0),IntKind.wrap .i64 (q1+1)))) else some (.brk (q0,q1)):Option (Lp ((List aQ)×Int) (Lp ((List aQ)×Int×Int) ((List aQ))))) λ⟨j0,j1⟩=>some (.go (j0,j1,IntKind.wrap .i64 (q2+1)))) else some (.brk (q0,q1,q2))
def NG (m:Nat) (p0:List aQ) (p1:aQ→Option Bool):Option ((List aQ)):=
 (NC m p0 p1).bind λy3=>if (y3==(-1))=true then (some p0) else after (aU (λs=>zD m p1 s.1 s.2.1 s.2.2) m (p0,y3,IntKind.wrap .i64 (y3+1))) λ⟨r0,r1,r2⟩=>grd (decide (0≤r1) && decide (r1 < (r0.length:Int))) <| grd (decide (0≤r1) && decide (r1≤(r0.length:Int))) <| some (r0.take r1.toNat)
theorem Z8 {w:Nat} {p0:List aQ} {p1:aQ→Option Bool} {o:(List aQ)} (h:aE) {g_p0:cT} (ok_p0:bI g_p0 3 p0.length) (K0:bT h [(fA g_p0 p0)]) {p1F:Nat} {p1C:List AV} (p1B:aO Tryz.prog p1F=true) (p1H:∀x0 o h0,iD h h0→p1 x0=some o→aL Tryz.prog p1F ([.agg (cP x0)]++p1C) h0 (λr h'=>r= .sc (.bool o)∧h'=h0)) (m:NG w p0 p1=some o):
 aL Tryz.prog 130 [aZ g_p0,.fn (.func p1F) p1C] (hp h [(fA g_p0 p0)]) (λr h'=>∃g:cT,bI g 3 o.length∧bT h [(g.t,.obj 99 (fl cP o g.sp))]∧r=aZ g∧h'=hp h [(g.t,.obj 99 (fl cP o g.sp))]):=by
 refine uE K0 42 [.tmp 4] Tryz.func130 rfl rfl rfl rfl ?_
 unfold NG at m
 refine vs (v0 (vs (v0 ?_)))
 obtain⟨_,Y4,m⟩:=aC m
 refine ve λu=>dB ((bC u [0] rfl rfl).1.trans (cV h [(fA g_p0 p0)] []).symm) (cK (ZU (hp h []) ok_p0 (cJ [(fA g_p0 p0)] [] (bC u [0] rfl rfl).2).2 p1B (λx0 o h0 hs ho=>p1H x0 o h0 ((aT (List.nil_sublist _) (cJ [(fA g_p0 p0)] [] (bC u [0] rfl rfl).2).1).1.trans hs) ho) Y4) rfl ZV rfl ?_)
 rintro x h' ⟨rfl,rfl⟩
 refine qk u ((cV h [(fA g_p0 p0)] []).trans (bC u [0] rfl rfl).1.symm) ?_
 refine vs (vs (v0 (v0 ?_)))
 apply vi m <;> intro c7 m
 refine vs (v0 (v0 ?_))
 obtain rfl:=eT m
 exact vr λu=>dW.one (.inl rfl) (aT (h0:=h) (L':= [(fA g_p0 p0)]) (.refl _) u).1 (bF.refl _ _) ⟨g_p0,ok_p0,(aT (h0:=h) (L':= [(fA g_p0 p0)]) (.refl _) u).2,rfl,rfl⟩
 refine v0 (vs (vs (v0 ?_)))
 refine nR m (σ:=(List aQ)×Int×Int) (τ:=cT) (λg s=> [(fA g s.1)]) (λg s=>bI g 3 (s.1:List aQ).length) (λg s=>.c 0 (aZ g) (.c 1 (.fn (.func p1F) p1C) (.c 5 (nZ s.2.1) (.c 6 (nZ s.2.2) .nil)))) g_p0 ok_p0 (lx (.k4 .nil)) ?_ ?_
 rintro ag0 ⟨q0,q1,q2⟩ x O0 m
 replace m:zD w p1 q0 q1 q2=some x:=m
 unfold zD at m
 refine vs (vs (v0 (bU (dQ pW O0 rfl) (v0 ?_))))
 apply vi m <;> intro c0 m
 refine v0 (vs (v0 (vs (v0 ?_))))
 obtain⟨x1,X0,m⟩:=aC m
 refine bU (cM X0 iM O0 rfl rfl) (vn (λu=>dX (fo:=0) (.agg (cP x1)) X0 fL O0 u7 rfl (aJ 0 u rfl) (λ_=>rfl)) ?_)
 refine ve λu=>bJ ([nZ 0,nZ 0,sZ]) u rL rfl rfl λk86 K1=>qk K1 rfl ?_
 refine ve λu=>aK 0 (cP x1) u rfl rfl rfl rfl GQ rfl rfl λK2=>qk K2 rfl ?_
 refine vs (v0 (vl 0 (.agg (cP x1)) u7 rfl rfl rfl ?_))
 obtain⟨_,Y0,m⟩:=aC m
 refine vn (λu=>bY (p1H _ _ _ (aT (List.nil_sublist _) u).1 Y0) rfl p1B rfl) ?_
 refine pO m (σ:=(List aQ)×Int) (τ:=cT) (λg s=> [(some k86,.obj 99 (cP x1)),(fA g s.1)]) (λg s=>bI g 3 (s.1:List aQ).length) (λg s=>.c 0 (aZ g) (.c 1 (.fn (.func p1F) p1C) (.c 5 (nZ s.2) (.c 6 (nZ q2) .nil)))) (λx m=> ?_) ?_
 refine v0 ?_
 apply vi m <;> intro c1 m
 refine vs (v0 (vl 0 (.agg (cP x1)) u7 rfl rfl rfl ?_))
 obtain⟨_,X1,m⟩:=aC m
 refine bU (cM X1 iM O0 rfl rfl) ?_
 refine ve λu=>cI (fo:=0) (x1:aQ) 1 u X1 fL O0 rfl rfl rfl rfl (cW.refl _ _) GQ rfl rfl λK3=>qk K3 rfl ?_
 refine v0 ?_
 exact eW m ag0 (bI.set O0) (lx (.k4 .nil))
 refine v0 ?_
 exact eW m ag0 O0 (lx (.k4 .nil))
 rintro ag1 ⟨j0,j1⟩ O1 m
 refine v0 ?_
 exact eW m ag1 O1 (lW [1] rfl rfl (.k4 .nil))
 refine v0 ?_
 exact lM m ag0 O0 (lx (.k4 .nil))
 rintro ag2 ⟨r0,r1,r2⟩ t0 m
 refine vs (v0 ?_)
 obtain⟨Z0,m⟩:=m0 m
 refine bU (CG Z0 iM t0 rfl rfl) ?_
 refine ve λu=>A4 0 u Z0 fL t0 u27 rL rfl rfl rfl rfl λsp0 O2 K4=>qk K4 rfl ?_
 refine vs (v0 ?_)
 obtain⟨Z1,m⟩:=m0 m
 refine bU (CH Z1 t0 iM rfl rfl) (v0 ?_)
 cases m
 exact vr λu=>dW.one (.inl rfl) (aT (h0:=h) (L':= [((⟨ag2.t,r1.toNat,ag2.cap,sp0⟩:cT).t,.obj 99 (fl cP (r0.take r1.toNat:List aQ) (⟨ag2.t,r1.toNat,ag2.cap,sp0⟩:cT).sp))]) (.refl _) u).1 (bF.refl _ _) ⟨(⟨ag2.t,r1.toNat,ag2.cap,sp0⟩:cT),O2,(aT (h0:=h) (L':= [((⟨ag2.t,r1.toNat,ag2.cap,sp0⟩:cT).t,.obj 99 (fl cP (r0.take r1.toNat:List aQ) (⟨ag2.t,r1.toNat,ag2.cap,sp0⟩:cT).sp))]) (.refl _) u).2,rfl,rfl⟩
theorem Z9:aO Tryz.prog 130=true:=by kernel_rfl
def HC (m:Nat) (p0:aA) (p1:aR) (q0:List aH) (q1:Int):Option (Lp ((List aH)×Int) (Int×fE)):=
 if (decide (q1 < (p0.Snaps.length:Int)))=true then ((ix q0 q1).bind λx0=>(E7 m x0.Locs p1).bind λy0=>(ix q0 q1).bind λx1=>some (.go (q0.set q1.toNat ({ x1 with Locs:=y0}),IntKind.wrap .i64 (q1+1)))) else some (.brk (q0,q1))
def HD (m:Nat) (p0:aA) (p1:aR) (q0:List aB) (q1:Int):Option (Lp ((List aB)×Int) (Int×fE)):=
 if (decide (q1 < (p0.Chunks.length:Int)))=true then ((ix q0 q1).bind λx0=>(E7 m x0.Locs p1).bind λy0=>(ix q0 q1).bind λx1=>some (.go (q0.set q1.toNat ({ x1 with Locs:=y0}),IntKind.wrap .i64 (q1+1)))) else some (.brk (q0,q1))
def HE (m:Nat) (p0:aA) (p1:aR) (q0:List aQ) (q1:Int):Option (Lp ((List aQ)×Int) (Int×fE)):=
 if (decide (q1 < (p0.Exps.length:Int)))=true then ((ix q0 q1).bind λx0=>(E7 m x0.Locs p1).bind λy0=>(ix q0 q1).bind λx1=>some (.go (q0.set q1.toNat ({ x1 with Locs:=y0}),IntKind.wrap .i64 (q1+1)))) else some (.brk (q0,q1))
def M75 (m:Nat) (p0:aA) (p1:aR):Option (Int×fE):=
 after (if (decide (p1.Vol < 0))=true then (some (.brk true)) else if (decide ((p0.Vols.length:Int)≤p1.Vol))=true then (some (.brk true)) else (ix p0.Vols p1.Vol).bind λx1=>some (.brk (x1.State !=2)):Option (Lp (Bool) (Int×fE))) λj0=>if j0=true then (some (1,p0.Snaps,p0.Chunks,p0.Exps,p0.Vols)) else (ix p0.Vols p1.Vol).bind λx2=>(ix (p0.Vols.set p1.Vol.toNat ({ x2 with State:=3})) p1.Vol).bind λx3=>after (aU (λs=>HC m p0 p1 s.1 s.2) m (p0.Snaps,0)) λ⟨r0,r1⟩=>after (aU (λs=>HD m p0 p1 s.1 s.2) m (p0.Chunks,0)) λ⟨r2,r3⟩=>after (aU (λs=>HE m p0 p1 s.1 s.2) m (p0.Exps,0)) λ⟨r4,r5⟩=>(NF m r2 (λx0=>UU m x0)).bind λy0=>(NG m r4 (λx0=>UV m x0)).bind λy1=>some (0,r0,y0,y1,(p0.Vols.set p1.Vol.toNat ({ x2 with State:=3})).set p1.Vol.toNat ({ x3 with Files:=0}))
theorem W75 {w:Nat} {p0:aA} {p1:aR} {o:Int×fE} (h:aE) {p0K:cB} {gS:dH} (ok_Snaps:mF aH.Locs 4 4 gS (p0.Snaps:List aH)) {gC:dH} (oC:mF aB.Locs 35 4 gC (p0.Chunks:List aB)) {gE:dH} (oE:mF aQ.Locs 3 4 gE (p0.Exps:List aQ)) {gV:cT} (oV:bI gV 4 p0.Vols.length) (K0:bT h ([OC p0K p0.Seq gS.a gC.a gE.a gV,bM gS p0.Snaps,aW gC p0.Chunks,bQ gE p0.Exps,aM gV p0.Vols]++((bP gS p0.Snaps)++((a9 gC p0.Chunks)++(bR gE p0.Exps))))) (m:M75 w p0 p1=some o):
 aL Tryz.prog 75 [.ptr p0K 0,.agg (aD p1)] (hp h ([OC p0K p0.Seq gS.a gC.a gE.a gV,bM gS p0.Snaps,aW gC p0.Chunks,bQ gE p0.Exps,aM gV p0.Vols]++((bP gS p0.Snaps)++((a9 gC p0.Chunks)++(bR gE p0.Exps))))) (λr h'=>∃g_Snaps':cT,bI g_Snaps' 4 (o.2.1:List aH).length∧∃g_Chunks':cT,bI g_Chunks' 35 (o.2.2.1:List aB).length∧∃g_Exps':cT,bI g_Exps' 3 (o.2.2.2.1:List aQ).length∧∃g_Vols':cT,bI g_Vols' 4 (o.2.2.2.2:List aP).length∧bT h [OC p0K p0.Seq g_Snaps' g_Chunks' g_Exps' g_Vols',bD g_Snaps' o.2.1,aV g_Chunks' o.2.2.1,bV g_Exps' o.2.2.2.1,aM g_Vols' o.2.2.2.2]∧r=nZ o.1∧h'=hp h [OC p0K p0.Seq g_Snaps' g_Chunks' g_Exps' g_Vols',bD g_Snaps' o.2.1,aV g_Chunks' o.2.2.1,bV g_Exps' o.2.2.2.1,aM g_Vols' o.2.2.2.2]):=by
 refine uE K0 145 [.tmp 4] Tryz.func75 rfl rfl rfl rfl ?_
 unfold M75 at m
 refine vs (v0 ?_)
 refine gY rfl rfl λk2 K3=> ?_
 refine vs (vs ?_)
 refine fN m (σ:=Bool) (λs=>([(some k2,.obj 62 (aD p1)),OC p0K p0.Seq gS.a gC.a gE.a gV,bM gS p0.Snaps,aW gC p0.Chunks,bQ gE p0.Exps,aM gV p0.Vols]++((bP gS p0.Snaps)++((a9 gC p0.Chunks)++(bR gE p0.Exps))))) (λs=>.c 0 (.ptr p0K 0) (.c 3 (.ptr k2 0) (.c 33 (.sc (.bool s)) .nil))) (λx m=> ?_) ?_
 refine v0 (wY (by kernel_rfl) (dN fI rfl rfl (vl 0 _ cF rfl rfl rfl ?_)))
 apply vi m <;> intro b0 m
 rw[b0]
 exact gU m
 rw[b0]
 refine dN fI rfl rfl (vl 0 _ cF rfl rfl rfl (jM rfl (dN fQ rfl rfl (vl 1 (aZ gV) gH rfl rfl rfl (bU (dQ sK oV rfl) ?_)))))
 apply vi m <;> intro b1 m
 rw[b1]
 exact gU m
 rw[b1]
 refine jM rfl (dN fQ rfl rfl (vl 1 (aZ gV) gH rfl rfl rfl (dN fI rfl rfl (vl 0 _ cF rfl rfl rfl ?_))))
 obtain⟨x1,X0,m⟩:=aC m
 refine bU (cM X0 jN oV rfl rfl) (bU (cU (bI.ne oV X0) m5 rfl rfl) (vn (λu=>dX (fo:=2) (nZ x1.State) X0 dY oV cF rfl (aJ 5 u rfl) (λ_=>rfl)) ?_))
 exact gU m
 rintro _ j0 m
 refine v0 ?_
 apply vi m <;> intro c0 m
 refine vs (v0 (v0 ?_))
 cases m
 refine CV (DR (L':=([(some k2,.obj 62 (aD p1)),OC p0K p0.Seq gS.a gC.a gE.a gV,bD gS.a p0.Snaps,aW gC p0.Chunks,bQ gE p0.Exps,aM gV p0.Vols]++((a9 gC p0.Chunks)++(bR gE p0.Exps)))) [[_], [_], [_], [_], [_], [_],_,_,_] rfl 2 6 eU qP ok_Snaps.k rfl rfl (by decide) rfl) ?_
 refine CV (DR (L':=([(some k2,.obj 62 (aD p1)),OC p0K p0.Seq gS.a gC.a gE.a gV,bD gS.a p0.Snaps,aV gC.a p0.Chunks,bQ gE p0.Exps,aM gV p0.Vols]++(bR gE p0.Exps))) [[_], [_], [_], [_], [_], [_],_,_] rfl 3 6 eU oB oC.k rfl rfl (by decide) rfl) ?_
 refine CV (DR (L':= [(some k2,.obj 62 (aD p1)),OC p0K p0.Seq gS.a gC.a gE.a gV,bD gS.a p0.Snaps,aV gC.a p0.Chunks,bV gE.a p0.Exps,aM gV p0.Vols]) [[_], [_], [_], [_], [_], [_],_] rfl 4 6 eU vQ oE.k rfl rfl (by decide) rfl) ?_
 exact vr λu=>dW.of1 (.inl rfl) (fT _ _ (.sc (.int _ _)) rfl) (bE u [1,2,3,4,5] rfl).2 (bF.refl _ _) ⟨gS.a,ok_Snaps.k.a,gC.a,oC.k.a,gE.a,oE.k.a,gV,oV,(bE u [1,2,3,4,5] rfl).1,rfl,rfl⟩
 refine v0 (vs (v0 ?_))
 refine vz [(1000000,some p0K,.obj 30 ([nZ p0.Seq,aZ gS.a,aZ gC.a,aZ gE.a,aZ gV])),(1000000,some k2,.obj 62 (aD p1))] mixed (λu=>⟨λ_=>aJ 1 u rfl,λ_=>aJ 0 u rfl,trivial⟩) λu=> ?_
 refine zP 0 rfl rfl ?_
 refine zN 1 rfl rfl ?_
 refine zF 2 rfl fQ rfl ?_
 refine zL 3 0 (aZ gV) rfl gH rfl rfl rfl ?_
 refine zF 4 rfl fI rfl ?_
 refine zL 5 1 (nZ p1.Vol) rfl cF rfl rfl rfl ?_
 refine zP 6 rfl rfl ?_
 refine zN 7 rfl rfl ?_
 refine zF 8 rfl fQ rfl ?_
 refine zL 9 0 (aZ gV) rfl gH rfl rfl rfl ?_
 refine zF 10 rfl fI rfl ?_
 refine zL 11 1 (nZ p1.Vol) rfl cF rfl rfl rfl ?_
 obtain⟨x2,X1,m⟩:=aC m
 refine zC 12 rfl (cM X1 jN oV rfl rfl) ?_
 refine zC 13 rfl (cU (bI.ne oV X1) m5 rfl rfl) ?_
 refine zE 14 rfl (cI (fo:=2) ({ x2 with State:=3}:aP) 5 u X1 dY oV rfl rfl rfl rfl (cW.refl _ _) zT rfl rfl λK1=>⟨⟨λ_=>aJ 1 K1 rfl,λ_=>aJ 0 K1 rfl,trivial⟩, ?_⟩)
 obtain⟨x3,X2,m⟩:=aC m
 refine zC 15 rfl (cM X2 jN (bI.set oV) rfl rfl) ?_
 refine zC 16 rfl (cU (bI.ne (bI.set oV) X2) pY rfl rfl) ?_
 refine zE 17 rfl (cI (fo:=3) ({ x3 with Files:=0}:aP) 5 K1 X2 dY (bI.set oV) rfl rfl rfl rfl (cW.refl _ _) zT rfl rfl λK2=>⟨⟨λ_=>aJ 1 K2 rfl,λ_=>aJ 0 K2 rfl,trivial⟩, ?_⟩)
 refine zX (qk (f:=S8 49 _ _ _ _ _ _ _ _ _ _ _ _ _ _ _ _ _) K2 rfl ?_)
 refine vs (v0 (vs (vs (v0 (jM rfl (dN dV rfl rfl (vl 1 (aZ gS.a) fM rfl rfl rfl (bU (dQ jZ ok_Snaps.k.a rfl) ?_))))))))
 refine nR m (σ:=(List aH)×Int) (τ:=dH) (λg s=>([(some k2,.obj 62 (aD p1)),OC p0K p0.Seq g.a gC.a gE.a gV,bM g s.1,aW gC p0.Chunks,bQ gE p0.Exps,aM gV ((p0.Vols.set p1.Vol.toNat ({ x2 with State:=3})).set p1.Vol.toNat ({ x3 with Files:=0}))]++((bP g s.1)++((a9 gC p0.Chunks)++(bR gE p0.Exps))))) (λg s=>mF aH.Locs 4 4 g (s.1:List aH)) (λg s=>.c 0 (.ptr p0K 0) (.c 5 (.fn (.func 126) [.ptr k2 0]) (.c 55 (nZ (p0.Snaps.length:Int)) (.c 56 (nZ s.2) .nil)))) gS ok_Snaps (lx (.k4 .nil)) ?_ ?_
 rintro ng0 ⟨q0,q1⟩ x O0 m
 replace m:HC w p0 p1 q0 q1=some x:=m
 unfold HC at m
 refine vs (v0 (vs (v0 ?_)))
 apply vi m <;> intro c1 m
 refine v0 (vs (v0 (vs (v0 (v0 ?_)))))
 refine vz [(1000000,some p0K,.obj 30 ([nZ p0.Seq,aZ ng0.a,aZ gC.a,aZ gE.a,aZ gV])),(17,ng0.a.t,.obj 60 (fl kT (zg (q0:List aH) ng0.gs) ng0.a.sp))] mixed (λu=>⟨λ_=>aJ 1 u rfl,λ_=>aJ 2 u rfl,trivial⟩) λu=> ?_
 refine zP 0 rfl rfl ?_
 refine zN 1 rfl rfl ?_
 refine zF 2 rfl dV rfl ?_
 refine zL 3 0 (aZ ng0.a) rfl fM rfl rfl rfl ?_
 refine zI 4 rfl rfl ?_
 refine zC 5 rfl (eY (.fn _ _) rfl) ?_
 refine zP 6 rfl rfl ?_
 refine zN 7 rfl rfl ?_
 refine zF 8 rfl dV rfl ?_
 refine zL 9 0 (aZ ng0.a) rfl fM rfl rfl rfl ?_
 refine zI 10 rfl rfl ?_
 obtain⟨x4,X3,m⟩:=aC m
 refine zC 11 rfl (cM (O0.k.ix X3) iU O0.k.z rfl rfl) ?_
 refine zC 12 rfl (cU (bI.ne O0.k.z (O0.k.ix X3)) jT rfl rfl) ?_
 obtain⟨gv0,hg0,ga0,gn0⟩:=O0.gx X3
 refine wL 13 rfl (λ_ _ hi hB=>fB (dX (fo:=3) (awO aN 4 (gx ng0.gs q1.toNat) x4.Locs) (O0.k.ix X3) kU O0.k.z eL rfl (fV.get 1 hi rfl (hB 17 (by kernel_rfl))) (λ_=>rfl)) (bF.of_eq (congrArg (λz=>awO aN 4 z x4.Locs) hg0))) ?_
 obtain⟨y0,Y0,m⟩:=aC m
 refine zE 14 rfl ?_
 have ho0:=qO (R:=([(some k2,.obj 62 (aD p1)),OC p0K p0.Seq ng0.a gC.a gE.a gV,bM ng0 q0,aW gC p0.Chunks,bQ gE p0.Exps,aM gV ((p0.Vols.set p1.Vol.toNat ({ x2 with State:=3})).set p1.Vol.toNat ({ x3 with Files:=0}))]++((kM 81 aN ((nl aH.Locs (zg (q0:List aH) ng0.gs)).eraseIdx q1.toNat))++((a9 gC p0.Chunks)++(bR gE p0.Exps))))) u [[_], [_], [_], [_], [_], [_],_,_,_] rfl 6 rfl gn0 rfl
 have ho1:=cJ [(eF gv0 x4.Locs)] _ ho0.2
 refine dB (ho0.1.trans (cV h [(eF gv0 x4.Locs)] _).symm) (cK (ND _ ga0 ho1.2 (bB 0 ho1.1 rfl) Y0) rfl NE rfl ?_)
 rintro x h' ⟨ag0,O1,K4,rfl,rfl⟩
 refine kW (cV h [fJ ag0 y0] _) ?_
 refine⟨⟨λ_=>aJ 2 (dI ho1.1 K4) rfl,λ_=>aJ 3 (dI ho1.1 K4) rfl,trivial⟩, ?_⟩
 obtain⟨x5,X4,m⟩:=aC m
 refine zC 15 rfl (cM (O0.k.ix X4) iU O0.k.z rfl rfl) ?_
 refine zC 16 rfl (cU (bI.ne O0.k.z (O0.k.ix X4)) jT rfl rfl) ?_
 refine zE 17 rfl (cI (fo:=3) (x':=(({ x5 with Locs:=y0}:aH),some ag0)) 3 (dI ho1.1 K4) (O0.k.ix X4) kU O0.k.z rfl rfl (bZ rfl) (cD (bW _ _ _) rfl) (cW.refl _ _) n5 rfl rfl ?_)
 intro K5
 have O2:=O0.setL (x':=({ x5 with Locs:=y0}:aH)) X4 ag0 O1
 have hr0:=tF (L':=(eF ag0 y0)::(([(some k2,.obj 62 (aD p1)),OC p0K p0.Seq ng0.a gC.a gE.a gV,(ng0.a.t,.obj 60 (fl kT (((zg (q0:List aH) ng0.gs)).set q1.toNat (({ x5 with Locs:=y0}:aH),some ag0)) ng0.a.sp)),aW gC p0.Chunks,bQ gE p0.Exps,aM gV ((p0.Vols.set p1.Vol.toNat ({ x2 with State:=3})).set p1.Vol.toNat ({ x3 with Files:=0}))]:HL)++((kM 81 aN ((nl aH.Locs (zg (q0:List aH) ng0.gs)).eraseIdx q1.toNat))++((a9 gC p0.Chunks)++(bR gE p0.Exps))))) K5 [[_], [_], [_], [_], [_], [_], [_],_,_,_] rfl [0,1,2,3,4,5,6,7,8,9] rfl rfl
 have hj0:=o0 (L':=([(some k2,.obj 62 (aD p1)),OC p0K p0.Seq ((⟨ng0.a,ng0.gs.set q1.toNat (some ag0)⟩:dH).a) gC.a gE.a gV,bM (⟨ng0.a,ng0.gs.set q1.toNat (some ag0)⟩:dH) (q0.set q1.toNat ({ x5 with Locs:=y0})),aW gC p0.Chunks,bQ gE p0.Exps,aM gV ((p0.Vols.set p1.Vol.toNat ({ x2 with State:=3})).set p1.Vol.toNat ({ x3 with Files:=0}))]++((bP (⟨ng0.a,ng0.gs.set q1.toNat (some ag0)⟩:dH) (q0.set q1.toNat ({ x5 with Locs:=y0})))++((a9 gC p0.Chunks)++(bR gE p0.Exps))))) [[_], [_], [_], [_], [_], [_],_,_,_] rfl 6 (zs:=nl aH.Locs (zg (q0:List aH) ng0.gs)) (j:=q1.toNat) (aH.Locs ({ x5 with Locs:=y0}:aH),some ag0) (jP (O0.k.nlat X4)) rfl hr0.2 (by rw[← (O0.k.setL (x':=({ x5 with Locs:=y0}:aH)) X4 ag0 O1).2.2,(O0.k.setL (x':=({ x5 with Locs:=y0}:aH)) X4 ag0 O1).2.1]; rfl)
 refine kW (hr0.1.trans hj0.1) ?_
 refine⟨⟨λ_=>aJ 1 hj0.2 rfl,λe=>absurd e (by decide),trivial⟩, ?_⟩
 refine zX (qk (f:=wM 75 _ _ _ _ _ _ _ _ _ _ _ _ _ _ _ _ _ _) hj0.2 rfl ?_)
 refine v0 ?_
 exact eW m (⟨ng0.a,ng0.gs.set q1.toNat (some ag0)⟩:dH) O2 (lx (.k4 .nil))
 refine v0 ?_
 exact lM m ng0 O0 (lx (.k4 .nil))
 rintro ng1 ⟨r0,r1⟩ t0 m
 refine vs (vs (v0 (jM rfl (dN dR rfl rfl (vl 1 (aZ gC.a) eJ rfl rfl rfl (bU (dQ iG oC.k.a rfl) ?_))))))
 refine nR m (σ:=(List aB)×Int) (τ:=dH) (λg s=>([(some k2,.obj 62 (aD p1)),OC p0K p0.Seq ng1.a g.a gE.a gV,bM ng1 r0,aW g s.1,bQ gE p0.Exps,aM gV ((p0.Vols.set p1.Vol.toNat ({ x2 with State:=3})).set p1.Vol.toNat ({ x3 with Files:=0}))]++((bP ng1 r0)++((a9 g s.1)++(bR gE p0.Exps))))) (λg s=>mF aB.Locs 35 4 g (s.1:List aB)) (λg s=>.c 0 (.ptr p0K 0) (.c 5 (.fn (.func 126) [.ptr k2 0]) (.c 81 (nZ (p0.Chunks.length:Int)) (.c 82 (nZ s.2) .nil)))) gC oC (lx (.k4 .nil)) ?_ ?_
 rintro ng2 ⟨q2,q3⟩ x O3 m
 replace m:HD w p0 p1 q2 q3=some x:=m
 unfold HD at m
 refine vs (v0 (vs (v0 ?_)))
 apply vi m <;> intro c2 m
 refine v0 (vs (v0 (vs (v0 (v0 ?_)))))
 refine vz [(1000000,some p0K,.obj 30 ([nZ p0.Seq,aZ ng1.a,aZ ng2.a,aZ gE.a,aZ gV])),(17,ng2.a.t,.obj 44 (fl jI (zg (q2:List aB) ng2.gs) ng2.a.sp))] mixed (λu=>⟨λ_=>aJ 1 u rfl,λ_=>aJ 3 u rfl,trivial⟩) λu=> ?_
 refine zP 0 rfl rfl ?_
 refine zN 1 rfl rfl ?_
 refine zF 2 rfl dR rfl ?_
 refine zL 3 0 (aZ ng2.a) rfl eJ rfl rfl rfl ?_
 refine zI 4 rfl rfl ?_
 refine zC 5 rfl (eY (.fn _ _) rfl) ?_
 refine zP 6 rfl rfl ?_
 refine zN 7 rfl rfl ?_
 refine zF 8 rfl dR rfl ?_
 refine zL 9 0 (aZ ng2.a) rfl eJ rfl rfl rfl ?_
 refine zI 10 rfl rfl ?_
 obtain⟨x6,X5,m⟩:=aC m
 refine zC 11 rfl (cM (O3.k.ix X5) fH O3.k.z rfl rfl) ?_
 refine zC 12 rfl (cU (bI.ne O3.k.z (O3.k.ix X5)) iV rfl rfl) ?_
 obtain⟨gv1,hg1,ga1,gn1⟩:=O3.gx X5
 refine wL 13 rfl (λ_ _ hi hB=>fB (dX (fo:=34) (awO aN 4 (gx ng2.gs q3.toNat) x6.Locs) (O3.k.ix X5) iP O3.k.z eL rfl (fV.get 1 hi rfl (hB 17 (by kernel_rfl))) (λ_=>rfl)) (bF.of_eq (congrArg (λz=>awO aN 4 z x6.Locs) hg1))) ?_
 obtain⟨y1,Y1,m⟩:=aC m
 refine zE 14 rfl ?_
 have ho2:=qO (R:=([(some k2,.obj 62 (aD p1)),OC p0K p0.Seq ng1.a ng2.a gE.a gV,bM ng1 r0,aW ng2 q2,bQ gE p0.Exps,aM gV ((p0.Vols.set p1.Vol.toNat ({ x2 with State:=3})).set p1.Vol.toNat ({ x3 with Files:=0}))]++((bP ng1 r0)++((kM 81 aN ((nl aB.Locs (zg (q2:List aB) ng2.gs)).eraseIdx q3.toNat))++(bR gE p0.Exps))))) u [[_], [_], [_], [_], [_], [_],_,_,_] rfl 7 rfl gn1 rfl
 have ho3:=cJ [(eF gv1 x6.Locs)] _ ho2.2
 refine dB (ho2.1.trans (cV h [(eF gv1 x6.Locs)] _).symm) (cK (ND _ ga1 ho3.2 (bB 0 ho3.1 rfl) Y1) rfl NE rfl ?_)
 rintro x h' ⟨ag1,O4,K6,rfl,rfl⟩
 refine kW (cV h [fJ ag1 y1] _) ?_
 refine⟨⟨λ_=>aJ 2 (dI ho3.1 K6) rfl,λ_=>aJ 4 (dI ho3.1 K6) rfl,trivial⟩, ?_⟩
 obtain⟨x7,X6,m⟩:=aC m
 refine zC 15 rfl (cM (O3.k.ix X6) fH O3.k.z rfl rfl) ?_
 refine zC 16 rfl (cU (bI.ne O3.k.z (O3.k.ix X6)) iV rfl rfl) ?_
 refine zE 17 rfl (cI (fo:=34) (x':=(({ x7 with Locs:=y1}:aB),some ag1)) 4 (dI ho3.1 K6) (O3.k.ix X6) iP O3.k.z rfl rfl (bZ rfl) (cD (bW _ _ _) rfl) (cW.refl _ _) n5 rfl rfl ?_)
 intro K7
 have O5:=O3.setL (x':=({ x7 with Locs:=y1}:aB)) X6 ag1 O4
 have hr1:=tF (L':=(eF ag1 y1)::(([(some k2,.obj 62 (aD p1)),OC p0K p0.Seq ng1.a ng2.a gE.a gV,bM ng1 r0,(ng2.a.t,.obj 44 (fl jI (((zg (q2:List aB) ng2.gs)).set q3.toNat (({ x7 with Locs:=y1}:aB),some ag1)) ng2.a.sp)),bQ gE p0.Exps,aM gV ((p0.Vols.set p1.Vol.toNat ({ x2 with State:=3})).set p1.Vol.toNat ({ x3 with Files:=0}))]:HL)++((bP ng1 r0)++((kM 81 aN ((nl aB.Locs (zg (q2:List aB) ng2.gs)).eraseIdx q3.toNat))++(bR gE p0.Exps))))) K7 [[_], [_], [_], [_], [_], [_], [_],_,_,_] rfl [0,1,2,3,4,5,6,7,8,9] rfl rfl
 have hj1:=o0 (L':=([(some k2,.obj 62 (aD p1)),OC p0K p0.Seq ng1.a ((⟨ng2.a,ng2.gs.set q3.toNat (some ag1)⟩:dH).a) gE.a gV,bM ng1 r0,aW (⟨ng2.a,ng2.gs.set q3.toNat (some ag1)⟩:dH) (q2.set q3.toNat ({ x7 with Locs:=y1})),bQ gE p0.Exps,aM gV ((p0.Vols.set p1.Vol.toNat ({ x2 with State:=3})).set p1.Vol.toNat ({ x3 with Files:=0}))]++((bP ng1 r0)++((a9 (⟨ng2.a,ng2.gs.set q3.toNat (some ag1)⟩:dH) (q2.set q3.toNat ({ x7 with Locs:=y1})))++(bR gE p0.Exps))))) [[_], [_], [_], [_], [_], [_],_,_,_] rfl 7 (zs:=nl aB.Locs (zg (q2:List aB) ng2.gs)) (j:=q3.toNat) (aB.Locs ({ x7 with Locs:=y1}:aB),some ag1) (jP (O3.k.nlat X6)) rfl hr1.2 (by rw[← (O3.k.setL (x':=({ x7 with Locs:=y1}:aB)) X6 ag1 O4).2.2,(O3.k.setL (x':=({ x7 with Locs:=y1}:aB)) X6 ag1 O4).2.1]; rfl)
 refine kW (hr1.1.trans hj1.1) ?_
 refine⟨⟨λ_=>aJ 1 hj1.2 rfl,λe=>absurd e (by decide),trivial⟩, ?_⟩
 refine zX (qk (f:=wM 101 _ _ _ _ _ _ _ _ _ _ _ _ _ _ _ _ _ _) hj1.2 rfl ?_)
 refine v0 ?_
 exact eW m (⟨ng2.a,ng2.gs.set q3.toNat (some ag1)⟩:dH) O5 (lx (.k4 .nil))
 refine v0 ?_
 exact lM m ng2 O3 (lx (.k4 .nil))
 rintro ng3 ⟨r2,r3⟩ t1 m
 refine vs (vs (v0 (jM rfl (dN e8 rfl rfl (vl 1 (aZ gE.a) jG rfl rfl rfl (bU (dQ pW oE.k.a rfl) ?_))))))
 refine nR m (σ:=(List aQ)×Int) (τ:=dH) (λg s=>([(some k2,.obj 62 (aD p1)),OC p0K p0.Seq ng1.a ng3.a g.a gV,bM ng1 r0,aW ng3 r2,bQ g s.1,aM gV ((p0.Vols.set p1.Vol.toNat ({ x2 with State:=3})).set p1.Vol.toNat ({ x3 with Files:=0}))]++((bP ng1 r0)++((a9 ng3 r2)++(bR g s.1))))) (λg s=>mF aQ.Locs 3 4 g (s.1:List aQ)) (λg s=>.c 0 (.ptr p0K 0) (.c 5 (.fn (.func 126) [.ptr k2 0]) (.c 107 (nZ (p0.Exps.length:Int)) (.c 108 (nZ s.2) .nil)))) gE oE (lx (.k4 .nil)) ?_ ?_
 rintro ng4 ⟨q4,q5⟩ x O6 m
 replace m:HE w p0 p1 q4 q5=some x:=m
 unfold HE at m
 refine vs (v0 (vs (v0 ?_)))
 apply vi m <;> intro c3 m
 refine v0 (vs (v0 (vs (v0 (v0 ?_)))))
 refine vz [(1000000,some p0K,.obj 30 ([nZ p0.Seq,aZ ng1.a,aZ ng3.a,aZ ng4.a,aZ gV])),(17,ng4.a.t,.obj 99 (fl lJ (zg (q4:List aQ) ng4.gs) ng4.a.sp))] mixed (λu=>⟨λ_=>aJ 1 u rfl,λ_=>aJ 4 u rfl,trivial⟩) λu=> ?_
 refine zP 0 rfl rfl ?_
 refine zN 1 rfl rfl ?_
 refine zF 2 rfl e8 rfl ?_
 refine zL 3 0 (aZ ng4.a) rfl jG rfl rfl rfl ?_
 refine zI 4 rfl rfl ?_
 refine zC 5 rfl (eY (.fn _ _) rfl) ?_
 refine zP 6 rfl rfl ?_
 refine zN 7 rfl rfl ?_
 refine zF 8 rfl e8 rfl ?_
 refine zL 9 0 (aZ ng4.a) rfl jG rfl rfl rfl ?_
 refine zI 10 rfl rfl ?_
 obtain⟨x8,X7,m⟩:=aC m
 refine zC 11 rfl (cM (O6.k.ix X7) iM O6.k.z rfl rfl) ?_
 refine zC 12 rfl (cU (bI.ne O6.k.z (O6.k.ix X7)) lF rfl rfl) ?_
 obtain⟨gv2,hg2,ga2,gn2⟩:=O6.gx X7
 refine wL 13 rfl (λ_ _ hi hB=>fB (dX (fo:=2) (awO aN 4 (gx ng4.gs q5.toNat) x8.Locs) (O6.k.ix X7) o6 O6.k.z eL rfl (fV.get 1 hi rfl (hB 17 (by kernel_rfl))) (λ_=>rfl)) (bF.of_eq (congrArg (λz=>awO aN 4 z x8.Locs) hg2))) ?_
 obtain⟨y2,Y2,m⟩:=aC m
 refine zE 14 rfl ?_
 have ho4:=qO (R:=([(some k2,.obj 62 (aD p1)),OC p0K p0.Seq ng1.a ng3.a ng4.a gV,bM ng1 r0,aW ng3 r2,bQ ng4 q4,aM gV ((p0.Vols.set p1.Vol.toNat ({ x2 with State:=3})).set p1.Vol.toNat ({ x3 with Files:=0}))]++((bP ng1 r0)++((a9 ng3 r2)++(kM 81 aN ((nl aQ.Locs (zg (q4:List aQ) ng4.gs)).eraseIdx q5.toNat)))))) u [[_], [_], [_], [_], [_], [_],_,_,_] rfl 8 rfl gn2 rfl
 have ho5:=cJ [(eF gv2 x8.Locs)] _ ho4.2
 refine dB (ho4.1.trans (cV h [(eF gv2 x8.Locs)] _).symm) (cK (ND _ ga2 ho5.2 (bB 0 ho5.1 rfl) Y2) rfl NE rfl ?_)
 rintro x h' ⟨ag2,O7,K8,rfl,rfl⟩
 refine kW (cV h [fJ ag2 y2] _) ?_
 refine⟨⟨λ_=>aJ 2 (dI ho5.1 K8) rfl,λ_=>aJ 5 (dI ho5.1 K8) rfl,trivial⟩, ?_⟩
 obtain⟨x9,X8,m⟩:=aC m
 refine zC 15 rfl (cM (O6.k.ix X8) iM O6.k.z rfl rfl) ?_
 refine zC 16 rfl (cU (bI.ne O6.k.z (O6.k.ix X8)) lF rfl rfl) ?_
 refine zE 17 rfl (cI (fo:=2) (x':=(({ x9 with Locs:=y2}:aQ),some ag2)) 5 (dI ho5.1 K8) (O6.k.ix X8) o6 O6.k.z rfl rfl (bZ rfl) (cD (bW _ _ _) rfl) (cW.refl _ _) n5 rfl rfl ?_)
 intro K9
 have O8:=O6.setL (x':=({ x9 with Locs:=y2}:aQ)) X8 ag2 O7
 have hr2:=tF (L':=(eF ag2 y2)::(([(some k2,.obj 62 (aD p1)),OC p0K p0.Seq ng1.a ng3.a ng4.a gV,bM ng1 r0,aW ng3 r2,(ng4.a.t,.obj 99 (fl lJ (((zg (q4:List aQ) ng4.gs)).set q5.toNat (({ x9 with Locs:=y2}:aQ),some ag2)) ng4.a.sp)),aM gV ((p0.Vols.set p1.Vol.toNat ({ x2 with State:=3})).set p1.Vol.toNat ({ x3 with Files:=0}))]:HL)++((bP ng1 r0)++((a9 ng3 r2)++(kM 81 aN ((nl aQ.Locs (zg (q4:List aQ) ng4.gs)).eraseIdx q5.toNat)))))) K9 [[_], [_], [_], [_], [_], [_], [_],_,_,_] rfl [0,1,2,3,4,5,6,7,8,9] rfl rfl
 have hj2:=o0 (L':=([(some k2,.obj 62 (aD p1)),OC p0K p0.Seq ng1.a ng3.a ((⟨ng4.a,ng4.gs.set q5.toNat (some ag2)⟩:dH).a) gV,bM ng1 r0,aW ng3 r2,bQ (⟨ng4.a,ng4.gs.set q5.toNat (some ag2)⟩:dH) (q4.set q5.toNat ({ x9 with Locs:=y2})),aM gV ((p0.Vols.set p1.Vol.toNat ({ x2 with State:=3})).set p1.Vol.toNat ({ x3 with Files:=0}))]++((bP ng1 r0)++((a9 ng3 r2)++(bR (⟨ng4.a,ng4.gs.set q5.toNat (some ag2)⟩:dH) (q4.set q5.toNat ({ x9 with Locs:=y2}))))))) [[_], [_], [_], [_], [_], [_],_,_,_] rfl 8 (zs:=nl aQ.Locs (zg (q4:List aQ) ng4.gs)) (j:=q5.toNat) (aQ.Locs ({ x9 with Locs:=y2}:aQ),some ag2) (jP (O6.k.nlat X8)) rfl hr2.2 (by rw[← (O6.k.setL (x':=({ x9 with Locs:=y2}:aQ)) X8 ag2 O7).2.2,(O6.k.setL (x':=({ x9 with Locs:=y2}:aQ)) X8 ag2 O7).2.1]; rfl)
 refine kW (hr2.1.trans hj2.1) ?_
 refine⟨⟨λ_=>aJ 1 hj2.2 rfl,λe=>absurd e (by decide),trivial⟩, ?_⟩
 refine zX (qk (f:=wM 127 _ _ _ _ _ _ _ _ _ _ _ _ _ _ _ _ _ _) hj2.2 rfl ?_)
 refine v0 ?_
 exact eW m (⟨ng4.a,ng4.gs.set q5.toNat (some ag2)⟩:dH) O8 (lx (.k4 .nil))
 refine v0 ?_
 exact lM m ng4 O6 (lx (.k4 .nil))
 rintro ng5 ⟨r4,r5⟩ t2 m
 refine vs (qK (DR (L':=([(some k2,.obj 62 (aD p1)),OC p0K p0.Seq ng1.a ng3.a ng5.a gV,bD ng1.a r0,aW ng3 r2,bQ ng5 r4,aM gV ((p0.Vols.set p1.Vol.toNat ({ x2 with State:=3})).set p1.Vol.toNat ({ x3 with Files:=0}))]++((a9 ng3 r2)++(bR ng5 r4)))) [[_], [_], [_], [_], [_], [_],_,_,_] rfl 2 6 eU qP t0.k rfl rfl (by decide) rfl) (qK (DR (L':=([(some k2,.obj 62 (aD p1)),OC p0K p0.Seq ng1.a ng3.a ng5.a gV,bD ng1.a r0,aV ng3.a r2,bQ ng5 r4,aM gV ((p0.Vols.set p1.Vol.toNat ({ x2 with State:=3})).set p1.Vol.toNat ({ x3 with Files:=0}))]++(bR ng5 r4))) [[_], [_], [_], [_], [_], [_],_,_] rfl 3 6 eU oB t1.k rfl rfl (by decide) rfl) (qK (DR (L':= [(some k2,.obj 62 (aD p1)),OC p0K p0.Seq ng1.a ng3.a ng5.a gV,bD ng1.a r0,aV ng3.a r2,bV ng5.a r4,aM gV ((p0.Vols.set p1.Vol.toNat ({ x2 with State:=3})).set p1.Vol.toNat ({ x3 with Files:=0}))]) [[_], [_], [_], [_], [_], [_],_] rfl 4 6 eU vQ t2.k rfl rfl (by decide) rfl) (v0 (jM rfl (dN dR rfl rfl (vl 1 (aZ ng3.a) eJ rfl rfl rfl ?_)))))))
 obtain⟨y3,Y3,m⟩:=aC m
 refine ve λu=>dB ((bC u [3,0,1,2,4,5] rfl rfl).1.trans (cV h [aV ng3.a r2] [(some k2,.obj 62 (aD p1)),OC p0K p0.Seq ng1.a ng3.a ng5.a gV,bD ng1.a r0,bV ng5.a r4,aM gV ((p0.Vols.set p1.Vol.toNat ({ x2 with State:=3})).set p1.Vol.toNat ({ x3 with Files:=0}))]).symm) (cK (ZY (hp h [(some k2,.obj 62 (aD p1)),OC p0K p0.Seq ng1.a ng3.a ng5.a gV,bD ng1.a r0,bV ng5.a r4,aM gV ((p0.Vols.set p1.Vol.toNat ({ x2 with State:=3})).set p1.Vol.toNat ({ x3 with Files:=0}))]) t1.k.a (cJ [aV ng3.a r2] [(some k2,.obj 62 (aD p1)),OC p0K p0.Seq ng1.a ng3.a ng5.a gV,bD ng1.a r0,bV ng5.a r4,aM gV ((p0.Vols.set p1.Vol.toNat ({ x2 with State:=3})).set p1.Vol.toNat ({ x3 with Files:=0}))] (bC u [3,0,1,2,4,5] rfl rfl).2).2 ZX (λx0 o h0 hs ho=>aFL _ ho) Y3) rfl ZZ rfl ?_)
 rintro x h' ⟨ag3,O9,K10,rfl,rfl⟩
 have K11:=bC (L':= [(some k2,.obj 62 (aD p1)),(hO p0K p0.Seq ng1.a ng3.a ng5.a gV),bD ng1.a r0,aV ag3 y3,bV ng5.a r4,aM gV ((p0.Vols.set p1.Vol.toNat ({ x2 with State:=3})).set p1.Vol.toNat ({ x3 with Files:=0}))]) (dI (cJ [aV ng3.a r2] [(some k2,.obj 62 (aD p1)),OC p0K p0.Seq ng1.a ng3.a ng5.a gV,bD ng1.a r0,bV ng5.a r4,aM gV ((p0.Vols.set p1.Vol.toNat ({ x2 with State:=3})).set p1.Vol.toNat ({ x3 with Files:=0}))] (bC u [3,0,1,2,4,5] rfl rfl).2).1 K10) [1,2,3,0,4,5] rfl rfl
 refine qk K11.2 ((cV h [aV ag3 y3] [(some k2,.obj 62 (aD p1)),OC p0K p0.Seq ng1.a ng3.a ng5.a gV,bD ng1.a r0,bV ng5.a r4,aM gV ((p0.Vols.set p1.Vol.toNat ({ x2 with State:=3})).set p1.Vol.toNat ({ x3 with Files:=0}))]).trans K11.1) ?_
 refine jM rfl (dN dR rfl rfl ?_)
 refine ve λu=>aK 1 ([nZ p0.Seq,aZ ng1.a,aZ ag3,aZ ng5.a,aZ gV]) u rfl rfl (bZ rfl) (cD (bW _ _ _) rfl) zY rfl rfl λK12=>qk K12 rfl ?_
 refine vs (v0 (jM rfl (dN e8 rfl rfl (vl 1 (aZ ng5.a) jG rfl rfl rfl ?_))))
 obtain⟨y4,Y4,m⟩:=aC m
 refine ve λu=>dB ((bC u [4,0,1,2,3,5] rfl rfl).1.trans (cV h [bV ng5.a r4] [(some k2,.obj 62 (aD p1)),OC p0K p0.Seq ng1.a ag3 ng5.a gV,bD ng1.a r0,aV ag3 y3,aM gV ((p0.Vols.set p1.Vol.toNat ({ x2 with State:=3})).set p1.Vol.toNat ({ x3 with Files:=0}))]).symm) (cK (Z8 (hp h [(some k2,.obj 62 (aD p1)),OC p0K p0.Seq ng1.a ag3 ng5.a gV,bD ng1.a r0,aV ag3 y3,aM gV ((p0.Vols.set p1.Vol.toNat ({ x2 with State:=3})).set p1.Vol.toNat ({ x3 with Files:=0}))]) t2.k.a (cJ [bV ng5.a r4] [(some k2,.obj 62 (aD p1)),OC p0K p0.Seq ng1.a ag3 ng5.a gV,bD ng1.a r0,aV ag3 y3,aM gV ((p0.Vols.set p1.Vol.toNat ({ x2 with State:=3})).set p1.Vol.toNat ({ x3 with Files:=0}))] (bC u [4,0,1,2,3,5] rfl rfl).2).2 Z7 (λx0 o h0 hs ho=>aFM _ ho) Y4) rfl Z9 rfl ?_)
 rintro x h' ⟨ag4,O10,K13,rfl,rfl⟩
 have K14:=bC (L':= [(some k2,.obj 62 (aD p1)),(hO p0K p0.Seq ng1.a ag3 ng5.a gV),bD ng1.a r0,aV ag3 y3,bV ag4 y4,aM gV ((p0.Vols.set p1.Vol.toNat ({ x2 with State:=3})).set p1.Vol.toNat ({ x3 with Files:=0}))]) (dI (cJ [bV ng5.a r4] [(some k2,.obj 62 (aD p1)),OC p0K p0.Seq ng1.a ag3 ng5.a gV,bD ng1.a r0,aV ag3 y3,aM gV ((p0.Vols.set p1.Vol.toNat ({ x2 with State:=3})).set p1.Vol.toNat ({ x3 with Files:=0}))] (bC u [4,0,1,2,3,5] rfl rfl).2).1 K13) [1,2,3,4,0,5] rfl rfl
 refine qk K14.2 ((cV h [bV ag4 y4] [(some k2,.obj 62 (aD p1)),OC p0K p0.Seq ng1.a ag3 ng5.a gV,bD ng1.a r0,aV ag3 y3,aM gV ((p0.Vols.set p1.Vol.toNat ({ x2 with State:=3})).set p1.Vol.toNat ({ x3 with Files:=0}))]).trans K14.1) ?_
 refine jM rfl (dN e8 rfl rfl ?_)
 refine ve λu=>aK 1 ([nZ p0.Seq,aZ ng1.a,aZ ag3,aZ ag4,aZ gV]) u rfl rfl (bZ rfl) (cD (bW _ _ _) rfl) JP rfl rfl λK15=>qk K15 rfl ?_
 refine vs (v0 (v0 ?_))
 cases m
 exact vr λu=>dW.of1 (.inl rfl) (fT _ _ (.sc (.int _ _)) rfl) (bE u [1,2,3,4,5] rfl).2 (bF.refl _ _) ⟨ng1.a,t0.k.a,ag3,O9,ag4,O10,gV,(bI.set (bI.set oV)),(bE u [1,2,3,4,5] rfl).1,rfl,rfl⟩
theorem aFO:aO Tryz.prog 75=true:=by kernel_rfl
open Go.Vm
def QI (m:Nat) (p0:List bO):Option (List bO):=app [] p0
theorem aFP {w:Nat} {p0:List bO} {o:List bO} (h:aE) (m:QI w p0=some o):
 aL Tryz.prog 170 [.sl none 32 (List.map bL p0)] h (λr h'=>∃t,(t=none→o= [])∧bT h [(t,.tok 36 32 (o.length*32))]∧r=ow t 32 (List.map bL o)∧h'=hp h [(t,.tok 36 32 (o.length*32))]):=by
 refine jL 8 [.tmp 2] Tryz.func170 rfl rfl rfl rfl ?_
 unfold QI at m
 refine gX λK1 H1=>eH (rV (iC (.sc (.slice _ _ _)) rfl) (fS (H1 _ _ (gX λK1 H1=>gX λK2 H2=>eH (vE rfl (lP (kH rfl (by rw[yE]; rfl) (by rw[bN]; exact rfl) (.inl ⟨_,_,_,rfl,λb hb=> ?_⟩))))))))
 refine fS (H2 _ _ (nN rfl (λhc=> ?_) (λhc=> ?_)))
 have h0:p0= []:=by
   cases p0 with
   | nil=>rfl
   | cons x l=>have:=hb (by simp); rw[this] at hc; cases hc
 subst h0
 obtain⟨rfl, -⟩:=jC m
 exact gX λK1 H1=>eH (rV (iC (.sc (.slice _ _ _)) rfl) (fS (H1 _ _ (iR (dW.one (.inl rfl) (iD.refl _) (jD _ _) ⟨none,λ_=>rfl,bT.none (bT.nil _),rfl,rfl⟩)))))
 exact mH (H1 _ _ (gX λK1 H1=>eH (lP (LG (c:=bL) (bT.nil _) CM λu=>vE rfl (lP (fF (c:=bL) 0 m CM rfl rfl rfl (λ_=>rfl) u rfl λtg ot u=>rV (iC (ow _ _ _) rfl) (fS (H1 _ _ (iR (dW.one (.inl rfl) (iD.refl _) (bF.refl _ _) ⟨tg,ot,u,rfl,rfl⟩))))))))))
theorem aAA:aO Tryz.prog 170=true:=by kernel_rfl
def IL (m:Nat) (p0:List dJ):Option (List dJ):=app [] p0
theorem aAB {w:Nat} {p0:List dJ} {o:List dJ} (h:aE) (m:IL w p0=some o):
 aL Tryz.prog 169 [.sl none 3 (List.map bX p0)] h (λr h'=>∃g:cT,bI g 3 o.length∧bT h [(g.t,.obj 70 (fl bX o g.sp))]∧r=aZ g∧h'=hp h [(g.t,.obj 70 (fl bX o g.sp))]):=by
 refine jL 8 [.tmp 2] Tryz.func169 rfl rfl rfl rfl ?_
 unfold IL at m
 refine gX λK1 H1=>eH (rV (iC (.sc (.slice _ _ _)) rfl) (fS (H1 _ _ (gX λK1 H1=>gX λK2 H2=>eH (vE rfl (lP (kH rfl (by rw[rJ]; rfl) (by rw[bN]; exact rfl) (.inl ⟨_,_,_,rfl,λb hb=> ?_⟩))))))))
 refine fS (H2 _ _ (nN rfl (λhc=> ?_) (λhc=> ?_)))
 have h0:p0= []:=by
   cases p0 with
   | nil=>rfl
   | cons x l=>have:=hb (by simp); rw[this] at hc; cases hc
 subst h0
 obtain⟨rfl, -⟩:=jC m
 exact gX λK1 H1=>eH (rV (iC (.sc (.slice _ _ _)) rfl) (fS (H1 _ _ (iR (dW.one (.inl rfl) (iD.refl _) (f9 _) ⟨g0,bI.g0 _,bT.none (bT.nil _),rfl,rfl⟩)))))
 exact mH (H1 _ _ (gX λK1 H1=>eH (lP (qL (c:=bX) (bT.nil _) JS λu=>vE rfl (lP (gD (c:=bX) 0 m JS rfl GP rfl wX rfl rfl (bI.g0 _) u rfl λg ok u=>rV (iC (aw _ _ _) rfl) (fS (H1 _ _ (iR (dW.one (.inl rfl) (iD.refl _) (bF.refl _ _) ⟨g,ok,u,rfl,rfl⟩))))))))))
theorem aAC:aO Tryz.prog 169=true:=by kernel_rfl
def tK (m:Nat) (y9:(List dJ)) (q0:List dJ) (q1:Int):Option (Lp ((List dJ)×Int) (bG)):=
 if (decide (q1 < (y9.length:Int)))=true then ((ix q0 q1).bind λx0=>(QI m x0.Ids).bind λy0=>(ix q0 q1).bind λx1=>some (.go (q0.set q1.toNat ({ x1 with Ids:=y0}),IntKind.wrap .i64 (q1+1)))) else some (.brk (q0,q1))
def J9 (m:Nat) (p0:bG):Option (bG):=
 (IL m p0.Parts).bind λy9=>after (aU (λs=>tK m y9 s.1 s.2) m (y9,0)) λ⟨r0,r1⟩=>some ({ Name:=p0.Name,Parts:=r0}:bG)
theorem aAD {w:Nat} {p0:bG} {o:bG} (h:aE) (m:J9 w p0=some o):
 aL Tryz.prog 115 [.agg (bK p0)] h (λr h'=>r= .agg (bK o)∧h'=h):=by
 refine f8 28 [.cell 2 58] Tryz.func115 rfl rfl rfl rfl ?_
 unfold J9 at m
 refine vs (v0 (gY rfl rfl λk2 K3=>ve λu=>bJ ([.sc (.string ByteArray.empty),sZ]) u LV rfl rfl λk5 K6=>qk K6 rfl (vs (v0 (dN yD rfl rfl (vl 1 _ nF rfl rfl rfl ?_))))))
 obtain⟨y9,Y0,m⟩:=aC m
 refine ve λu=>cK (aAB _ Y0) rfl aAC rfl ?_
 rintro x h' ⟨ag0,O0,K0,rfl,rfl⟩
 refine qk (bT.co u K0) (iS _ _ _) (dN yD rfl rfl (ve λu=>aK 2 ([.sc (.string p0.Name),aZ ag0]) u rfl rfl (bZ rfl) (cD (bW _ _ _) rfl) TE rfl rfl λK1=>qk K1 rfl (vs (vs (v0 (dN yD rfl rfl (vl 2 (aZ ag0) nF rfl rfl rfl (bU (dQ uX O0 rfl) (nR m (σ:=(List dJ)×Int) (τ:=cT) (λg s=> [(g.t,.obj 70 (fl bX (s.1:List dJ) g.sp)),(some k5,.obj 58 ([.sc (.string ByteArray.empty),sZ])),(some k2,.obj 58 ([.sc (.string p0.Name),aZ g]))]) (λg s=>bI g 3 (s.1:List dJ).length) (λg s=>.c 1 (.ptr k2 0) (.c 2 (.ptr k5 0) (.c 10 (nZ (y9.length:Int)) (.c 11 (nZ s.2) .nil)))) ag0 O0 (lx (.k4 .nil)) ?_ ?_)))))))))
 rintro ag1 ⟨q0,q1⟩ x O1 m
 replace m:tK w y9 q0 q1=some x:=m
 unfold tK at m
 refine vs (v0 (vs (v0 ?_)))
 apply vi m <;> intro c0 m
 refine v0 (vs (v0 (vs (v0 (v0 (vz [(1000000,some k2,.obj 58 ([.sc (.string p0.Name),aZ ag1])),(12,ag1.t,.obj 70 (fl bX (q0:List dJ) ag1.sp))] mixed (λu=>⟨λ_=>aJ 2 u rfl,λ_=>aJ 0 u rfl,trivial⟩) λu=>zF 0 rfl yD rfl (zL 1 0 (aZ ag1) rfl nF rfl rfl rfl (zI 2 rfl rfl (zF 3 rfl yD rfl (zL 4 0 (aZ ag1) rfl nF rfl rfl rfl (zI 5 rfl rfl ?_)))))))))))
 obtain⟨x0,X0,m⟩:=aC m
 refine zC 6 rfl (cM X0 rJ O1 rfl rfl) (zC 7 rfl (cU (bI.ne O1 X0) LZ rfl rfl) (wL 8 rfl (λ_ _ hi hB=>dX (fo:=2) (.sl none 32 (List.map bL x0.Ids)) X0 wX O1 u6 rfl (fV.get 1 hi rfl (hB 12 (by kernel_rfl))) (λ_=>rfl)) ?_))
 obtain⟨y0,Y1,m⟩:=aC m
 refine zE 9 rfl (cK (aFP _ Y1) rfl aAA rfl ?_)
 rintro x h' ⟨tg0,t0,K2,rfl,rfl⟩
 rw[iS]
 refine⟨⟨λ_=>aJ 3 (bT.co u K2) rfl,λ_=>aJ 1 (bT.co u K2) rfl,trivial⟩, ?_⟩
 obtain⟨x1,X1,m⟩:=aC m
 refine zC 10 rfl (cM X1 rJ O1 rfl rfl) (zC 11 rfl (cU (bI.ne O1 X1) LZ rfl rfl) (zE 12 rfl (xY (s:=23) (.sl none 32 (List.map bL y0)) (aT (.cons _ (.refl _)) (bT.co u K2)).1 (Fz.ale (aT (.cons _ (.refl _)) (bT.co u K2)).1 (mZ _ 0 t0 (bT.co u K2) rfl (.refl _))) (cI (fo:=2) ({ x1 with Ids:=y0}:dJ) 0 ((aT (.cons _ (.refl _)) (bT.co u K2)).2) X1 wX O1 rfl rfl rfl rfl (cW.refl _ _) TP rfl rfl λK4=>⟨⟨λ_=>aJ 2 K4 rfl,λe=>absurd e (by decide),trivial⟩, ?_⟩))))
 exact zX (qk (f:=GD 25 _ _ _ _ _ _ _ _ _ _ _ _ _) K4 rfl (v0 (eW m ag1 (bI.set O1) (lx (.k4 .nil)))))
 exact v0 (lM m ag1 O1 (lx (.k4 .nil)))
 rintro ag2 ⟨r0,r1⟩ t1 m
 refine vs (v0 (vl 2 (.agg ([.sc (.string p0.Name),aZ ag2])) nU rfl rfl rfl (ve λu=>aK 1 ([.sc (.string p0.Name),aZ ag2]) u rfl rfl rfl (by repeat (first | exact rfl | refine cD (iL _ _ _) ?_ | refine cD (bW _ _ _) ?_ | refine cD (gJ _ _ _ _) ?_ | refine cD rfl ?_)) zZ rfl rfl λK5=>qk K5 rfl ?_)))
 refine v0 ?_
 cases m
 refine vrl λu=> ?_
 obtain⟨K7,le0⟩:=i7.fzO (n:=28) (f:=_) 0 0 ([.sc (.string p0.Name),.sl none 3 (List.map bX r0)]) u rfl (.cons (Fz.refl _ _ _) (.cons (Fz.aw 0 wX t1 u rfl (.refl _)) .nil))
 exact ON.mk le0 (dW.of1 (.inl rfl) (qW (.agg (bK ({ Name:=p0.Name,Parts:=r0}:bG))) nU rfl (bB 0 K7 rfl) rfl) (aT (List.nil_sublist _) K7).1 (bF.refl _ _) ⟨rfl,rfl⟩)
theorem SA:aO Tryz.prog 115=true:=by kernel_rfl
def UW (m:Nat) (p0:aB):Option (Bool):=
 after (if (!p0.Staged)=true then (some (.brk true)) else some (.brk (decide (0 < (p0.Locs.length:Int)))):Option (Lp (Bool) (Bool))) λj7=>some j7
theorem aFQ {u:Nat} {p0:aB} {o:Bool} (h:aE) (m:UW u p0=some o):
 aL Tryz.prog 168 [.agg (aI p0)] h (λr h'=>r= .sc (.bool o)∧h'=h):=by
 refine f8 12 [.tmp 2] Tryz.func168 rfl rfl rfl rfl ?_
 unfold UW at m
 refine v (gY rfl rfl λk2 K3=>vs (fN m (σ:=Bool) (λs=> [(some k2,.obj 44 (aI p0))]) (λs=>.c 2 (.sc (.bool s)) .nil) (λx m=> ?_) ?_))
 refine v (vl 0 _ yC rfl rfl rfl ?_)
 apply vi m <;> intro b8 m
 rw[b8]
 exact iX m
 rw[b8]
 exact vl 0 _ eL rfl rfl rfl (dE gO rfl (iX m))
 rintro _ j7 m
 refine v ?_
 obtain rfl:=eT m
 exact eD rfl
theorem aAE:aO Tryz.prog 168=true:=by kernel_rfl
def QJ (m:Nat) (p0:List aB) (p1:aB→Option Bool):Option (Bool):=
 (M53 m p0 p1).bind λy3=>some (decide (0≤y3))
theorem aAF {w:Nat} {p0:List aB} {p1:aB→Option Bool} {o:Bool} (h:aE) {p1F:Nat} {p1C:List AV} (p1B:aO Tryz.prog p1F=true) (p1H:∀x0 o h0,iD h h0→p1 x0=some o→aL Tryz.prog p1F ([.agg (aI x0)]++p1C) h0 (λr h'=>r= .sc (.bool o)∧h'=h0)) (m:QJ w p0 p1=some o):
 aL Tryz.prog 159 [.sl none 35 (List.map aI p0),.fn (.func p1F) p1C] h (λr h'=>r= .sc (.bool o)∧h'=h):=by
 refine f8 9 [.tmp 4] Tryz.func159 rfl rfl rfl rfl ?_
 unfold QJ at m
 refine v (v ?_)
 obtain⟨_,Y4,m⟩:=aC m
 refine vn (λu=>bY (W53 _ p1B (λx0 o h0 hs ho=>p1H x0 o h0 ((aT (List.nil_sublist _) u).1.trans hs) ho) Y4) rfl YG rfl) (v ?_)
 cases m
 exact eD rfl
theorem SB:aO Tryz.prog 159=true:=by kernel_rfl
def QL (m:Nat) (p0:List aB):Option (Bool):=
 (QJ m p0 (λx0=>UW m x0)).bind λy3=>some (!y3)
theorem aAG {u:Nat} {p0:List aB} {o:Bool} (h:aE) (m:QL u p0=some o):
 aL Tryz.prog 114 [.sl none 35 (List.map aI p0)] h (λr h'=>r= .sc (.bool o)∧h'=h):=by
 refine f8 6 [.tmp 2] Tryz.func114 rfl rfl rfl rfl ?_
 unfold QL at m
 refine v (v ?_)
 obtain⟨_,Y4,m⟩:=aC m
 refine bU (bY (aAF _ aAE (λ_ o h0 hs ho=>aFQ _ ho) Y4) rfl SB rfl) (v ?_)
 cases m
 exact eD rfl
theorem SC:aO Tryz.prog 114=true:=by kernel_rfl
def HF (m:Nat) (p1:aR) (q0:List aB) (q1:Int):Option (Lp ((List aB)×Int) (Int×Int×(List aH)×(List aB))):=
 if (decide (q1 < (p1.Chunks.length:Int)))=true then ((ix p1.Chunks q1).bind λx0=>(wQ m q0 x0.Id).bind λy0=>after (if (!y0.2)=true then ((pM q0 y0.1 (({ Id:=x0.Id,Staged:=false,Data:= [],Locs:= []}:aB):aB)).bind λy1=>some (.brk y1)) else some (.brk q0):Option (Lp ((List aB)) (Lp ((List aB)×Int) (Int×Int×(List aH)×(List aB))))) λj0=>(TV m x0.Data).bind λy2=>(ix j0 y0.1).bind λx1=>(ix (j0.set y0.1.toNat ({ x1 with Staged:=true})) y0.1).bind λx2=>some (.go ((j0.set y0.1.toNat ({ x1 with Staged:=true})).set y0.1.toNat ({ x2 with Data:=y2}),IntKind.wrap .i64 (q1+1)))) else some (.brk (q0,q1))
def M72 (m:Nat) (p0:aA) (p1:aR):Option (Int×Int×(List aH)×(List aB)):=
 after (if (p1.Snap.Seq !=p0.Seq)=true then (some (.brk true)) else if (decide (0 < (p1.Snap.Locs.length:Int)))=true then (some (.brk true)) else (QL m p1.Chunks).bind λy0=>some (.brk (!y0)):Option (Lp (Bool) (Int×Int×(List aH)×(List aB)))) λj0=>if j0=true then (some (1,p0.Seq,p0.Snaps,p0.Chunks)) else (M46 m ({ Seq:=p0.Seq,Snaps:=p0.Snaps,Chunks:=p0.Chunks,Exps:=p0.Exps,Vols:=p0.Vols}:aA) p1.Snap.Man.Name).bind λy1=>if (decide (0≤y1))=true then (some (9,p0.Seq,p0.Snaps,p0.Chunks)) else (J9 m p1.Snap.Man).bind λy2=>(app p0.Snaps ([({ Seq:=p1.Snap.Seq,Man:=y2,Locs:= []}:aH)]:List aH)).bind λz0=>after (aU (λs=>HF m p1 s.1 s.2) m (p0.Chunks,0)) λ⟨r0,r1⟩=>some (0,IntKind.wrap .i64 (p0.Seq+1),z0,r0)
theorem W72 {w:Nat} {p0:aA} {p1:aR} {o:Int×Int×(List aH)×(List aB)} (h:aE) {p0K:cB} {gS:cT} (ok_Snaps:bI gS 4 p0.Snaps.length) {gC:cT} (oC:bI gC 35 p0.Chunks.length) {gE:cT} (oE:bI gE 3 p0.Exps.length) {gV:cT} (oV:bI gV 4 p0.Vols.length) (K0:bT h [OC p0K p0.Seq gS gC gE gV,bD gS p0.Snaps,aV gC p0.Chunks,bV gE p0.Exps,aM gV p0.Vols]) (m:M72 w p0 p1=some o):
 aL Tryz.prog 72 [.ptr p0K 0,.agg (aD p1)] (hp h [OC p0K p0.Seq gS gC gE gV,bD gS p0.Snaps,aV gC p0.Chunks,bV gE p0.Exps,aM gV p0.Vols]) (λr h'=>∃g_Snaps':cT,bI g_Snaps' 4 (o.2.2.1:List aH).length∧∃g_Chunks':cT,bI g_Chunks' 35 (o.2.2.2:List aB).length∧bT h [OC p0K o.2.1 g_Snaps' g_Chunks' gE gV,bD g_Snaps' o.2.2.1,aV g_Chunks' o.2.2.2,bV gE p0.Exps,aM gV p0.Vols]∧r=nZ o.1∧h'=hp h [OC p0K o.2.1 g_Snaps' g_Chunks' gE gV,bD g_Snaps' o.2.2.1,aV g_Chunks' o.2.2.2,bV gE p0.Exps,aM gV p0.Vols]):=by
 refine uE K0 115 [.tmp 4] Tryz.func72 rfl rfl rfl rfl ?_
 unfold M72 at m
 refine vs (v0 (gY rfl rfl λk2 K3=>vs (v0 (vs (fN m (σ:=Bool) (λs=> [(some k2,.obj 62 (aD p1)),OC p0K p0.Seq gS gC gE gV,bD gS p0.Snaps,aV gC p0.Chunks,bV gE p0.Exps,aM gV p0.Vols]) (λs=>.c 0 (.ptr p0K 0) (.c 3 (.ptr k2 0) (.c 9 (.sc (.bool s)) .nil))) (λx m=> ?_) ?_)))))
 refine v0 (wY (by kernel_rfl) (dN lE rfl rfl (dN uZ rfl rfl (vl 0 _ cF rfl rfl rfl (jM rfl (dN nS rfl rfl (vl 1 _ cF rfl rfl rfl ?_)))))))
 apply vi m <;> intro b0 m
 rw[b0]
 exact gU m
 rw[b0]
 refine dN lE rfl rfl (dN jT rfl rfl (vl 0 _ eL rfl rfl rfl (dE gO rfl ?_)))
 apply vi m <;> intro b1 m
 rw[b1]
 exact gU m
 rw[b1]
 exact dN m6 rfl rfl (vl 0 _ eJ rfl rfl rfl (vk aAG SC m rfl rfl λ_ m=>gU m))
 rintro _ j0 m
 refine v0 ?_
 apply vi m <;> intro c0 m
 refine vs (v0 (v0 ?_))
 cases m
 exact vr λu=>dW.of1 (.inl rfl) (fT _ _ (.sc (.int _ _)) rfl) (bE u [1,2,3,4,5] rfl).2 (bF.refl _ _) ⟨gS,ok_Snaps,gC,oC,(bE u [1,2,3,4,5] rfl).1,rfl,rfl⟩
 refine vs (v0 (wY (by kernel_rfl) (jM rfl (vl 1 (.agg ([nZ p0.Seq,aZ gS,aZ gC,aZ gE,aZ gV])) fC rfl rfl rfl (dN lE rfl rfl (dN oQ rfl rfl (dN LU rfl rfl (vl 0 _ zU rfl rfl rfl ?_))))))))
 obtain⟨_,Y0,m⟩:=aC m
 refine vn (λu=>bY (fG (.cons (Br.agg (.cons (Br.refl _ _) (.cons (Br.aw 2 eI ok_Snaps u rfl) (.cons (Br.aw 3 cO oC u rfl) (.cons (Br.aw 4 fL oE u rfl) (.cons (Br.aw 5 dY oV u rfl) .nil)))))) (.cons (Br.refl _ _) .nil)) rfl (W46 _ Y0)) rfl aD2 rfl) (v0 ?_)
 apply vi m <;> intro c1 m
 refine vs (v0 (v0 ?_))
 cases m
 exact vr λu=>dW.of1 (.inl rfl) (fT _ _ (.sc (.int _ _)) rfl) (bE u [1,2,3,4,5] rfl).2 (bF.refl _ _) ⟨gS,ok_Snaps,gC,oC,(bE u [1,2,3,4,5] rfl).1,rfl,rfl⟩
 refine v0 (vs (v0 (jM rfl (dN nS rfl rfl (vl 1 _ cF rfl rfl rfl (jM rfl (dN nS rfl rfl (ve λu=>aK 1 ([nZ (IntKind.wrap .i64 (p0.Seq+1)),aZ gS,aZ gC,aZ gE,aZ gV]) u rfl rfl rfl rfl zT rfl rfl λK1=>qk K1 rfl (vs (v0 (vz [(17,some p0K,.obj 30 ([nZ (IntKind.wrap .i64 (p0.Seq+1)),aZ gS,aZ gC,aZ gE,aZ gV])),(1000000,some k2,.obj 62 (aD p1))] mixed (λu=>⟨λ_=>aJ 1 u rfl,λ_=>aJ 0 u rfl,trivial⟩) λu=>zP 0 rfl rfl (zP 1 rfl rfl (zN 2 rfl rfl (zF 3 rfl dV rfl (zL 4 0 (aZ gS) rfl fM rfl rfl rfl (zF 5 rfl lE rfl (zF 6 rfl uZ rfl (zL 7 1 (nZ p1.Snap.Seq) rfl cF rfl rfl rfl (zF 8 rfl lE rfl (zF 9 rfl oQ rfl (zL 10 1 (.agg (bK p1.Snap.Man)) rfl nU rfl rfl rfl ?_)))))))))))))))))))))
 obtain⟨y0,Y1,m⟩:=aC m
 refine zC 11 rfl (bY (aAD _ Y1) rfl SA rfl) (zC 12 rfl (fB (y:=.agg (bS ({ Seq:=p1.Snap.Seq,Man:=y0,Locs:= []}:aH))) (eS (([nZ p1.Snap.Seq]:List AV)++bK y0++([sZ]:List AV)) TF rfl) (bF.agg (.cons (bF.refl _ _) (cW.app 2 rfl (.cons (aX _) .nil))))) (zC 13 rfl (eK (List.map bS ([({ Seq:=p1.Snap.Seq,Man:=y0,Locs:= []}:aH)]:List aH)) wN rfl rfl rfl rfl) ?_))
 obtain⟨z0,Z0,m⟩:=aC m
 refine zE 14 rfl (gD (c:=bS) 2 Z0 wN rfl u0 rfl eI rfl rfl ok_Snaps u rfl λag0 O0 K2=>⟨⟨λ_=>aJ 1 K2 rfl,λ_=>aJ 0 K2 rfl,trivial⟩, ?_⟩)
 refine zN 15 rfl rfl (zF 16 rfl dV rfl (zE 17 rfl (aK 1 ([nZ (IntKind.wrap .i64 (p0.Seq+1)),aZ ag0,aZ gC,aZ gE,aZ gV]) K2 rfl rfl (bZ rfl) (cD (bW _ _ _) rfl) GI rfl rfl λK4=>⟨⟨λe=>absurd e (by decide),λ_=>aJ 0 K4 rfl,trivial⟩, ?_⟩)))
 refine zX (qk (f:=wM 64 _ _ _ _ _ _ _ _ _ _ _ _ _ _ _ _ _ _) K4 rfl (vs (vs (v0 (dN m6 rfl rfl (vl 0 _ eJ rfl rfl rfl (dE iG rfl (nR m (σ:=(List aB)×Int) (τ:=cT) (λg s=> [(some k2,.obj 62 (aD p1)),OC p0K (IntKind.wrap .i64 (p0.Seq+1)) ag0 g gE gV,bD ag0 z0,aV g s.1,bV gE p0.Exps,aM gV p0.Vols]) (λg s=>bI g 35 (s.1:List aB).length) (λg s=>.c 0 (.ptr p0K 0) (.c 66 (.sl none 35 (List.map aI p1.Chunks)) (.c 67 (nZ (p1.Chunks.length:Int)) (.c 68 (nZ s.2) .nil)))) gC oC (lx (.k4 .nil)) ?_ ?_))))))))
 rintro ag1 ⟨q0,q1⟩ x O1 m
 replace m:HF w p1 q0 q1=some x:=m
 unfold HF at m
 refine vs (v0 (vs (v0 ?_)))
 apply vi m <;> intro c2 m
 refine v0 (vs (v0 (vs (v0 (vx m fH rfl rfl λx0 _ m=>va (.agg (aI x0)) kQ rfl rfl (ve λu=>bJ (bL jW++(FN:List AV)) u l6 rfl rfl λk228 K5=>qk K5 rfl (ve λu=>aK 0 (aI x0) u rfl rfl rfl rfl rI rfl rfl λK6=>qk K6 rfl (vs (v0 (wY (by kernel_rfl) (jM rfl (dN dR rfl rfl (vl 2 (aZ ag1) eJ rfl rfl rfl (dN nT rfl rfl (vl 0 (.agg (bL x0.Id)) fW rfl rfl rfl ?_)))))))))))))))
 obtain⟨y1,Y2,m⟩:=aC m
 refine vn (λu=>bY (fG (.cons (Br.aw 4 cO O1 u rfl) (.cons (Br.refl _ _) .nil)) rfl (P2 _ Y2)) rfl IA rfl) (vs (vs (v0 (pO m (σ:=(List aB)) (τ:=cT) (λg s=> [(some k228,.obj 44 (aI x0)),(some k2,.obj 62 (aD p1)),OC p0K (IntKind.wrap .i64 (p0.Seq+1)) ag0 g gE gV,bD ag0 z0,aV g s,bV gE p0.Exps,aM gV p0.Vols]) (λg s=>bI g 35 (s:List aB).length) (λg s=>.c 0 (.ptr p0K 0) (.c 6 (.ptr k228 0) (.c 7 (nZ y1.1) (.c 66 (.sl none 35 (List.map aI p1.Chunks)) (.c 67 (nZ (p1.Chunks.length:Int)) (.c 68 (nZ q1) .nil)))))) (λx m=> ?_) ?_))))
 refine v0 ?_
 apply vi m <;> intro c3 m
 refine v0 (vz [(13,some p0K,.obj 30 ([nZ (IntKind.wrap .i64 (p0.Seq+1)),aZ ag0,aZ ag1,aZ gE,aZ gV])),(1000000,some k228,.obj 44 (aI x0))] mixed (λu=>⟨λ_=>aJ 2 u rfl,λ_=>aJ 0 u rfl,trivial⟩) λu=>zP 0 rfl rfl (zP 1 rfl rfl (zN 2 rfl rfl (zF 3 rfl dR rfl (zL 4 0 (aZ ag1) rfl eJ rfl rfl rfl (zI 5 rfl rfl (zF 6 rfl nT rfl (zL 7 1 (.agg (bL x0.Id)) rfl fW rfl rfl rfl (zC 8 rfl (fB (y:=.agg (aI ({ Id:=x0.Id,Staged:=false,Data:= [],Locs:= []}:aB))) (eS (bL x0.Id++(FN:List AV)) W2 rfl) (bF.agg (cW.app 32 rfl (.cons (bF.refl _ _) (.cons (aX _) (.cons (aX _) .nil)))))) (zC 9 rfl (eK (List.map aI ([({ Id:=x0.Id,Staged:=false,Data:= [],Locs:= []}:aB)]:List aB)) lR rfl rfl rfl rfl) ?_))))))))))
 obtain⟨y2,Y3,m⟩:=aC m
 refine zE 10 rfl ?_
 have ho0:=mD (A:= [aV ag1 q0]) (R:= [(some k228,.obj 44 (aI x0)),(some k2,.obj 62 (aD p1)),OC p0K (IntKind.wrap .i64 (p0.Seq+1)) ag0 ag1 gE gV,bD ag0 z0,bV gE p0.Exps,aM gV p0.Vols]) u [[_], [_], [_], [_], [_], [_], [_]] rfl [4] [0,1,2,3,5,6] rfl rfl rfl
 refine dB ho0.1 (cK (aFD cO _ O1 ho0.2.2 Y3) rfl ZM rfl ?_)
 rintro x h' ⟨ag2,O2,K7,rfl,rfl⟩
 have K8:=mE (L':= [(some k228,.obj 44 (aI x0)),(some k2,.obj 62 (aD p1)),(hO p0K (IntKind.wrap .i64 (p0.Seq+1)) ag0 ag1 gE gV),bD ag0 z0,aV ag2 y2,bV gE p0.Exps,aM gV p0.Vols]) ho0.2.1 K7 [[_]] [[_], [_], [_], [_], [_], [_]] rfl rfl [1,2,3,4,0,5,6] rfl rfl
 refine kW K8.1 (⟨⟨λ_=>aJ 2 K8.2 rfl,λ_=>aJ 0 K8.2 rfl,trivial⟩, ?_⟩)
 refine zN 11 rfl rfl (zF 12 rfl dR rfl (zE 13 rfl (aK 2 ([nZ (IntKind.wrap .i64 (p0.Seq+1)),aZ ag0,aZ ag2,aZ gE,aZ gV]) K8.2 rfl rfl (bZ rfl) (cD (bW _ _ _) rfl) zY rfl rfl λK9=>⟨⟨λe=>absurd e (by decide),λ_=>aJ 0 K9 rfl,trivial⟩, ?_⟩)))
 exact zX (qk (f:=S6 96 _ _ _ _ _ _ _ _ _ _ _ _ _ _) K9 rfl (eW m ag2 O2 (lx (.k6 .nil))))
 exact v0 (eW m ag1 O1 (lx (.k6 .nil)))
 rintro ag3 j1 O3 m
 refine v0 (vz [(1000000,some p0K,.obj 30 ([nZ (IntKind.wrap .i64 (p0.Seq+1)),aZ ag0,aZ ag3,aZ gE,aZ gV])),(1000000,some k228,.obj 44 (aI x0))] mixed (λu=>⟨λ_=>aJ 2 u rfl,λ_=>aJ 0 u rfl,trivial⟩) λu=>zP 0 rfl rfl (zN 1 rfl rfl (zF 2 rfl dR rfl (zL 3 0 (aZ ag3) rfl eJ rfl rfl rfl (zI 4 rfl rfl (zP 5 rfl rfl (zN 6 rfl rfl (zF 7 rfl dR rfl (zL 8 0 (aZ ag3) rfl eJ rfl rfl rfl (zI 9 rfl rfl (zF 10 rfl jS rfl (zL 11 1 (.sl none 1 (List.map dF x0.Data)) rfl kA rfl rfl rfl ?_))))))))))))
 obtain⟨y3,Y4,m⟩:=aC m
 refine zE 12 rfl (cK (W96 _ Y4) rfl P1 rfl ?_)
 rintro x h' ⟨tg0,t0,K10,rfl,rfl⟩
 rw[iS]
 refine⟨⟨λ_=>aJ 3 (bT.co u K10) rfl,λ_=>aJ 1 (bT.co u K10) rfl,trivial⟩, ?_⟩
 obtain⟨x1,X0,m⟩:=aC m
 refine zC 13 rfl (cM X0 fH O3 rfl rfl) (zC 14 rfl (cU (bI.ne O3 X0) oP rfl rfl) (zE 15 rfl (cI (fo:=32) ({ x1 with Staged:=true}:aB) 5 (bT.co u K10) X0 cO O3 rfl rfl rfl rfl (cW.refl _ _) V3 rfl rfl λK11=>⟨⟨λ_=>aJ 3 K11 rfl,λ_=>aJ 1 K11 rfl,trivial⟩, ?_⟩)))
 obtain⟨x2,X1,m⟩:=aC m
 refine zC 16 rfl (cM X1 fH (bI.set O3) rfl rfl) (zC 17 rfl (cU (bI.ne (bI.set O3) X1) jS rfl rfl) (zE 18 rfl (xY (s:=109) (.sl none 1 (List.map dF y3)) (aT (.cons _ (.refl _)) K11).1 (Fz.ale (aT (.cons _ (.refl _)) K11).1 (mZ _ 0 t0 K11 rfl (.refl _))) (cI (fo:=33) ({ x2 with Data:=y3}:aB) 4 ((aT (.cons _ (.refl _)) K11).2) X1 cO (bI.set O3) rfl rfl rfl rfl (cW.refl _ _) CJ rfl rfl λK12=>⟨⟨λ_=>aJ 2 K12 rfl,λ_=>aJ 0 K12 rfl,trivial⟩, ?_⟩))))
 exact zX (qk (f:=wM 113 _ _ _ _ _ _ _ _ _ _ _ _ _ _ _ _ _ _) K12 rfl (v0 (eW m ag3 (bI.set (bI.set O3)) (lW [1,2,3,4,5,6] rfl rfl (.k4 .nil)))))
 exact v0 (lM m ag1 O1 (lx (.k4 .nil)))
 rintro ag4 ⟨r0,r1⟩ t1 m
 refine vs (v0 (v0 ?_))
 cases m
 exact vr λu=>dW.of1 (.inl rfl) (fT _ _ (.sc (.int _ _)) rfl) (bE u [1,2,3,4,5] rfl).2 (bF.refl _ _) ⟨ag0,O0,ag4,t1,(bE u [1,2,3,4,5] rfl).1,rfl,rfl⟩
theorem aFS:aO Tryz.prog 72=true:=by kernel_rfl
open Go.Vm
def IM (m:Nat) (p0:List aH):Option (List aH):=app [] p0
theorem aAH {w:Nat} {p0:List aH} {o:List aH} (h:aE) (m:IM w p0=some o):
 aL Tryz.prog 132 [.sl none 4 (List.map bS p0)] h (λr h'=>∃g:cT,bI g 4 o.length∧bT h [(g.t,.obj 60 (fl bS o g.sp))]∧r=aZ g∧h'=hp h [(g.t,.obj 60 (fl bS o g.sp))]):=by
 refine jL 8 [.tmp 2] Tryz.func132 rfl rfl rfl rfl ?_
 unfold IM at m
 refine gX λK1 H1=>eH (rV (iC (.sc (.slice _ _ _)) rfl) (fS (H1 _ _ (gX λK1 H1=>gX λK2 H2=>eH (vE rfl (lP (kH rfl (by rw[iU]; rfl) (by rw[bN]; exact rfl) (.inl ⟨_,_,_,rfl,λb hb=> ?_⟩))))))))
 refine fS (H2 _ _ (nN rfl (λhc=> ?_) (λhc=> ?_)))
 have h0:p0= []:=by
   cases p0 with
   | nil=>rfl
   | cons x l=>have:=hb (by simp); rw[this] at hc; cases hc
 subst h0
 obtain⟨rfl, -⟩:=jC m
 exact gX λK1 H1=>eH (rV (iC (.sc (.slice _ _ _)) rfl) (fS (H1 _ _ (iR (dW.one (.inl rfl) (iD.refl _) (f9 _) ⟨g0,bI.g0 _,bT.none (bT.nil _),rfl,rfl⟩)))))
 exact mH (H1 _ _ (gX λK1 H1=>eH (lP (qL (c:=bS) (bT.nil _) wN λu=>vE rfl (lP (gD (c:=bS) 0 m wN rfl u0 rfl eI rfl rfl (bI.g0 _) u rfl λg ok u=>rV (iC (aw _ _ _) rfl) (fS (H1 _ _ (iR (dW.one (.inl rfl) (iD.refl _) (bF.refl _ _) ⟨g,ok,u,rfl,rfl⟩))))))))))
theorem aAI:aO Tryz.prog 132=true:=by kernel_rfl
def IN (m:Nat) (p0:List aB):Option (List aB):=app [] p0
theorem aAJ {w:Nat} {p0:List aB} {o:List aB} (h:aE) (m:IN w p0=some o):
 aL Tryz.prog 133 [.sl none 35 (List.map aI p0)] h (λr h'=>∃g:cT,bI g 35 o.length∧bT h [(g.t,.obj 44 (fl aI o g.sp))]∧r=aZ g∧h'=hp h [(g.t,.obj 44 (fl aI o g.sp))]):=by
 refine jL 8 [.tmp 2] Tryz.func133 rfl rfl rfl rfl ?_
 unfold IN at m
 refine gX λK1 H1=>eH (rV (iC (.sc (.slice _ _ _)) rfl) (fS (H1 _ _ (gX λK1 H1=>gX λK2 H2=>eH (vE rfl (lP (kH rfl (by rw[fH]; rfl) (by rw[bN]; exact rfl) (.inl ⟨_,_,_,rfl,λb hb=> ?_⟩))))))))
 refine fS (H2 _ _ (nN rfl (λhc=> ?_) (λhc=> ?_)))
 have h0:p0= []:=by
   cases p0 with
   | nil=>rfl
   | cons x l=>have:=hb (by simp); rw[this] at hc; cases hc
 subst h0
 obtain⟨rfl, -⟩:=jC m
 exact gX λK1 H1=>eH (rV (iC (.sc (.slice _ _ _)) rfl) (fS (H1 _ _ (iR (dW.one (.inl rfl) (iD.refl _) (f9 _) ⟨g0,bI.g0 _,bT.none (bT.nil _),rfl,rfl⟩)))))
 exact mH (H1 _ _ (gX λK1 H1=>eH (lP (qL (c:=aI) (bT.nil _) lR λu=>vE rfl (lP (gD (c:=aI) 0 m lR rfl l6 rfl cO rfl rfl (bI.g0 _) u rfl λg ok u=>rV (iC (aw _ _ _) rfl) (fS (H1 _ _ (iR (dW.one (.inl rfl) (iD.refl _) (bF.refl _ _) ⟨g,ok,u,rfl,rfl⟩))))))))))
theorem aAK:aO Tryz.prog 133=true:=by kernel_rfl
def IP (m:Nat) (p0:List aQ):Option (List aQ):=app [] p0
theorem aAL {w:Nat} {p0:List aQ} {o:List aQ} (h:aE) (m:IP w p0=some o):
 aL Tryz.prog 134 [.sl none 3 (List.map cP p0)] h (λr h'=>∃g:cT,bI g 3 o.length∧bT h [(g.t,.obj 99 (fl cP o g.sp))]∧r=aZ g∧h'=hp h [(g.t,.obj 99 (fl cP o g.sp))]):=by
 refine jL 8 [.tmp 2] Tryz.func134 rfl rfl rfl rfl ?_
 unfold IP at m
 refine gX λK1 H1=>eH (rV (iC (.sc (.slice _ _ _)) rfl) (fS (H1 _ _ (gX λK1 H1=>gX λK2 H2=>eH (vE rfl (lP (kH rfl (by rw[iM]; rfl) (by rw[bN]; exact rfl) (.inl ⟨_,_,_,rfl,λb hb=> ?_⟩))))))))
 refine fS (H2 _ _ (nN rfl (λhc=> ?_) (λhc=> ?_)))
 have h0:p0= []:=by
   cases p0 with
   | nil=>rfl
   | cons x l=>have:=hb (by simp); rw[this] at hc; cases hc
 subst h0
 obtain⟨rfl, -⟩:=jC m
 exact gX λK1 H1=>eH (rV (iC (.sc (.slice _ _ _)) rfl) (fS (H1 _ _ (iR (dW.one (.inl rfl) (iD.refl _) (f9 _) ⟨g0,bI.g0 _,bT.none (bT.nil _),rfl,rfl⟩)))))
 exact mH (H1 _ _ (gX λK1 H1=>eH (lP (qL (c:=cP) (bT.nil _) pH λu=>vE rfl (lP (gD (c:=cP) 0 m pH rfl rL rfl fL rfl rfl (bI.g0 _) u rfl λg ok u=>rV (iC (aw _ _ _) rfl) (fS (H1 _ _ (iR (dW.one (.inl rfl) (iD.refl _) (bF.refl _ _) ⟨g,ok,u,rfl,rfl⟩))))))))))
theorem aAM:aO Tryz.prog 134=true:=by kernel_rfl
def IQ (m:Nat) (p0:List aP):Option (List aP):=app [] p0
theorem aAN {w:Nat} {p0:List aP} {o:List aP} (h:aE) (m:IQ w p0=some o):
 aL Tryz.prog 135 [.sl none 4 (List.map dC p0)] h (λr h'=>∃g:cT,bI g 4 o.length∧bT h [(g.t,.obj 49 (fl dC o g.sp))]∧r=aZ g∧h'=hp h [(g.t,.obj 49 (fl dC o g.sp))]):=by
 refine jL 8 [.tmp 2] Tryz.func135 rfl rfl rfl rfl ?_
 unfold IQ at m
 refine gX λK1 H1=>eH (rV (iC (.sc (.slice _ _ _)) rfl) (fS (H1 _ _ (gX λK1 H1=>gX λK2 H2=>eH (vE rfl (lP (kH rfl (by rw[jN]; rfl) (by rw[bN]; exact rfl) (.inl ⟨_,_,_,rfl,λb hb=> ?_⟩))))))))
 refine fS (H2 _ _ (nN rfl (λhc=> ?_) (λhc=> ?_)))
 have h0:p0= []:=by
   cases p0 with
   | nil=>rfl
   | cons x l=>have:=hb (by simp); rw[this] at hc; cases hc
 subst h0
 obtain⟨rfl, -⟩:=jC m
 exact gX λK1 H1=>eH (rV (iC (.sc (.slice _ _ _)) rfl) (fS (H1 _ _ (iR (dW.one (.inl rfl) (iD.refl _) (f9 _) ⟨g0,bI.g0 _,bT.none (bT.nil _),rfl,rfl⟩)))))
 exact mH (H1 _ _ (gX λK1 H1=>eH (lP (qL (c:=dC) (bT.nil _) GJ λu=>vE rfl (lP (gD (c:=dC) 0 m GJ rfl PW rfl dY rfl rfl (bI.g0 _) u rfl λg ok u=>rV (iC (aw _ _ _) rfl) (fS (H1 _ _ (iR (dW.one (.inl rfl) (iD.refl _) (bF.refl _ _) ⟨g,ok,u,rfl,rfl⟩))))))))))
theorem aAO:aO Tryz.prog 135=true:=by kernel_rfl
def tL (m:Nat) (y0:(List aH)) (q0:List aH) (q1:Int):Option (Lp ((List aH)×Int) (aA)):=
 if (decide (q1 < (y0.length:Int)))=true then ((ix q0 q1).bind λx0=>(J9 m x0.Man).bind λy1=>(EX m x0.Locs).bind λy2=>some (.go ((q0.set q1.toNat ({ x0 with Man:=y1})).set q1.toNat ({ ({ x0 with Man:=y1}:aH) with Locs:=y2}),IntKind.wrap .i64 (q1+1)))) else some (.brk (q0,q1))
def tM (m:Nat) (y0:(List aB)) (q0:List aB) (q1:Int):Option (Lp ((List aB)×Int) (aA)):=
 if (decide (q1 < (y0.length:Int)))=true then ((ix q0 q1).bind λx0=>(TV m x0.Data).bind λy1=>(EX m x0.Locs).bind λy2=>some (.go ((q0.set q1.toNat ({ x0 with Data:=y1})).set q1.toNat ({ ({ x0 with Data:=y1}:aB) with Locs:=y2}),IntKind.wrap .i64 (q1+1)))) else some (.brk (q0,q1))
def tN (m:Nat) (y0:(List aQ)) (q0:List aQ) (q1:Int):Option (Lp ((List aQ)×Int) (aA)):=
 if (decide (q1 < (y0.length:Int)))=true then ((ix q0 q1).bind λx0=>(EX m x0.Locs).bind λy1=>(ix q0 q1).bind λx1=>some (.go (q0.set q1.toNat ({ x1 with Locs:=y1}),IntKind.wrap .i64 (q1+1)))) else some (.brk (q0,q1))
def NH (m:Nat) (p0:aA):Option (aA):=
 (IM m p0.Snaps).bind λy0=>(IN m p0.Chunks).bind λy1=>(IP m p0.Exps).bind λy2=>(IQ m p0.Vols).bind λy3=>after (aU (λs=>tL m y0 s.1 s.2) m (y0,0)) λ⟨r0,r1⟩=>after (aU (λs=>tM m y1 s.1 s.2) m (y1,0)) λ⟨r2,r3⟩=>after (aU (λs=>tN m y2 s.1 s.2) m (y2,0)) λ⟨r4,r5⟩=>some ({ Seq:=p0.Seq,Snaps:=r0,Chunks:=r2,Exps:=r4,Vols:=y3}:aA)
theorem aFT {w:Nat} {p0:aA} {o:aA} (h:aE) (m:NH w p0=some o):
 aL Tryz.prog 77 [.agg (aF p0)] h (λr h'=>∃gS:dH,mF aH.Locs 4 4 gS (o.Snaps:List aH)∧∃gC:dH,mF aB.Locs 35 4 gC (o.Chunks:List aB)∧∃gE:dH,mF aQ.Locs 3 4 gE (o.Exps:List aQ)∧∃gV:cT,bI gV 4 o.Vols.length∧bT h ([bM gS o.Snaps,aW gC o.Chunks,bQ gE o.Exps,aM gV o.Vols]++((bP gS o.Snaps)++((a9 gC o.Chunks)++(bR gE o.Exps))))∧r= .agg ([nZ o.Seq,aZ gS.a,aZ gC.a,aZ gE.a,aZ gV])∧h'=hp h ([bM gS o.Snaps,aW gC o.Chunks,bQ gE o.Exps,aM gV o.Vols]++((bP gS o.Snaps)++((a9 gC o.Chunks)++(bR gE o.Exps))))):=by
 refine f8 98 [.cell 2 30] Tryz.func77 rfl rfl rfl rfl ?_
 unfold NH at m
 refine vs (v0 (gY rfl rfl λk2 K3=>ve λu=>bJ (hH) u pX rfl rfl λk5 K6=>qk K6 rfl (vs (v0 (vz [(13,some k2,.obj 30 (aF p0))] mixed (λu=>⟨λ_=>aJ 1 u rfl,trivial⟩) λu=>zF 0 rfl dV rfl (zL 1 0 (.sl none 4 (List.map bS p0.Snaps)) rfl fM rfl rfl rfl (zF 3 rfl dR rfl (zL 4 0 (.sl none 35 (List.map aI p0.Chunks)) rfl eJ rfl rfl rfl (zF 6 rfl e8 rfl (zL 7 0 (.sl none 3 (List.map cP p0.Exps)) rfl jG rfl rfl rfl (zF 9 rfl fQ rfl (zL 10 0 (.sl none 4 (List.map dC p0.Vols)) rfl gH rfl rfl rfl ?_))))))))))))
 obtain⟨y0,Y0,m⟩:=aC m
 refine zE 2 rfl (cK (aAH _ Y0) rfl aAI rfl ?_)
 rintro x h' ⟨ag0,O0,K0,rfl,rfl⟩
 rw[iS]
 refine⟨⟨λ_=>aJ 2 (bT.co u K0) rfl,trivial⟩, ?_⟩
 refine zF 12 rfl dV rfl ?_
 obtain⟨y1,Y1,m⟩:=aC m
 refine zE 5 rfl (cK (aAJ _ Y1) rfl aAK rfl ?_)
 rintro x h' ⟨ag1,O1,K1,rfl,rfl⟩
 rw[iS]
 refine⟨⟨λ_=>aJ 3 (bT.co (bT.co u K0) K1) rfl,trivial⟩, ?_⟩
 obtain⟨y2,Y2,m⟩:=aC m
 refine zE 8 rfl (cK (aAL _ Y2) rfl aAM rfl ?_)
 rintro x h' ⟨ag2,O2,K2,rfl,rfl⟩
 rw[iS]
 refine⟨⟨λ_=>aJ 4 (bT.co (bT.co (bT.co u K0) K1) K2) rfl,trivial⟩, ?_⟩
 obtain⟨y3,Y3,m⟩:=aC m
 refine zE 11 rfl (cK (aAN _ Y3) rfl aAO rfl ?_)
 rintro x h' ⟨ag3,O3,K4,rfl,rfl⟩
 rw[iS]
 refine⟨⟨λ_=>aJ 5 (bT.co (bT.co (bT.co (bT.co u K0) K1) K2) K4) rfl,trivial⟩, ?_⟩
 refine zE 13 rfl (aK 5 ([nZ p0.Seq,aZ ag0,.sl none 35 (List.map aI p0.Chunks),.sl none 3 (List.map cP p0.Exps),.sl none 4 (List.map dC p0.Vols)]) (bT.co (bT.co (bT.co (bT.co u K0) K1) K2) K4) rfl rfl (bZ rfl) (cD (bW _ _ _) rfl) GI rfl rfl λK5=>⟨⟨λe=>absurd e (by decide),trivial⟩, ?_⟩)
 refine zF 14 rfl dR rfl (zE 15 rfl (aK 5 ([nZ p0.Seq,aZ ag0,aZ ag1,.sl none 3 (List.map cP p0.Exps),.sl none 4 (List.map dC p0.Vols)]) K5 rfl rfl (bZ rfl) (cD (bW _ _ _) rfl) zY rfl rfl λK7=>⟨⟨λe=>absurd e (by decide),trivial⟩, ?_⟩))
 refine zF 16 rfl e8 rfl (zE 17 rfl (aK 5 ([nZ p0.Seq,aZ ag0,aZ ag1,aZ ag2,.sl none 4 (List.map dC p0.Vols)]) K7 rfl rfl (bZ rfl) (cD (bW _ _ _) rfl) JP rfl rfl λK8=>⟨⟨λe=>absurd e (by decide),trivial⟩, ?_⟩))
 refine zF 18 rfl fQ rfl (zE 19 rfl (aK 5 ([nZ p0.Seq,aZ ag0,aZ ag1,aZ ag2,aZ ag3]) K8 rfl rfl (bZ rfl) (cD (bW _ _ _) rfl) PU rfl rfl λK9=>⟨⟨λe=>absurd e (by decide),trivial⟩, ?_⟩))
 refine zX (qk (f:=.c 23 _ (.c 22 _ (.c 21 _ (.c 19 _ (.c 16 _ (.c 13 _ (.c 20 _ (.c 10 _ (.c 18 _ (.c 17 _ (.c 15 _ (.c 14 _ (.c 12 _ (.c 11 _ (.c 9 _ (.c 8 _ _)))))))))))))))) K9 rfl (vs (vs (qK (toN (L':=([aM ag3 y3,bQ (⟨ag2,List.replicate (y2:List aQ).length none⟩:dH) y2,aV ag1 y1,bD ag0 y0,(some k5,.obj 30 (hH)),OC k2 p0.Seq ag0 ag1 ((⟨ag2,List.replicate (y2:List aQ).length none⟩:dH).a) ag3]++(bR (⟨ag2,List.replicate (y2:List aQ).length none⟩:dH) y2))) (λ_=>rfl) [[_], [_], [_], [_], [_], [_]] rfl 1 rfl rfl) (qK (toN (L':=([aM ag3 y3,bQ (⟨ag2,List.replicate (y2:List aQ).length none⟩:dH) y2,aW (⟨ag1,List.replicate (y1:List aB).length none⟩:dH) y1,bD ag0 y0,(some k5,.obj 30 (hH)),OC k2 p0.Seq ag0 ((⟨ag1,List.replicate (y1:List aB).length none⟩:dH).a) ((⟨ag2,List.replicate (y2:List aQ).length none⟩:dH).a) ag3]++((bR (⟨ag2,List.replicate (y2:List aQ).length none⟩:dH) y2)++(a9 (⟨ag1,List.replicate (y1:List aB).length none⟩:dH) y1)))) (λ_=>rfl) [[_], [_], [_], [_], [_], [_],_] rfl 2 rfl rfl) (qK (toN (L':=([aM ag3 y3,bQ (⟨ag2,List.replicate (y2:List aQ).length none⟩:dH) y2,aW (⟨ag1,List.replicate (y1:List aB).length none⟩:dH) y1,bM (⟨ag0,List.replicate (y0:List aH).length none⟩:dH) y0,(some k5,.obj 30 (hH)),OC k2 p0.Seq ((⟨ag0,List.replicate (y0:List aH).length none⟩:dH).a) ((⟨ag1,List.replicate (y1:List aB).length none⟩:dH).a) ((⟨ag2,List.replicate (y2:List aQ).length none⟩:dH).a) ag3]++((bR (⟨ag2,List.replicate (y2:List aQ).length none⟩:dH) y2)++((a9 (⟨ag1,List.replicate (y1:List aB).length none⟩:dH) y1)++(bP (⟨ag0,List.replicate (y0:List aH).length none⟩:dH) y0))))) (λ_=>rfl) [[_], [_], [_], [_], [_], [_],_,_] rfl 3 rfl rfl) (v0 (dN dV rfl rfl (vl 5 (aw (⟨ag0,List.replicate (y0:List aH).length none⟩:dH).a.t (⟨ag0,List.replicate (y0:List aH).length none⟩:dH).a.n (⟨ag0,List.replicate (y0:List aH).length none⟩:dH).a.cap) fM rfl rfl rfl (bU (dQ jZ ((CW.zero (l:=aH.Locs) (szi:=4) O0).k.a) rfl) ?_))))))))))
 refine UO m (σ:=(List aH)×Int) (τ:=dH) (λg s=>([aM ag3 y3,bQ (⟨ag2,List.replicate (y2:List aQ).length none⟩:dH) y2,aW (⟨ag1,List.replicate (y1:List aB).length none⟩:dH) y1,bM g s.1,(some k5,.obj 30 (hH)),OC k2 p0.Seq g.a ((⟨ag1,List.replicate (y1:List aB).length none⟩:dH).a) ((⟨ag2,List.replicate (y2:List aQ).length none⟩:dH).a) ag3]++((bR (⟨ag2,List.replicate (y2:List aQ).length none⟩:dH) y2)++((a9 (⟨ag1,List.replicate (y1:List aB).length none⟩:dH) y1)++(bP g s.1))))) (λg s=>CW aH.Locs 4 4 g (s.1:List aH) s.2.toNat (y0:List aH).length) (λg s=>mF aH.Locs 4 4 g (s.1:List aH)) (λg s=>.c 1 (.ptr k2 0) (.c 2 (.ptr k5 0) (.c 26 (nZ (y0.length:Int)) (.c 27 (nZ s.2) .nil)))) (⟨ag0,List.replicate (y0:List aH).length none⟩:dH) (CW.zero (l:=aH.Locs) (szi:=4) O0) (lx (.k4 .nil)) ?_ ?_
 rintro ng0 ⟨q0,q1⟩ x O4 m
 replace m:tL w y0 q0 q1=some x:=m
 unfold tL at m
 refine vs (v0 (vs (v0 ?_)))
 apply vi m <;> intro c0 m
 refine v0 (vs (v0 (vs (v0 (vs (v0 (dN dV rfl rfl (vl 5 (aZ ng0.a) fM rfl rfl rfl ?_))))))))
 obtain⟨x0,X0,m⟩:=aC m
 refine bU (cM (O4.k.ix X0) iU O4.k.z rfl rfl) (qK (M0 (L':=([aM ag3 y3,bQ (⟨ag2,List.replicate (y2:List aQ).length none⟩:dH) y2,aW (⟨ag1,List.replicate (y1:List aB).length none⟩:dH) y1,bM ng0 q0,(some k5,.obj 30 (hH)),OC k2 p0.Seq ng0.a ((⟨ag1,List.replicate (y1:List aB).length none⟩:dH).a) ((⟨ag2,List.replicate (y2:List aQ).length none⟩:dH).a) ag3]++((bR (⟨ag2,List.replicate (y2:List aQ).length none⟩:dH) y2)++((a9 (⟨ag1,List.replicate (y1:List aB).length none⟩:dH) y1)++(kM 81 aN ((nl aH.Locs (zg (q0:List aH) ng0.gs)).eraseIdx q1.toNat)))))) [[_], [_], [_], [_], [_], [_],_,_,_] rfl 8 (q1.toNat) rfl rfl) (v0 (vz [(14,ng0.a.t,.obj 60 (fl kT (zg (q0:List aH) ng0.gs) ng0.a.sp))] mixed (λu=>⟨λ_=>aJ 3 u rfl,trivial⟩) λu=>zC 0 rfl (eY (wK _ _) rfl) (zC 1 rfl (eY (wK _ _) rfl) (zC 2 rfl (eY (wK _ _) rfl) (zC 3 rfl (iT (bI.ne O4.k.z (O4.k.ix X0)) rfl) (zC 4 rfl (cU (bI.ne O4.k.z (O4.k.ix X0)) oQ rfl rfl) (wL 5 rfl (λ_ _ hi hB=>dX (fo:=1) (.agg (bK x0.Man)) (O4.k.ix X0) kU O4.k.z nU rfl (fV.get 0 hi rfl (hB 14 (by kernel_rfl))) (λ_=>rfl)) ?_))))))))
 obtain⟨y4,Y4,m⟩:=aC m
 refine zC 6 rfl (bY (aAD _ Y4) rfl SA rfl) (zC 7 rfl (eY (wK _ _) rfl) (zC 8 rfl (iT (bI.ne O4.k.z (O4.k.ix X0)) rfl) (zC 9 rfl (cU (bI.ne O4.k.z (O4.k.ix X0)) jT rfl rfl) (wL 10 rfl (λ_ _ hi hB=>fB (dX (fo:=3) (awO aN 4 (gx ng0.gs q1.toNat) x0.Locs) (O4.k.ix X0) kU O4.k.z eL rfl (fV.get 0 hi rfl (hB 14 (by kernel_rfl))) (λ_=>rfl)) (bF.of_eq (congrArg (λz=>awO aN 4 z x0.Locs) (O4.post _ (Nat.le_refl _))))) ?_))))
 obtain⟨y5,Y5,m⟩:=aC m
 refine zE 11 rfl (cK (UH _ Y5) rfl UI rfl ?_)
 rintro x h' ⟨ag4,O5,K10,rfl,rfl⟩
 rw[iS]
 refine⟨⟨λ_=>aJ 4 (bT.co u K10) rfl,trivial⟩, ?_⟩
 refine zC 12 rfl (iT (bI.ne O4.k.z (O4.k.ix X0)) rfl) (zC 13 rfl (cU (bI.ne O4.k.z (O4.k.ix X0)) oQ rfl rfl) (zE 14 rfl (cI (fo:=1) (x':=(({ x0 with Man:=y4}:aH),(gx ng0.gs q1.toNat))) 4 (bT.co u K10) (O4.k.ix X0) kU O4.k.z rfl rfl rfl rfl (cW.refl _ _) zZ rfl rfl ?_)))
 intro K11
 have hs0:tE aH.Locs 4 4 ng0 (q0:List aH):=O4.k
 have hn0:hp h _=hp h ([fJ ag4 y5,aM ag3 y3,bQ (⟨ag2,List.replicate (y2:List aQ).length none⟩:dH) y2,aW (⟨ag1,List.replicate (y1:List aB).length none⟩:dH) y1,bM ng0 (q0.set q1.toNat ({ x0 with Man:=y4})),(some k5,.obj 30 (hH)),OC k2 p0.Seq ng0.a ((⟨ag1,List.replicate (y1:List aB).length none⟩:dH).a) ((⟨ag2,List.replicate (y2:List aQ).length none⟩:dH).a) ag3]++((bR (⟨ag2,List.replicate (y2:List aQ).length none⟩:dH) y2)++((a9 (⟨ag1,List.replicate (y1:List aB).length none⟩:dH) y1)++(kM 81 aN ((nl aH.Locs (zg (q0.set q1.toNat ({ x0 with Man:=y4}):List aH) ng0.gs)).eraseIdx q1.toNat)))))∧bT h ([fJ ag4 y5,aM ag3 y3,bQ (⟨ag2,List.replicate (y2:List aQ).length none⟩:dH) y2,aW (⟨ag1,List.replicate (y1:List aB).length none⟩:dH) y1,bM ng0 (q0.set q1.toNat ({ x0 with Man:=y4})),(some k5,.obj 30 (hH)),OC k2 p0.Seq ng0.a ((⟨ag1,List.replicate (y1:List aB).length none⟩:dH).a) ((⟨ag2,List.replicate (y2:List aQ).length none⟩:dH).a) ag3]++((bR (⟨ag2,List.replicate (y2:List aQ).length none⟩:dH) y2)++((a9 (⟨ag1,List.replicate (y1:List aB).length none⟩:dH) y1)++(kM 81 aN ((nl aH.Locs (zg (q0.set q1.toNat ({ x0 with Man:=y4}):List aH) ng0.gs)).eraseIdx q1.toNat))))):=eqN (L:=_) K11 (by unfold bM; (try unfold bP); rw[(hs0.set (x':=({ x0 with Man:=y4}:aH)) X0 rfl).2.2,← (hs0.set (x':=({ x0 with Man:=y4}:aH)) X0 rfl).2.1]; first | done | rfl)
 refine kW hn0.1 (⟨⟨λe=>absurd e (by decide),trivial⟩, ?_⟩)
 refine zC 15 rfl (iT (bI.ne ((O4.set (x':=({ x0 with Man:=y4}:aH)) X0 rfl).k.z) ((O4.set (x':=({ x0 with Man:=y4}:aH)) X0 rfl).k.ix (dG (x':=({ x0 with Man:=y4}:aH)) X0))) rfl) (zC 16 rfl (cU (bI.ne ((O4.set (x':=({ x0 with Man:=y4}:aH)) X0 rfl).k.z) ((O4.set (x':=({ x0 with Man:=y4}:aH)) X0 rfl).k.ix (dG (x':=({ x0 with Man:=y4}:aH)) X0))) jT rfl rfl) (zE 17 rfl (cI (fo:=3) (x':=(({ ({ x0 with Man:=y4}:aH) with Locs:=y5}:aH),some ag4)) 4 hn0.2 ((O4.set (x':=({ x0 with Man:=y4}:aH)) X0 rfl).k.ix (dG (x':=({ x0 with Man:=y4}:aH)) X0)) kU ((O4.set (x':=({ x0 with Man:=y4}:aH)) X0 rfl).k.z) rfl rfl (bZ rfl) (cD (bW _ _ _) rfl) (cW.refl _ _) n5 rfl rfl ?_)))
 intro K12
 have O6:=(O4.set (x':=({ x0 with Man:=y4}:aH)) X0 rfl).step (x':=({ ({ x0 with Man:=y4}:aH) with Locs:=y5}:aH)) (dG (x':=({ x0 with Man:=y4}:aH)) X0) ag4 O5
 have hr0:=tF (L':=(eF ag4 y5)::(([aM ag3 y3,bQ (⟨ag2,List.replicate (y2:List aQ).length none⟩:dH) y2,aW (⟨ag1,List.replicate (y1:List aB).length none⟩:dH) y1,(ng0.a.t,.obj 60 (fl kT (((zg (q0.set q1.toNat ({ x0 with Man:=y4}):List aH) ng0.gs)).set q1.toNat (({ ({ x0 with Man:=y4}:aH) with Locs:=y5}:aH),some ag4)) ng0.a.sp)),(some k5,.obj 30 (hH)),OC k2 p0.Seq ng0.a ((⟨ag1,List.replicate (y1:List aB).length none⟩:dH).a) ((⟨ag2,List.replicate (y2:List aQ).length none⟩:dH).a) ag3]:HL)++((bR (⟨ag2,List.replicate (y2:List aQ).length none⟩:dH) y2)++((a9 (⟨ag1,List.replicate (y1:List aB).length none⟩:dH) y1)++(kM 81 aN ((nl aH.Locs (zg (q0.set q1.toNat ({ x0 with Man:=y4}):List aH) ng0.gs)).eraseIdx q1.toNat)))))) K12 [[_], [_], [_], [_], [_], [_], [_],_,_,_] rfl [0,1,2,3,4,5,6,7,8,9] rfl rfl
 have hj0:=o0 (L':=([aM ag3 y3,bQ (⟨ag2,List.replicate (y2:List aQ).length none⟩:dH) y2,aW (⟨ag1,List.replicate (y1:List aB).length none⟩:dH) y1,bM (⟨ng0.a,ng0.gs.set q1.toNat (some ag4)⟩:dH) ((q0.set q1.toNat ({ x0 with Man:=y4})).set q1.toNat ({ ({ x0 with Man:=y4}:aH) with Locs:=y5})),(some k5,.obj 30 (hH)),OC k2 p0.Seq ((⟨ng0.a,ng0.gs.set q1.toNat (some ag4)⟩:dH).a) ((⟨ag1,List.replicate (y1:List aB).length none⟩:dH).a) ((⟨ag2,List.replicate (y2:List aQ).length none⟩:dH).a) ag3]++((bR (⟨ag2,List.replicate (y2:List aQ).length none⟩:dH) y2)++((a9 (⟨ag1,List.replicate (y1:List aB).length none⟩:dH) y1)++(bP (⟨ng0.a,ng0.gs.set q1.toNat (some ag4)⟩:dH) ((q0.set q1.toNat ({ x0 with Man:=y4})).set q1.toNat ({ ({ x0 with Man:=y4}:aH) with Locs:=y5}))))))) [[_], [_], [_], [_], [_], [_],_,_,_] rfl 8 (zs:=nl aH.Locs (zg (q0.set q1.toNat ({ x0 with Man:=y4}):List aH) ng0.gs)) (j:=q1.toNat) (aH.Locs ({ ({ x0 with Man:=y4}:aH) with Locs:=y5}:aH),some ag4) (jP ((O4.set (x':=({ x0 with Man:=y4}:aH)) X0 rfl).k.nlat (dG (x':=({ x0 with Man:=y4}:aH)) X0))) rfl hr0.2 (by rw[← ((O4.set (x':=({ x0 with Man:=y4}:aH)) X0 rfl).k.setL (x':=({ ({ x0 with Man:=y4}:aH) with Locs:=y5}:aH)) (dG (x':=({ x0 with Man:=y4}:aH)) X0) ag4 O5).2.2,((O4.set (x':=({ x0 with Man:=y4}:aH)) X0 rfl).k.setL (x':=({ ({ x0 with Man:=y4}:aH) with Locs:=y5}:aH)) (dG (x':=({ x0 with Man:=y4}:aH)) X0) ag4 O5).2.1]; rfl)
 refine kW (hr0.1.trans hj0.1) (⟨⟨λe=>absurd e (by decide),trivial⟩, ?_⟩)
 exact zX (qk (f:=S8 49 _ _ _ _ _ _ _ _ _ _ _ _ _ _ _ _ _) hj0.2 rfl (v0 (eW m (⟨ng0.a,ng0.gs.set q1.toNat (some ag4)⟩:dH) O6 (lx (.k4 .nil)))))
 exact v0 (lM m ng0 (O4.all c0) (lx (.k4 .nil)))
 rintro ng1 ⟨r0,r1⟩ t0 m
 refine vs (vs (v0 (dN dR rfl rfl (vl 5 (aw (⟨ag1,List.replicate (y1:List aB).length none⟩:dH).a.t (⟨ag1,List.replicate (y1:List aB).length none⟩:dH).a.n (⟨ag1,List.replicate (y1:List aB).length none⟩:dH).a.cap) eJ rfl rfl rfl (bU (dQ iG ((CW.zero (l:=aB.Locs) (szi:=4) O1).k.a) rfl) (UO m (σ:=(List aB)×Int) (τ:=dH) (λg s=>([aM ag3 y3,bQ (⟨ag2,List.replicate (y2:List aQ).length none⟩:dH) y2,aW g s.1,bM ng1 r0,(some k5,.obj 30 (hH)),OC k2 p0.Seq ng1.a g.a ((⟨ag2,List.replicate (y2:List aQ).length none⟩:dH).a) ag3]++((bR (⟨ag2,List.replicate (y2:List aQ).length none⟩:dH) y2)++((a9 g s.1)++(bP ng1 r0))))) (λg s=>CW aB.Locs 35 4 g (s.1:List aB) s.2.toNat (y1:List aB).length) (λg s=>mF aB.Locs 35 4 g (s.1:List aB)) (λg s=>.c 1 (.ptr k2 0) (.c 2 (.ptr k5 0) (.c 53 (nZ (y1.length:Int)) (.c 54 (nZ s.2) .nil)))) (⟨ag1,List.replicate (y1:List aB).length none⟩:dH) (CW.zero (l:=aB.Locs) (szi:=4) O1) (lx (.k4 .nil)) ?_ ?_))))))
 rintro ng2 ⟨q2,q3⟩ x O7 m
 replace m:tM w y1 q2 q3=some x:=m
 unfold tM at m
 refine vs (v0 (vs (v0 ?_)))
 apply vi m <;> intro c1 m
 refine v0 (vs (v0 (vs (v0 (vs (v0 (dN dR rfl rfl (vl 5 (aZ ng2.a) eJ rfl rfl rfl ?_))))))))
 obtain⟨x1,X1,m⟩:=aC m
 refine bU (cM (O7.k.ix X1) fH O7.k.z rfl rfl) (qK (M0 (L':=([aM ag3 y3,bQ (⟨ag2,List.replicate (y2:List aQ).length none⟩:dH) y2,aW ng2 q2,bM ng1 r0,(some k5,.obj 30 (hH)),OC k2 p0.Seq ng1.a ng2.a ((⟨ag2,List.replicate (y2:List aQ).length none⟩:dH).a) ag3]++((bR (⟨ag2,List.replicate (y2:List aQ).length none⟩:dH) y2)++((kM 81 aN ((nl aB.Locs (zg (q2:List aB) ng2.gs)).eraseIdx q3.toNat))++(bP ng1 r0))))) [[_], [_], [_], [_], [_], [_],_,_,_] rfl 7 (q3.toNat) rfl rfl) (v0 (vz [(14,ng2.a.t,.obj 44 (fl jI (zg (q2:List aB) ng2.gs) ng2.a.sp))] mixed (λu=>⟨λ_=>aJ 2 u rfl,trivial⟩) λu=>zC 0 rfl (eY (wK _ _) rfl) (zC 1 rfl (eY (wK _ _) rfl) (zC 2 rfl (eY (wK _ _) rfl) (zC 3 rfl (iT (bI.ne O7.k.z (O7.k.ix X1)) rfl) (zC 4 rfl (cU (bI.ne O7.k.z (O7.k.ix X1)) jS rfl rfl) (wL 5 rfl (λ_ _ hi hB=>dX (fo:=33) (.sl none 1 (List.map dF x1.Data)) (O7.k.ix X1) iP O7.k.z kA rfl (fV.get 0 hi rfl (hB 14 (by kernel_rfl))) (λ_=>rfl)) (zC 7 rfl (eY (wK _ _) rfl) (zC 8 rfl (iT (bI.ne O7.k.z (O7.k.ix X1)) rfl) (zC 9 rfl (cU (bI.ne O7.k.z (O7.k.ix X1)) iV rfl rfl) (wL 10 rfl (λ_ _ hi hB=>fB (dX (fo:=34) (awO aN 4 (gx ng2.gs q3.toNat) x1.Locs) (O7.k.ix X1) iP O7.k.z eL rfl (fV.get 0 hi rfl (hB 14 (by kernel_rfl))) (λ_=>rfl)) (bF.of_eq (congrArg (λz=>awO aN 4 z x1.Locs) (O7.post _ (Nat.le_refl _))))) ?_))))))))))))
 obtain⟨y6,Y6,m⟩:=aC m
 refine zE 6 rfl (cK (W96 _ Y6) rfl P1 rfl ?_)
 rintro x h' ⟨tg0,t1,K13,rfl,rfl⟩
 rw[iS]
 refine⟨⟨λ_=>aJ 3 (bT.co u K13) rfl,trivial⟩, ?_⟩
 obtain⟨y7,Y7,m⟩:=aC m
 refine zE 11 rfl (cK (UH _ Y7) rfl UI rfl ?_)
 rintro x h' ⟨ag5,O8,K14,rfl,rfl⟩
 rw[iS]
 refine⟨⟨λ_=>aJ 4 (bT.co (bT.co u K13) K14) rfl,trivial⟩, ?_⟩
 refine zC 12 rfl (iT (bI.ne O7.k.z (O7.k.ix X1)) rfl) (zC 13 rfl (cU (bI.ne O7.k.z (O7.k.ix X1)) jS rfl rfl) (zE 14 rfl (xY (s:=67) (.sl none 1 (List.map dF y6)) (aT (.cons_cons _ (.cons _ (.refl _))) (bT.co (bT.co u K13) K14)).1 (Fz.ale (aT (.cons_cons _ (.cons _ (.refl _))) (bT.co (bT.co u K13) K14)).1 (mZ _ 1 t1 (bT.co (bT.co u K13) K14) rfl (.refl _))) (cI (fo:=33) (x':=(({ x1 with Data:=y6}:aB),(gx ng2.gs q3.toNat))) 3 ((aT (.cons_cons _ (.cons _ (.refl _))) (bT.co (bT.co u K13) K14)).2) (O7.k.ix X1) iP O7.k.z rfl rfl rfl rfl (cW.refl _ _) CJ rfl rfl ?_))))
 intro K15
 have hs1:tE aB.Locs 35 4 ng2 (q2:List aB):=O7.k
 have hn1:hp h _=hp h ([fJ ag5 y7,aM ag3 y3,bQ (⟨ag2,List.replicate (y2:List aQ).length none⟩:dH) y2,aW ng2 (q2.set q3.toNat ({ x1 with Data:=y6})),bM ng1 r0,(some k5,.obj 30 (hH)),OC k2 p0.Seq ng1.a ng2.a ((⟨ag2,List.replicate (y2:List aQ).length none⟩:dH).a) ag3]++((bR (⟨ag2,List.replicate (y2:List aQ).length none⟩:dH) y2)++((kM 81 aN ((nl aB.Locs (zg (q2.set q3.toNat ({ x1 with Data:=y6}):List aB) ng2.gs)).eraseIdx q3.toNat))++(bP ng1 r0))))∧bT h ([fJ ag5 y7,aM ag3 y3,bQ (⟨ag2,List.replicate (y2:List aQ).length none⟩:dH) y2,aW ng2 (q2.set q3.toNat ({ x1 with Data:=y6})),bM ng1 r0,(some k5,.obj 30 (hH)),OC k2 p0.Seq ng1.a ng2.a ((⟨ag2,List.replicate (y2:List aQ).length none⟩:dH).a) ag3]++((bR (⟨ag2,List.replicate (y2:List aQ).length none⟩:dH) y2)++((kM 81 aN ((nl aB.Locs (zg (q2.set q3.toNat ({ x1 with Data:=y6}):List aB) ng2.gs)).eraseIdx q3.toNat))++(bP ng1 r0)))):=eqN (L:=_) K15 (by unfold aW; (try unfold a9); rw[(hs1.set (x':=({ x1 with Data:=y6}:aB)) X1 rfl).2.2,← (hs1.set (x':=({ x1 with Data:=y6}:aB)) X1 rfl).2.1]; first | done | rfl)
 refine kW hn1.1 (⟨⟨λe=>absurd e (by decide),trivial⟩, ?_⟩)
 refine zC 15 rfl (iT (bI.ne ((O7.set (x':=({ x1 with Data:=y6}:aB)) X1 rfl).k.z) ((O7.set (x':=({ x1 with Data:=y6}:aB)) X1 rfl).k.ix (dG (x':=({ x1 with Data:=y6}:aB)) X1))) rfl) (zC 16 rfl (cU (bI.ne ((O7.set (x':=({ x1 with Data:=y6}:aB)) X1 rfl).k.z) ((O7.set (x':=({ x1 with Data:=y6}:aB)) X1 rfl).k.ix (dG (x':=({ x1 with Data:=y6}:aB)) X1))) iV rfl rfl) (zE 17 rfl (cI (fo:=34) (x':=(({ ({ x1 with Data:=y6}:aB) with Locs:=y7}:aB),some ag5)) 3 hn1.2 ((O7.set (x':=({ x1 with Data:=y6}:aB)) X1 rfl).k.ix (dG (x':=({ x1 with Data:=y6}:aB)) X1)) iP ((O7.set (x':=({ x1 with Data:=y6}:aB)) X1 rfl).k.z) rfl rfl (bZ rfl) (cD (bW _ _ _) rfl) (cW.refl _ _) n5 rfl rfl ?_)))
 intro K16
 have O9:=(O7.set (x':=({ x1 with Data:=y6}:aB)) X1 rfl).step (x':=({ ({ x1 with Data:=y6}:aB) with Locs:=y7}:aB)) (dG (x':=({ x1 with Data:=y6}:aB)) X1) ag5 O8
 have hr1:=tF (L':=(eF ag5 y7)::(([aM ag3 y3,bQ (⟨ag2,List.replicate (y2:List aQ).length none⟩:dH) y2,(ng2.a.t,.obj 44 (fl jI (((zg (q2.set q3.toNat ({ x1 with Data:=y6}):List aB) ng2.gs)).set q3.toNat (({ ({ x1 with Data:=y6}:aB) with Locs:=y7}:aB),some ag5)) ng2.a.sp)),bM ng1 r0,(some k5,.obj 30 (hH)),OC k2 p0.Seq ng1.a ng2.a ((⟨ag2,List.replicate (y2:List aQ).length none⟩:dH).a) ag3]:HL)++((bR (⟨ag2,List.replicate (y2:List aQ).length none⟩:dH) y2)++((kM 81 aN ((nl aB.Locs (zg (q2.set q3.toNat ({ x1 with Data:=y6}):List aB) ng2.gs)).eraseIdx q3.toNat))++(bP ng1 r0))))) K16 [[_], [_], [_], [_], [_], [_], [_],_,_,_] rfl [0,1,2,3,4,5,6,7,8,9] rfl rfl
 have hj1:=o0 (L':=([aM ag3 y3,bQ (⟨ag2,List.replicate (y2:List aQ).length none⟩:dH) y2,aW (⟨ng2.a,ng2.gs.set q3.toNat (some ag5)⟩:dH) ((q2.set q3.toNat ({ x1 with Data:=y6})).set q3.toNat ({ ({ x1 with Data:=y6}:aB) with Locs:=y7})),bM ng1 r0,(some k5,.obj 30 (hH)),OC k2 p0.Seq ng1.a ((⟨ng2.a,ng2.gs.set q3.toNat (some ag5)⟩:dH).a) ((⟨ag2,List.replicate (y2:List aQ).length none⟩:dH).a) ag3]++((bR (⟨ag2,List.replicate (y2:List aQ).length none⟩:dH) y2)++((a9 (⟨ng2.a,ng2.gs.set q3.toNat (some ag5)⟩:dH) ((q2.set q3.toNat ({ x1 with Data:=y6})).set q3.toNat ({ ({ x1 with Data:=y6}:aB) with Locs:=y7})))++(bP ng1 r0))))) [[_], [_], [_], [_], [_], [_],_,_,_] rfl 7 (zs:=nl aB.Locs (zg (q2.set q3.toNat ({ x1 with Data:=y6}):List aB) ng2.gs)) (j:=q3.toNat) (aB.Locs ({ ({ x1 with Data:=y6}:aB) with Locs:=y7}:aB),some ag5) (jP ((O7.set (x':=({ x1 with Data:=y6}:aB)) X1 rfl).k.nlat (dG (x':=({ x1 with Data:=y6}:aB)) X1))) rfl hr1.2 (by rw[← ((O7.set (x':=({ x1 with Data:=y6}:aB)) X1 rfl).k.setL (x':=({ ({ x1 with Data:=y6}:aB) with Locs:=y7}:aB)) (dG (x':=({ x1 with Data:=y6}:aB)) X1) ag5 O8).2.2,((O7.set (x':=({ x1 with Data:=y6}:aB)) X1 rfl).k.setL (x':=({ ({ x1 with Data:=y6}:aB) with Locs:=y7}:aB)) (dG (x':=({ x1 with Data:=y6}:aB)) X1) ag5 O8).2.1]; rfl)
 refine kW (hr1.1.trans hj1.1) (⟨⟨λe=>absurd e (by decide),trivial⟩, ?_⟩)
 exact zX (qk (f:=fq5 76 _ _ _ _ _ (.c 67 _ (PN 71 _ _ _ _ (fq6 66 _ _ _ _ _ _ _)))) hj1.2 rfl (v0 (eW m (⟨ng2.a,ng2.gs.set q3.toNat (some ag5)⟩:dH) O9 (lx (.k4 .nil)))))
 exact v0 (lM m ng2 (O7.all c1) (lx (.k4 .nil)))
 rintro ng3 ⟨r2,r3⟩ t2 m
 refine vs (vs (v0 (dN e8 rfl rfl (vl 5 (aw (⟨ag2,List.replicate (y2:List aQ).length none⟩:dH).a.t (⟨ag2,List.replicate (y2:List aQ).length none⟩:dH).a.n (⟨ag2,List.replicate (y2:List aQ).length none⟩:dH).a.cap) jG rfl rfl rfl (bU (dQ pW ((CW.zero (l:=aQ.Locs) (szi:=4) O2).k.a) rfl) (UO m (σ:=(List aQ)×Int) (τ:=dH) (λg s=>([aM ag3 y3,bQ g s.1,aW ng3 r2,bM ng1 r0,(some k5,.obj 30 (hH)),OC k2 p0.Seq ng1.a ng3.a g.a ag3]++((bR g s.1)++((a9 ng3 r2)++(bP ng1 r0))))) (λg s=>CW aQ.Locs 3 4 g (s.1:List aQ) s.2.toNat (y2:List aQ).length) (λg s=>mF aQ.Locs 3 4 g (s.1:List aQ)) (λg s=>.c 1 (.ptr k2 0) (.c 2 (.ptr k5 0) (.c 80 (nZ (y2.length:Int)) (.c 81 (nZ s.2) .nil)))) (⟨ag2,List.replicate (y2:List aQ).length none⟩:dH) (CW.zero (l:=aQ.Locs) (szi:=4) O2) (lx (.k4 .nil)) ?_ ?_))))))
 rintro ng4 ⟨q4,q5⟩ x O10 m
 replace m:tN w y2 q4 q5=some x:=m
 unfold tN at m
 refine vs (v0 (vs (v0 ?_)))
 apply vi m <;> intro c2 m
 refine v0 (vs (v0 (vs (v0 (qK (M0 (L':=([aM ag3 y3,bQ ng4 q4,aW ng3 r2,bM ng1 r0,(some k5,.obj 30 (hH)),OC k2 p0.Seq ng1.a ng3.a ng4.a ag3]++((kM 81 aN ((nl aQ.Locs (zg (q4:List aQ) ng4.gs)).eraseIdx q5.toNat))++((a9 ng3 r2)++(bP ng1 r0))))) [[_], [_], [_], [_], [_], [_],_,_,_] rfl 6 (q5.toNat) rfl rfl) (v0 (vz [(1000000,some k2,.obj 30 ([nZ p0.Seq,aZ ng1.a,aZ ng3.a,aZ ng4.a,aZ ag3])),(12,ng4.a.t,.obj 99 (fl lJ (zg (q4:List aQ) ng4.gs) ng4.a.sp))] mixed (λu=>⟨λ_=>aJ 5 u rfl,λ_=>aJ 1 u rfl,trivial⟩) λu=>zF 0 rfl e8 rfl (zL 1 0 (aZ ng4.a) rfl jG rfl rfl rfl (zI 2 rfl rfl (zF 3 rfl e8 rfl (zL 4 0 (aZ ng4.a) rfl jG rfl rfl rfl (zI 5 rfl rfl ?_))))))))))))
 obtain⟨x2,X2,m⟩:=aC m
 refine zC 6 rfl (cM (O10.k.ix X2) iM O10.k.z rfl rfl) (zC 7 rfl (cU (bI.ne O10.k.z (O10.k.ix X2)) lF rfl rfl) (wL 8 rfl (λ_ _ hi hB=>fB (dX (fo:=2) (awO aN 4 (gx ng4.gs q5.toNat) x2.Locs) (O10.k.ix X2) o6 O10.k.z eL rfl (fV.get 1 hi rfl (hB 12 (by kernel_rfl))) (λ_=>rfl)) (bF.of_eq (congrArg (λz=>awO aN 4 z x2.Locs) (O10.post _ (Nat.le_refl _))))) ?_))
 obtain⟨y8,Y8,m⟩:=aC m
 refine zE 9 rfl (cK (UH _ Y8) rfl UI rfl ?_)
 rintro x h' ⟨ag6,O11,K17,rfl,rfl⟩
 rw[iS]
 refine⟨⟨λ_=>aJ 6 (bT.co u K17) rfl,λ_=>aJ 2 (bT.co u K17) rfl,trivial⟩, ?_⟩
 obtain⟨x3,X3,m⟩:=aC m
 refine zC 10 rfl (cM (O10.k.ix X3) iM O10.k.z rfl rfl) (zC 11 rfl (cU (bI.ne O10.k.z (O10.k.ix X3)) lF rfl rfl) (zE 12 rfl (cI (fo:=2) (x':=(({ x3 with Locs:=y8}:aQ),some ag6)) 2 (bT.co u K17) (O10.k.ix X3) o6 O10.k.z rfl rfl (bZ rfl) (cD (bW _ _ _) rfl) (cW.refl _ _) n5 rfl rfl ?_)))
 intro K18
 have O12:=O10.step (x':=({ x3 with Locs:=y8}:aQ)) X3 ag6 O11
 have hr2:=tF (L':=(eF ag6 y8)::(([aM ag3 y3,(ng4.a.t,.obj 99 (fl lJ (((zg (q4:List aQ) ng4.gs)).set q5.toNat (({ x3 with Locs:=y8}:aQ),some ag6)) ng4.a.sp)),aW ng3 r2,bM ng1 r0,(some k5,.obj 30 (hH)),OC k2 p0.Seq ng1.a ng3.a ng4.a ag3]:HL)++((kM 81 aN ((nl aQ.Locs (zg (q4:List aQ) ng4.gs)).eraseIdx q5.toNat))++((a9 ng3 r2)++(bP ng1 r0))))) K18 [[_], [_], [_], [_], [_], [_], [_],_,_,_] rfl [0,1,2,3,4,5,6,7,8,9] rfl rfl
 have hj2:=o0 (L':=([aM ag3 y3,bQ (⟨ng4.a,ng4.gs.set q5.toNat (some ag6)⟩:dH) (q4.set q5.toNat ({ x3 with Locs:=y8})),aW ng3 r2,bM ng1 r0,(some k5,.obj 30 (hH)),OC k2 p0.Seq ng1.a ng3.a ((⟨ng4.a,ng4.gs.set q5.toNat (some ag6)⟩:dH).a) ag3]++((bR (⟨ng4.a,ng4.gs.set q5.toNat (some ag6)⟩:dH) (q4.set q5.toNat ({ x3 with Locs:=y8})))++((a9 ng3 r2)++(bP ng1 r0))))) [[_], [_], [_], [_], [_], [_],_,_,_] rfl 6 (zs:=nl aQ.Locs (zg (q4:List aQ) ng4.gs)) (j:=q5.toNat) (aQ.Locs ({ x3 with Locs:=y8}:aQ),some ag6) (jP (O10.k.nlat X3)) rfl hr2.2 (by rw[← (O10.k.setL (x':=({ x3 with Locs:=y8}:aQ)) X3 ag6 O11).2.2,(O10.k.setL (x':=({ x3 with Locs:=y8}:aQ)) X3 ag6 O11).2.1]; rfl)
 refine kW (hr2.1.trans hj2.1) (⟨⟨λ_=>aJ 5 hj2.2 rfl,λe=>absurd e (by decide),trivial⟩, ?_⟩)
 exact zX (qk (f:=GD 95 _ _ _ _ _ _ _ _ _ _ _ _ _) hj2.2 rfl (v0 (eW m (⟨ng4.a,ng4.gs.set q5.toNat (some ag6)⟩:dH) O12 (lx (.k4 .nil)))))
 exact v0 (lM m ng4 (O10.all c2) (lx (.k4 .nil)))
 rintro ng5 ⟨r4,r5⟩ t3 m
 refine vs (v0 (vl 5 (.agg ([nZ p0.Seq,aZ ng1.a,aZ ng3.a,aZ ng5.a,aZ ag3])) fC rfl rfl rfl (ve λu=>aK 4 ([nZ p0.Seq,aZ ng1.a,aZ ng3.a,aZ ng5.a,aZ ag3]) u rfl rfl rfl (by repeat (first | exact rfl | refine cD (iL _ _ _) ?_ | refine cD (bW _ _ _) ?_ | refine cD (gJ _ _ _ _) ?_ | refine cD rfl ?_)) lZ rfl rfl λK19=>qk K19 rfl ?_)))
 refine v0 ?_
 cases m
 exact vr λu=>dW.of1 (.inl rfl) (qW (.agg ([nZ p0.Seq,aZ ng1.a,aZ ng3.a,aZ ng5.a,aZ ag3])) fC rfl (bB 4 u rfl) rfl) (tG (L':=([bM ng1 r0,aW ng3 r2,bQ ng5 r4,aM ag3 y3]++((bP ng1 r0)++((a9 ng3 r2)++(bR ng5 r4))))) u [[_], [_], [_], [_], [_], [_],_,_,_] rfl [3,2,1,0,8,7,6] rfl rfl).2 (bF.refl _ _) ⟨ng1,t0,ng3,t2,ng5,t3,ag3,O3,(tG (L':=([bM ng1 r0,aW ng3 r2,bQ ng5 r4,aM ag3 y3]++((bP ng1 r0)++((a9 ng3 r2)++(bR ng5 r4))))) u [[_], [_], [_], [_], [_], [_],_,_,_] rfl [3,2,1,0,8,7,6] rfl rfl).1,rfl,rfl⟩
theorem aFU:aO Tryz.prog 77=true:=by kernel_rfl
end Go.Proofs.YtbbifdfldpfphaaGreat
namespace Go.Vm
def rP (l:List (Int×Nat)):List (Value×Value):=l.map λx=>(.int .i64 x.1,.func (.func x.2) #[] #[])
theorem o8 (x:Int):∀(l:List (Int×Nat)) (ents:List MapEntry) (i:Nat),ents.map (λe=>(e.key,e.val))=rP l→
    (∀e,l.find? (λe=>e.1==x)=some e→∃j,Instr.findNow (.int .i64) (.int .i64 x) ents i=some (some (j,.func (.func e.2) #[] #[])))∧
    (l.find? (λe=>e.1==x)=none→Instr.findNow (.int .i64) (.int .i64 x) ents i=some none)
  | [], [],i,_=>⟨λe h=>by simp at h,λ_=>rfl⟩
  | [],_::_,_,h=>by simp[rP] at h
  | _::_, [],_,h=>by simp[rP] at h
  | y::l,e::ents,i,h=>by
    simp only[List.map_cons,rP,List.cons.injEq,Prod.mk.injEq] at h
    obtain⟨⟨h1,h2⟩,h3⟩:=h
    obtain⟨ih1,ih2⟩:=o8 x l ents (i+1) h3
    have hn:Instr.findNow (.int .i64) (.int .i64 x) (e::ents) i=(if (y.1==x)=true then some (some (i,e.val)) else Instr.findNow (.int .i64) (.int .i64 x) ents (i+1)):=by
      simp only[Instr.findNow,h1,Instr.sameNow,if_true]
      by_cases q:x=y.1
      · subst q; simp
      · have q1:(x==y.1)=false:=by simpa using q
        have q2:(y.1==x)=false:=by simpa using Ne.symm q
        rw[q1,q2]; simp
    rw[hn]
    simp only[List.find?_cons]
    cases q:(y.1==x)
    · exact⟨λe' he=>by obtain⟨j,hj⟩:=ih1 e' (by simpa using he); exact⟨j,by simpa using hj⟩,λhe=>by simpa using ih2 (by simpa using he)⟩
    · exact⟨λe' he=>by simp at he; subst he; exact⟨i,by simp[h2]⟩,λhe=>by simp at he⟩
section
variable {P:Program} {h h0:aE} {L:HL} {n:Nat} {kvs:KV} {ty:TypeId} {pos:String} {dP:Array Edge}
theorem IR {l:List (Int×Nat)} {x:Int} {dst:Option Tmp} {t kt et:TypeId} {m y:Operand} {q:cB} {z:Value} (ht:P.underlying t=some (.map kt et)) (hz:(P.info? et).bind (·.zero)=some z) (hkt:P.underlying kt=some (.int .i64))
    (hm:dK n kvs m= .mpv q) (hy:dK n kvs y= .sc (.int .i64 x)) (hq:h q=some (.mp (rP l))):
    eO P ⟨dst,.lookup t m y true,ty,pos,dP,none⟩ (match l.find? (λe=>e.1==x) with | some e=>.tup [.fn (.func e.2) [],.sc (.bool true)] | none=>.tup [.any,.sc (.bool false)]) (fm n kvs) h:=by
  refine eC (x:=match l.find? (λe=>e.1==x) with | some e=>.tup [.fn (.func e.2) [],.sc (.bool true)] | none=>.tup [.any,.sc (.bool false)]) (λE w ac r hv=> ?_) ⟨rfl,rfl⟩
  have vm:=hv m (by simp[Op.operands])
  have vy:=hv y (by simp[Op.operands])
  rw[bN,hm] at vm; rw[bN,hy] at vy
  simp only[VR] at vm vy
  obtain⟨g,hg,em⟩:=vm
  obtain⟨g',ents,clk,e1,e2,e3⟩:=r.mp q _ hq
  rw[hg] at e1; cases e1
  have hck:=λb=>oO (P:=P) hkt 9999 x b w
  obtain⟨f1,f2⟩:=o8 x l ents.toList 0 e3
  have hz1:(zeroValue et).run P w= .ok z w:=by
    cases hi:P.info? et with
    | none=>rw[hi] at hz; simp at hz
    | some i=>
      rw[hi] at hz
      simp at hz
      simp[zeroValue,typeInfo,hi,hz]
  have hgo:(getObj g).run P w= .ok (.map ents clk) w:=by simp[getObj,Sem.run,e2]
  simp only[execOp,em,vy,Instr.lookup,Sem.run_bind,run_underlying ht,Result.andThen_ok,hgo,Sem.run_pure,hck,Instr.findKey,run_underlying hkt]
  cases ha:l.find? (λe=>e.1==x) with
  | some e=>
    obtain⟨j,a1⟩:=f1 e ha
    refine⟨.tuple #[.func (.func e.2) #[] #[],.bool true],by simp[a1], ?_⟩
    simp only[VR]
    exact⟨_,rfl,by simp[cY,VR]⟩
  | none=>
    have a1:=f2 ha
    refine⟨.tuple #[z,.bool false],by simp[a1,hz1], ?_⟩
    simp only[VR]
    exact⟨_,rfl,by simp[cY,VR]⟩
theorem zG {K:AV→aE→Prop} {l:List (Int×Nat)} {x:Int} {f:Nat} {dst:Option Tmp} {t kt et:TypeId} {m y v:Operand} {q:cB} (i:Nat) (hk:bT h0 L) (ht:P.underlying t=some (.map kt et)) (hkt:P.underlying kt=some (.int .i64))
    (hm:dK n kvs m= .mpv q) (hy:dK n kvs y= .sc (.int .i64 x)) (hv:dK n kvs v= .fn (.func f) []) (hi:L[i]? =some (some q,.mp (rP l))) (hnew:l.find? (λe=>e.1==x)=none)
    (k:bT h0 (L.set i (some q,.mp (rP (l++ [(x,f)]))))→K (.sc undef) (hp h0 (L.set i (some q,.mp (rP (l++ [(x,f)])))))):
    i6 P ⟨dst,.insert t m y v,ty,pos,dP,none⟩ K (fm n kvs) (hp h0 L):=by
  intro E w a r hva Nx Qx hn
  have vm:=hva m (by simp[Op.operands])
  have vy:=hva y (by simp[Op.operands])
  have vv:=hva v (by simp[Op.operands])
  rw[bN,hm] at vm; rw[bN,hy] at vy; rw[bN,hv] at vv
  simp only[VR] at vm vy vv
  obtain⟨g,hg,em⟩:=vm
  obtain⟨cs,ev,hcs⟩:=vv
  have hc0:cs= #[]:=by
    have:cs.toList= []:=by
      cases hh:cs.toList with
      | nil=>rfl
      | cons a b=>rw[hh] at hcs; simp only[cY] at hcs
    simpa using this
  subst hc0
  obtain⟨g',ents,clk,e1,e2,e3⟩:=r.mp q _ (bB i hk hi)
  rw[hg] at e1; cases e1
  have hq:=bB i hk hi
  have hck:=λb=>oO (P:=P) hkt 9999 x b w
  obtain⟨f1,f2⟩:=o8 x l ents.toList 0 e3
  have hf:=f2 hnew
  have hgo:(getObj g).run P w= .ok (.map ents clk) w:=by simp[getObj,Sem.run,e2]
  have hglt:=(Array.getElem?_eq_some_iff.1 e2).1
  obtain⟨h1,h2,_⟩:=jB (e':=.mp (rP (l++ [(x,f)]))) i hk hi (.inl rfl)
  have hes:(ents.push { key:=.int .i64 x,val:=.func (.func f) #[] #[],born:=clk}).toList.map (λe=>(e.key,e.val))=rP (l++ [(x,f)]):=by
    simp only[Array.toList_push,List.map_append,e3,rP,List.map_cons,List.map_nil]
  have hfind:(Instr.findKey kt (.int .i64 x) ents.toList).run P w= .ok none w:=by
    simp only[Instr.findKey,Sem.run_bind,run_underlying hkt,Result.andThen_ok,hf,Sem.run_pure]
  have hrun:(execOp a.eval ⟨dst,.insert t m y v,ty,pos,dP,none⟩).run P w= .ok .skip { w with heap:=w.heap.setIfInBounds g (.map (ents.push { key:=.int .i64 x,val:=.func (.func f) #[] #[],born:=clk}) (clk+1))}:=by
    simp only[execOp,em,vy,ev,Instr.mapUpdate,Sem.run_bind,run_underlying ht,Result.andThen_ok,hgo,hck,hfind]
    simp[setObj,Sem.run,e2]
  obtain⟨k1,r1⟩:=r.set_mp hq hg (ents.push { key:=.int .i64 x,val:=.func (.func f) #[] #[],born:=clk}) (clk+1) (w':= { w with heap:=w.heap.setIfInBounds g (.map (ents.push { key:=.int .i64 x,val:=.func (.func f) #[] #[],born:=clk}) (clk+1))}) (by simp[hglt]) (λg' hg'=>by simp[Ne.symm hg']) (by simp) rfl rfl rfl
  unfold Oper.wp
  rw[hrun]
  rw[hes,h1] at r1
  exact hn (.sc undef) undef _ E _ k1 r1 (by simp only[VR]) (k h2)
end
theorem QM (args:List AV):fm args.length (CD 0 args).k=args:=by
 apply List.ext_getElem?
 intro i
 rw[pP,GF]
 have e:=uO 0 0 args i
 rw[Nat.zero_add,List.replicate_zero,List.append_nil] at e
 by_cases h:i < args.length
 ·rw[if_pos h,e,List.getElem?_eq_getElem h]
  simp[List.getD,h]
 ·rw[if_neg h,List.getElem?_eq_none (by omega)]
theorem vR {P:Program} {f:FuncId} {args:List AV} {Q:AV→aE→Prop} {H H':aE} (le:i7 (fm args.length (CD 0 args).k) H' (fm args.length (CD 0 args).k) H) (hc:aL P f args H' Q):aL P f args H Q:=by
 rw[QM] at le
 intro E w vs r v
 obtain⟨E1,k1,r1,v1⟩:=le E w _ r v
 refine(hc E1 w vs r1 v1).mono ?_
 rintro e w' ⟨v',E',x,h',rfl,k,r',vx,q⟩
 exact⟨v',E',x,h',rfl,k1.trans k,r',vx,q⟩
theorem lV {P:Program} {f:FuncId} {args:List AV} {Q Q':AV→aE→Prop} {H:aE} (hc:aL P f args H Q) (hq:∀r h',Q r h'→Q' r h'):aL P f args H Q':=hc.mono hq
end Go.Vm
namespace Go.Proofs.YtbbifdfldpfphaaGreat
open Go.Vm
def nV:List (Int×Nat):= [(1,72),(2,73),(3,74),(4,75),(5,76)]
def o9 (m:Nat) (f:Nat) (d:aA) (x:aR):Option (aA×Int):=
 if f=72 then (M72 m d x).bind λo=>some ({ d with Seq:=o.2.1,Snaps:=o.2.2.1,Chunks:=o.2.2.2},o.1)
 else if f=73 then (M73 m d x).bind λo=>some ({ d with Snaps:=o.2.1,Chunks:=o.2.2},o.1)
 else if f=74 then (V8 m d x).bind λo=>some ({ Seq:=o.2.1,Snaps:=o.2.2.1,Chunks:=o.2.2.2.1,Exps:=o.2.2.2.2.1,Vols:=o.2.2.2.2.2},o.1)
 else if f=75 then (M75 m d x).bind λo=>some ({ d with Snaps:=o.2.1,Chunks:=o.2.2.1,Exps:=o.2.2.2.1,Vols:=o.2.2.2.2},o.1)
 else if f=76 then (M76 m d x).bind λo=>some ({ d with Vols:=o.2},o.1)
 else none
def UX (m:Nat) (p0:aA) (p1:aR):Option (aA×Int):=
 match nV.find? (λe=>e.1==p1.Kind) with
 | none=>some (cG,1)
 | some e=>(V4 m p0).bind λy=>if (y !=0)=true then some (cG,1) else (NH m p0).bind λd=>
 after ((o9 m e.2 d p1).bind λs=>some (.brk s):Option (Lp (aA×Int) (aA×Int))) λs=>if (s.2 !=0)=true then some (cG,s.2) else (V4 m s.1).bind λy2=>if (y2 !=0)=true then some (cG,1) else some (s.1,0)
abbrev NI (k:cB) (d:aA) (a b c:dH) (v:cT):HL:= [OC k d.Seq a.a b.a c.a v,bM a d.Snaps,aW b d.Chunks,bQ c d.Exps,aM v d.Vols]++((bP a d.Snaps)++((a9 b d.Chunks)++(bR c d.Exps)))
abbrev NJ (k:cB) (d:aA) (a b c v:cT):HL:= [OC k d.Seq a b c v,bD a d.Snaps,aV b d.Chunks,bV c d.Exps,aM v d.Vols]
theorem aFV {h:aE} {k:cB} {d:aA} {a b c:dH} {v:cT} (oa:mF aH.Locs 4 4 a d.Snaps) (ob:mF aB.Locs 35 4 b d.Chunks) (oc:mF aQ.Locs 3 4 c d.Exps) (m:bT h (NI k d a b c v)) {n:Nat} {f:FR}:
 bT h (NJ k d a.a b.a c.a v)∧i7 (fm n f.k) (hp h (NJ k d a.a b.a c.a v)) (fm n f.k) (hp h (NI k d a b c v)):=by
 obtain⟨k1,l1⟩:=DR (ty:=81) (n:=n) (f:=f) (h0:=h) (L':= [OC k d.Seq a.a b.a c.a v,bD a.a d.Snaps,aW b d.Chunks,bQ c d.Exps,aM v d.Vols]++((a9 b d.Chunks)++(bR c d.Exps))) [[_], [_], [_], [_], [_],_,_,_] rfl 1 5 eU qP oa.k rfl rfl (by decide) rfl m
 obtain⟨k2,l2⟩:=DR (ty:=81) (n:=n) (f:=f) (h0:=h) (L':= [OC k d.Seq a.a b.a c.a v,bD a.a d.Snaps,aV b.a d.Chunks,bQ c d.Exps,aM v d.Vols]++(bR c d.Exps)) [[_], [_], [_], [_], [_],_,_] rfl 2 5 eU oB ob.k rfl rfl (by decide) rfl k1
 obtain⟨k3,l3⟩:=DR (ty:=81) (n:=n) (f:=f) (h0:=h) (L':=NJ k d a.a b.a c.a v) [[_], [_], [_], [_], [_],_] rfl 3 5 eU vQ oc.k rfl rfl (by decide) rfl k2
 exact⟨k3,(l1.trans l2).trans l3⟩
theorem UY {w:Nat} {f:Nat} {d:aA} {x:aR} {s:aA×Int} (h:aE) {k:cB} {a b c:dH} {v:cT} (oa:mF aH.Locs 4 4 a d.Snaps) (ob:mF aB.Locs 35 4 b d.Chunks) (oc:mF aQ.Locs 3 4 c d.Exps) (ov:bI v 4 d.Vols.length) (u:bT h (NI k d a b c v)) (m:o9 w f d x=some s):
 aL Tryz.prog f [.ptr k 0,.agg (aD x)] (hp h (NI k d a b c v)) (λr h'=>∃a' b' c' v':cT,bI a' 4 s.1.Snaps.length∧bI b' 35 s.1.Chunks.length∧bI c' 3 s.1.Exps.length∧bI v' 4 s.1.Vols.length∧bT h (NJ k s.1 a' b' c' v')∧r=nZ s.2∧h'=hp h (NJ k s.1 a' b' c' v')):=by
 obtain⟨kp,lp⟩:=aFV oa ob oc u (n:= [AV.ptr k 0,AV.agg (aD x)].length) (f:=CD 0 [AV.ptr k 0,AV.agg (aD x)])
 unfold o9 at m
 split at m
 rename_i e; subst e
 obtain⟨o,ho,m⟩:=aC m
 cases m
 refine vR lp (lV (W72 (p0:=d) h oa.k.a ob.k.a oc.k.a ov kp ho) ?_)
 rintro r h' ⟨a',oa',b',ob',hk',e1,e2⟩
 exact⟨a',b',c.a,v,oa',ob',oc.k.a,ov,hk',e1,e2⟩
 split at m
 rename_i e; subst e
 obtain⟨o,ho,m⟩:=aC m
 cases m
 refine vR lp (lV (W73 (p0:=d) h oa.k.a ob.k.a oc.k.a ov kp ho) ?_)
 rintro r h' ⟨a',oa',b',ob',hk',e1,e2⟩
 exact⟨a',b',c.a,v,oa',ob',oc.k.a,ov,hk',e1,e2⟩
 split at m
 rename_i e; subst e
 obtain⟨o,ho,m⟩:=aC m
 cases m
 refine lV (W74 (p0:=d) h oa ob oc ov u ho) ?_
 rintro r h' ⟨a',oa',b',ob',c',oc',v',ov',hk',e1,e2⟩
 exact⟨a',b',c',v',oa',ob',oc',ov',hk',e1,e2⟩
 split at m
 rename_i e; subst e
 obtain⟨o,ho,m⟩:=aC m
 cases m
 refine lV (W75 (p0:=d) h oa ob oc ov u ho) ?_
 rintro r h' ⟨a',oa',b',ob',c',oc',v',ov',hk',e1,e2⟩
 exact⟨a',b',c',v',oa',ob',oc',ov',hk',e1,e2⟩
 split at m
 rename_i e; subst e
 obtain⟨o,ho,m⟩:=aC m
 cases m
 refine vR lp (lV (W76 (p0:=d) h oa.k.a ob.k.a oc.k.a ov kp ho) ?_)
 rintro r h' ⟨v',ov',hk',e1,e2⟩
 exact⟨a.a,b.a,c.a,v',oa.k.a,ob.k.a,oc.k.a,ov',hk',e1,e2⟩
 cases m
theorem QN {f:Nat} {u:Nat} {d:aA} {x:aR} {s:aA×Int} (m:o9 u f d x=some s):aO Tryz.prog f=true:=by
 unfold o9 at m
 split at m
 rename_i e; subst e; exact aFS
 split at m
 rename_i e; subst e; exact aFA
 split at m
 rename_i e; subst e; exact aFI
 split at m
 rename_i e; subst e; exact aFO
 split at m
 rename_i e; subst e; exact aE6
 cases m
theorem W29 {j:Nat} {p0:aA} {p1:aR} {o:aA×Int} (h:aE) (m:UX j p0 p1=some o):
 aL Tryz.prog 29 [.agg (aF p0),.agg (aD p1)] h (λr h'=>r= .tup [.agg (aF o.1),nZ o.2]∧h'=h):=by
 refine f8 44 [.cell 4 30,.tmp 5] Tryz.func29 rfl rfl rfl rfl ?_
 unfold UX at m
 repeat refine vs ?_
 refine v0 ?_
 refine gY rfl rfl λk2 K3=> ?_
 refine gY rfl rfl λk3 K3=> ?_
 refine ve λu=>bJ (hH) u pX rfl rfl λk4 K9=>qk K9 rfl ?_
 repeat refine vs ?_
 refine v0 ?_
 refine ve λu=>B3 u λkm K3=>qk K3 rfl ?_
 refine ve λu=>zG (l:= []) 0 u yF u3 rfl rfl rfl rfl rfl λK3=>qk K3 rfl ?_
 refine ve λu=>zG 0 u yF u3 rfl rfl rfl rfl rfl λK3=>qk K3 rfl ?_
 refine ve λu=>zG 0 u yF u3 rfl rfl rfl rfl rfl λK3=>qk K3 rfl ?_
 refine ve λu=>zG 0 u yF u3 rfl rfl rfl rfl rfl λK3=>qk K3 rfl ?_
 refine ve λu=>zG 0 u yF u3 rfl rfl rfl rfl rfl λK3=>qk K3 rfl ?_
 repeat refine vs ?_
 refine v0 (dN CL rfl rfl (vl 2 _ cF rfl rfl rfl ?_))
 have hz:(Tryz.prog.info? 117).bind (·.zero)=some (.nilFunc):=by kernel_rfl
 cases hf:nV.find? (λe=>e.1==p1.Kind) with
 | none=>
 rw[hf] at m
 refine vn (λu=>fB (IR (l:=nV) yF hz u3 rfl rfl (bB 0 u rfl)) (bF.of_eq (y:=.tup [.any,.sc (.bool false)]) (by rw[hf]))) ?_
 repeat refine vs ?_
 refine v0 (v0 ?_)
 repeat refine vs ?_
 refine v0 (bU (eS (hH) CI rfl) ?_)
 refine ve λu=>aK 1 (hH) u rfl rfl rfl rfl lZ rfl rfl λK0=>qk K0 rfl ?_
 refine v0 ?_
 cases m
 exact vr λu=>dW.of2 (.inl rfl) (qW (.agg (hH)) fC rfl (bB 1 u rfl) rfl) (fT _ _ (.sc (.int _ _)) rfl) (aT (List.nil_sublist _) u).1 (bF.agg (.cons (bF.refl _ _) (.cons (aX _) (.cons (aX _) (.cons (aX _) (.cons (aX _) .nil)))))) (bF.refl _ _) ⟨rfl,rfl⟩
 | some e=>
 rw[hf] at m
 refine vn (λu=>fB (IR (l:=nV) yF hz u3 rfl rfl (bB 0 u rfl)) (bF.of_eq (y:=.tup [.fn (.func e.2) [],.sc (.bool true)]) (by rw[hf]))) ?_
 repeat refine vs ?_
 refine v0 (vl 3 (.agg (aF p0)) fC rfl rfl rfl ?_)
 refine vk W31 XR m rfl rfl λ_ m=> ?_
 refine v0 ?_
 apply vi m <;> intro hc m
 repeat refine vs ?_
 refine v0 (bU (eS (hH) CI rfl) ?_)
 refine ve λu=>aK 1 (hH) u rfl rfl rfl rfl lZ rfl rfl λK0=>qk K0 rfl ?_
 refine v0 ?_
 cases m
 exact vr λu=>dW.of2 (.inl rfl) (qW (.agg (hH)) fC rfl (bB 1 u rfl) rfl) (fT _ _ (.sc (.int _ _)) rfl) (aT (List.nil_sublist _) u).1 (bF.agg (.cons (bF.refl _ _) (.cons (aX _) (.cons (aX _) (.cons (aX _) (.cons (aX _) .nil)))))) (bF.refl _ _) ⟨rfl,rfl⟩
 refine v0 ?_
 repeat refine vs ?_
 refine v0 (vl 3 (.agg (aF p0)) fC rfl rfl rfl ?_)
 obtain⟨d,Y0,m⟩:=aC m
 refine ve λu=>cK (aFT _ Y0) rfl aFU rfl ?_
 rintro x h' ⟨gs,oks,gc,okc,ge,oke,gv,okv,K1,rfl,rfl⟩
 have w:=mE (L':= [bM gs d.Snaps,aW gc d.Chunks,bQ ge d.Exps,aM gv d.Vols,(some km,.mp (rP nV)),(some k4,.obj 30 (hH)),(some k3,.obj 62 (aD p1)),(some k2,.obj 30 (aF p0))]++((bP gs d.Snaps)++((a9 gc d.Chunks)++(bR ge d.Exps)))) u K1 [[_], [_], [_], [_],_,_,_] [[_], [_], [_], [_]] rfl rfl [0,1,2,3,7,8,9,10,4,5,6] rfl rfl
 refine qk w.2 w.1 ?_
 refine ve λu=>bJ (hH) u pX rfl rfl λk9 K2=>qk K2 rfl ?_
 refine ve λu=>aK 0 ([nZ d.Seq,aZ gs.a,aZ gc.a,aZ ge.a,aZ gv]) u rfl rfl rfl (by repeat (first | exact rfl | refine cD (bW _ _ _) ?_ | refine cD rfl ?_)) lZ rfl rfl λK4=>qk K4 rfl ?_
 repeat refine vs ?_
 refine pO m (σ:=aA×Int) (τ:=cT×cT×cT×cT) (λg s=> [OC k9 s.1.Seq g.1 g.2.1 g.2.2.1 g.2.2.2,bD g.1 s.1.Snaps,aV g.2.1 s.1.Chunks,bV g.2.2.1 s.1.Exps,aM g.2.2.2 s.1.Vols,(some km,.mp (rP nV)),(some k4,.obj 30 (hH)),(some k3,.obj 62 (aD p1)),(some k2,.obj 30 (aF p0))]) (λg s=>bI g.1 4 s.1.Snaps.length∧bI g.2.1 35 s.1.Chunks.length∧bI g.2.2.1 3 s.1.Exps.length∧bI g.2.2.2 4 s.1.Vols.length) (λg s=>.c 4 (.ptr k4 0) (.c 9 (.ptr k9 0) (.c 10 (nZ s.2) .nil))) (λx m=> ?_) ?_
 refine v0 (vl 7 (.agg (aD p1)) pK rfl rfl rfl ?_)
 obtain⟨s,hs,m⟩:=aC m
 refine ve λu=> ?_
 have pq:=mD (A:=NI k9 d gs gc ge gv) (R:= [(some km,.mp (rP nV)),(some k4,.obj 30 (hH)),(some k3,.obj 62 (aD p1)),(some k2,.obj 30 (aF p0))]) u [[_], [_], [_], [_], [_], [_], [_], [_], [_],_,_,_] rfl [0,1,2,3,4,9,10,11] [5,6,7,8] rfl rfl rfl
 refine dB pq.1 (cK (UY _ oks okc oke okv pq.2.2 hs) rfl (QN hs) rfl ?_)
 rintro r h' ⟨a',b',c',v',oa,ob,oc,ov,hk',rfl,rfl⟩
 have hq2:=mE (L':= [OC k9 s.1.Seq a' b' c' v',bD a' s.1.Snaps,aV b' s.1.Chunks,bV c' s.1.Exps,aM v' s.1.Vols,(some km,.mp (rP nV)),(some k4,.obj 30 (hH)),(some k3,.obj 62 (aD p1)),(some k2,.obj 30 (aF p0))]) pq.2.1 hk' [[_], [_], [_], [_], [_]] [[_], [_], [_], [_]] rfl rfl [0,1,2,3,4,5,6,7,8] rfl rfl
 refine qk hq2.2 hq2.1 ?_
 exact eW m (a',b',c',v') ⟨oa,ob,oc,ov⟩ (lx (.k3 .nil))
 rintro⟨a',b',c',v'⟩ ⟨dd,ee⟩ ⟨oa,ob,oc,ov⟩ m
 repeat refine vs ?_
 refine v0 ?_
 repeat refine vs ?_
 refine v0 (v0 ?_)
 apply vi m <;> intro hc m
 repeat refine vs ?_
 refine v0 (bU (eS (hH) CI rfl) ?_)
 refine ve λu=>aK 6 (hH) u rfl rfl rfl rfl lZ rfl rfl λK0=>qk K0 rfl ?_
 refine v0 ?_
 cases m
 exact vr λu=>dW.of2 (.inl rfl) (qW (.agg (hH)) fC rfl (bB 6 u rfl) rfl) (fT _ _ (.sc (.int _ _)) rfl) (aT (List.nil_sublist _) u).1 (bF.agg (.cons (bF.refl _ _) (.cons (aX _) (.cons (aX _) (.cons (aX _) (.cons (aX _) .nil)))))) (bF.refl _ _) ⟨rfl,rfl⟩
 repeat refine vs ?_
 refine v0 (vl 0 (.agg ([nZ dd.Seq,aZ a',aZ b',aZ c',aZ v'])) fC rfl rfl rfl ?_)
 obtain⟨_,Y1,m⟩:=aC m
 refine vn (λu=>bY (fG (.cons (Br.agg (.cons (Br.refl _ _) (.cons (Br.aw 1 eI oa u rfl) (.cons (Br.aw 2 cO ob u rfl) (.cons (Br.aw 3 fL oc u rfl) (.cons (Br.aw 4 dY ov u rfl) .nil)))))) .nil) rfl (W31 _ Y1)) rfl XR rfl) (v0 ?_)
 apply vi m <;> intro c0 m
 repeat refine vs ?_
 refine v0 (bU (eS (hH) CI rfl) ?_)
 refine ve λu=>aK 6 (hH) u rfl rfl rfl rfl lZ rfl rfl λK0=>qk K0 rfl ?_
 refine v0 ?_
 cases m
 exact vr λu=>dW.of2 (.inl rfl) (qW (.agg (hH)) fC rfl (bB 6 u rfl) rfl) (fT _ _ (.sc (.int _ _)) rfl) (aT (List.nil_sublist _) u).1 (bF.agg (.cons (bF.refl _ _) (.cons (aX _) (.cons (aX _) (.cons (aX _) (.cons (aX _) .nil)))))) (bF.refl _ _) ⟨rfl,rfl⟩
 refine v0 ?_
 repeat refine vs ?_
 refine v0 (vl 0 (.agg ([nZ dd.Seq,aZ a',aZ b',aZ c',aZ v'])) fC rfl rfl rfl ?_)
 refine ve λu=>aK 6 ([nZ dd.Seq,aZ a',aZ b',aZ c',aZ v']) u rfl rfl rfl (by repeat (first | exact rfl | refine cD (bW _ _ _) ?_ | refine cD rfl ?_)) lZ rfl rfl λK5=>qk K5 rfl ?_
 refine v0 ?_
 cases m
 refine vrl λu=> ?_
 obtain⟨K6,le0⟩:=i7.fzO (n:=44) (f:=_) 1 5 ([nZ dd.Seq,.sl none 4 (List.map bS dd.Snaps),aZ b',aZ c',aZ v']) u rfl (.cons (Fz.refl _ _ _) (.cons (Fz.aw 1 eI oa u rfl (.refl _)) (.cons (Fz.refl _ _ _) (.cons (Fz.refl _ _ _) (.cons (Fz.refl _ _ _) .nil)))))
 obtain⟨K7,le1⟩:=i7.fzO (n:=44) (f:=_) 1 4 ([nZ dd.Seq,.sl none 4 (List.map bS dd.Snaps),.sl none 35 (List.map aI dd.Chunks),aZ c',aZ v']) K6 rfl (.cons (Fz.refl _ _ _) (.cons (Fz.refl _ _ _) (.cons (Fz.aw 1 cO ob K6 rfl (.refl _)) (.cons (Fz.refl _ _ _) (.cons (Fz.refl _ _ _) .nil)))))
 obtain⟨K8,le2⟩:=i7.fzO (n:=44) (f:=_) 1 3 ([nZ dd.Seq,.sl none 4 (List.map bS dd.Snaps),.sl none 35 (List.map aI dd.Chunks),.sl none 3 (List.map cP dd.Exps),aZ v']) K7 rfl (.cons (Fz.refl _ _ _) (.cons (Fz.refl _ _ _) (.cons (Fz.refl _ _ _) (.cons (Fz.aw 1 fL oc K7 rfl (.refl _)) (.cons (Fz.refl _ _ _) .nil)))))
 obtain⟨K82,le3⟩:=i7.fzO (n:=44) (f:=_) 1 2 ([nZ dd.Seq,.sl none 4 (List.map bS dd.Snaps),.sl none 35 (List.map aI dd.Chunks),.sl none 3 (List.map cP dd.Exps),.sl none 4 (List.map dC dd.Vols)]) K8 rfl (.cons (Fz.refl _ _ _) (.cons (Fz.refl _ _ _) (.cons (Fz.refl _ _ _) (.cons (Fz.refl _ _ _) (.cons (Fz.aw 1 dY ov K8 rfl (.refl _)) .nil)))))
 exact ON.mk (i7.trans (i7.trans (i7.trans le0 le1) le2) le3) (dW.of2 (.inl rfl) (qW (.agg (aF dd)) fC rfl (bB 2 K82 rfl) rfl) (fT _ _ (.sc (.int _ _)) rfl) (aT (List.nil_sublist _) K82).1 (bF.refl _ _) (bF.refl _ _) ⟨rfl,rfl⟩)
theorem aAP:aO Tryz.prog 29=true:=by kernel_rfl
open Go.Vm
theorem qB {α ρ:Type} {l:List α} (f:α→α) {F:Nat} {body:List α×Int→Option (Lp (List α×Int) ρ)} (hF:l.length < F)
    (hb:∀(cur:List α) (i:Nat) (x:α),cur.length=l.length→cur[i]? =some x→x∈l→i < l.length→body (cur,(i:Int))=some (.go (cur.set i (f x),((i+1:Nat):Int))))
    (he:∀cur:List α,cur.length=l.length→body (cur,(l.length:Int))=some (.brk (cur,(l.length:Int)))):
    aU body F (l,0)=some (.brk (l.map f,(l.length:Int))):=by
  have len:∀i,((l.take i).map f++l.drop i).length=l.length:=λi=>by simp; omega
  have:=kC (body:=body) (s0:=(l,(0:Int))) (n:=l.length) (F:=F) (λi:Nat=>((l.take i).map f++l.drop i,(i:Int))) hF (by simp) (λi hi=>by
    have hx:((l.take i).map f++l.drop i)[i]? =some l[i]:=by
      rw[List.getElem?_append_right (by simp; omega)]
      simp[Nat.min_eq_left (Nat.le_of_lt hi)]
    rw[hb _ i l[i] (len i) hx (List.getElem_mem hi) hi]
    congr 4
    rw[List.take_succ_eq_append_getElem hi,List.drop_eq_getElem_cons hi,List.set_append_right _ _ (by simp; omega),List.length_map,List.length_take,Nat.min_eq_left (Nat.le_of_lt hi),Nat.sub_self,List.set_cons_zero,List.map_append]
    simp only[List.map_cons,List.map_nil,List.append_assoc,List.cons_append,List.nil_append]) (he _ (len _))
  simpa using this
theorem KA {F:Nat} {m:bG} (hF:1000≤F) (hp:m.Parts.length≤10) (hi:∀p∈m.Parts,p.Ids.length≤40):J9 F m=some m:=by
 unfold J9 IL
 rw[cC (by simp; omega)]
 simp only[Option.bind_some,List.nil_append]
 rw[qB (l:=m.Parts) id (by omega) (λcur i x hc hx hm hi'=>by
  have:=hi x hm
  unfold tK QI
  rw[iW (by omega)]
  simp only[bH,hx,Option.bind_some,Int.ofNat_lt,hi',decide_true,if_true]
  rw[cC (by simp; omega)]
  rfl) (λcur hc=>by unfold tK; simp)]
 simp[aG]
theorem aFW {F:Nat} {c:aA} (hF:1000≤F) (h:Sm c):NH F c=some c:=by
 have hsn:=h.sn
 have hex:=h.ex
 have hvo:=h.vo
 have hch:=h.ch
 unfold NH IM IN IP IQ
 rw[cC (by simp; omega),cC (by simp; omega),cC (by simp; omega),cC (by simp; omega)]
 simp only[Option.bind_some,List.nil_append]
 rw[qB (l:=c.Snaps) id (by omega) (λcur i x hc hx hm hi=>by
  have h1:=h.sl x hm
  obtain⟨-,h2,h3⟩:=h.man x hm
  unfold tL EX
  rw[iW (by omega)]
  simp only[bH,hx,Option.bind_some,Int.ofNat_lt,hi,decide_true,if_true,KA hF h2 (λp hp=>(h3 p hp).2)]
  rw[cC (by simp; omega)]
  simp[List.set_set]) (λcur hc=>by unfold tL; simp)]
 simp only[aG]
 rw[qB (l:=c.Chunks) id (by omega) (λcur i x hc hx hm hi=>by
  have h1:=h.cl x hm
  unfold tM EX TV
  have e1:app [] x.Data=some x.Data:=by rw[cC (by simp; omega)]; rfl
  rw[iW (by omega)]
  simp only[bH,hx,Option.bind_some,Int.ofNat_lt,hi,decide_true,if_true,e1]
  rw[cC (by simp; omega)]
  simp[List.set_set]) (λcur hc=>by unfold tM; simp)]
 simp only[aG]
 rw[qB (l:=c.Exps) id (by omega) (λcur i x hc hx hm hi=>by
  have h1:=h.el x hm
  unfold tN EX
  rw[iW (by omega)]
  simp only[bH,hx,Option.bind_some,Int.ofNat_lt,hi,decide_true,if_true]
  rw[cC (by simp; omega)]
  simp) (λcur hc=>by unfold tN; simp)]
 simp[aG]
def lf (v:Int) (l:List a8):List a8:=l.filter λy=> !(y.Vol==v)
def aFX (v:Int) (s:aH):aH:= { s with Locs:=lf v s.Locs}
def QO (v:Int) (s:aB):aB:= { s with Locs:=lf v s.Locs}
def QP (v:Int) (s:aQ):aQ:= { s with Locs:=lf v s.Locs}
def NK (y:aB):Bool:= !y.Staged && ((y.Locs.length:Int)==0)
def ret (c:aA) (v:Int) (x:aP):aA:=
 { Seq:=c.Seq,Snaps:=c.Snaps.map (aFX v),Chunks:=(c.Chunks.map (QO v)).filter λy=> !NK y,Exps:=(c.Exps.map (QP v)).filter λy=> !((y.Locs.length:Int)==0),Vols:=c.Vols.set v.toNat { x with State:=3,Files:=0}}
def rel (c:aA) (v:Int) (x:aP):aA:= { c with Vols:=c.Vols.set v.toNat { x with State:=1,Epoch:=x.Epoch+1}}
theorem n29 {F:Nat} {c:aA} {d:aR} {k:Nat} {e:aA} {n:Int} (hF:1000≤F) (h:Sm c) (hg:iA c=true) (hk:nV.find? (λe=>e.1==d.Kind)=some (d.Kind,k)) (hd:o9 F k c d=some (e,n)) (hs:n=0→Sm e):
    UX F c d=some (if n=0 then (if iA e=true then (e,0) else (cG,1)) else (cG,n)):=by
  unfold UX
  rw[hk]
  simp only[m33 hF h,hg,if_true,Option.bind_some,aFW hF h,hd,aG]
  by_cases e0:n=0
  · rw[if_neg (by decide),if_neg (by simp[e0]),m33 hF (hs e0),if_pos e0]
    simp only[Option.bind_some]
    cases iA e <;> rfl
  · rw[if_neg (by decide),if_pos (by simpa using e0),if_neg e0]
open Go.Vm
theorem qC {l:List aB}:uF l↔(∀x∈l,m7 x.Id)∧l.Pairwise λy x=>ky y.Id < ky x.Id:=by
 unfold uF
 refine and_congr_right λ_=> ?_
 rw[List.pairwise_iff_getElem]
 constructor
 ·intro h i j hi hj hij
  exact h i j _ _ (List.getElem?_eq_getElem hi) (List.getElem?_eq_getElem hj) hij
 ·intro h i j x y hx hy hij
  obtain⟨hi,rfl⟩:=List.getElem?_eq_some_iff.1 hx
  obtain⟨hj,rfl⟩:=List.getElem?_eq_some_iff.1 hy
  exact h i j hi hj hij
structure At (l:List aB) (d:bO) (p:Nat):Prop where
 le:p≤l.length
 lo:∀x∈l.take p,ky x.Id < ky d
 hi:∀x∈l.drop p,ky d≤ky x.Id
theorem aAQ {F:Nat} {l:List aB} {d:bO} (hF:1000≤F) (hr:uF l) (hd:m7 d) (hl:l.length < 1000):∃p:Nat,At l d p∧wQ F l d=some ((p:Int),kR l d):=by
 obtain⟨p',e'⟩:=YO hF hr hd hl
 obtain⟨p,hp,e,h1,h2⟩:=bis (F:=F) hr hd hl F 0 l.length (by omega) (Nat.le_refl _) (by omega) (λj x _ hj=>by omega) (λj x hx hj=>by have:=(List.getElem?_eq_some_iff.1 hx).1; omega)
 have e2:∃b,wQ F l d=some ((p:Int),b):=by
  unfold wQ ME
  rw[show ((0:Int),(l.length:Int))=(((0:Nat):Int),(l.length:Int)) from rfl,e]
  simp only[aG]
  by_cases hlt:p < l.length
  ·have hx:l[p]? =some l[p]:=List.getElem?_eq_getElem hlt
   have hmem:=List.getElem_mem hlt
   generalize l[p]=x at hx hmem
   have gx:=hr.1 x hmem
   have e:AA F x d=some (if ky x.Id < ky d then -1 else if ky d < ky x.Id then 1 else 0):=by unfold AA; rw[ML F gx hd]; rfl
   simp only[Int.ofNat_lt,hlt,decide_true,if_true,bH,hx,Option.bind_some,e,aG]
   exact⟨_,rfl⟩
  ·have hn:¬((p:Int) < (l.length:Int)):=by omega
   simp only[hn,decide_false,Bool.false_eq_true,if_false,aG,Option.bind_some]
   exact⟨_,rfl⟩
 obtain⟨b,hb⟩:=e2
 refine⟨p,⟨hp,λx hx=> ?_,λx hx=> ?_⟩, ?_⟩
 ·obtain⟨i,hi,rfl⟩:=List.getElem_of_mem hx
  simp only[List.length_take] at hi
  rw[List.getElem_take]
  exact h1 i _ (List.getElem?_eq_getElem (by omega)) (by omega)
 ·obtain⟨i,hi,rfl⟩:=List.getElem_of_mem hx
  simp only[List.length_drop] at hi
  rw[List.getElem_drop]
  exact h2 (p+i) _ (List.getElem?_eq_getElem (by omega)) (by omega)
 ·rw[hb] at e' ⊢
  have:=Option.some.inj e'
  rw[(Prod.mk.inj this).2]
theorem IS {α:Type} {l:List α} {p:Nat} {x:α} (h:p≤l.length) (hl:l.length < 1000):pM l (p:Int) x=some (l.take p++x::l.drop p):=by
 unfold pM
 rw[if_pos ⟨by omega,by omega,by omega⟩]
 simp
theorem HG {l:List aB} {p:Nat} {d:bO} (hr:uF l) (ha:At l d p) (hd:m7 d) (h:kR l d=true):∃x,l[p]? =some x∧x.Id=d:=by
 obtain⟨y,hy,e⟩:=List.any_eq_true.1 h
 have e:=of_decide_eq_true e
 have hy2:y∈l.take p++l.drop p:=by rw[List.take_append_drop]; exact hy
 rcases List.mem_append.1 hy2 with h1 | h1
 ·have:=ha.lo y h1
  rw[e] at this; omega
 ·obtain⟨i,hi,e2⟩:=List.getElem_of_mem h1
  simp only[List.length_drop] at hi
  rw[List.getElem_drop] at e2
  have hp:l[p]? =some l[p]:=List.getElem?_eq_getElem (by omega)
  cases i with
  | zero=>exact⟨_,hp,by rw[← e,← e2]; rfl⟩
  | succ i=>
   have h3:=hr.2 p (p+(i+1)) _ _ hp (List.getElem?_eq_getElem (by omega)) (by omega)
   have h4:=ha.hi l[p] (by
    rw[List.drop_eq_getElem_cons (by omega)]
    exact List.mem_cons_self)
   rw[e2,e] at h3
   omega
open Go.Vm
theorem BF {ρ:Type} {body:Int→Option (Lp Int ρ)} {c:Nat→Bool}:∀(G q:Nat),q < G→(∀k:Nat,k≤q→body (k:Int)=some (if decide (0 < k) && c (k - 1) then .go ((k - 1:Nat):Int) else .brk (k:Int)))→
    ∃p:Nat,p≤q∧aU body G (q:Int)=some (.brk (p:Int))∧(∀j,p≤j→j < q→c j=true)∧(0 < p→c (p - 1)=false)
  | 0,_,h,_=>by omega
  | G+1,q,h,hb=>by
    unfold aU
    rw[hb q (Nat.le_refl _)]
    cases e:decide (0 < q) && c (q - 1) with
    | false=>
      refine⟨q,Nat.le_refl _,by simp,λj h1 h2=>by omega,λh0=> ?_⟩
      simpa [h0] using e
    | true=>
      simp only[Bool.and_eq_true,decide_eq_true_eq] at e
      obtain⟨p,h1,h2,h3,h4⟩:=BF (body:=body) (c:=c) G (q - 1) (by omega) λk hk=>hb k (by omega)
      refine⟨p,by omega,by simpa using h2,λj hj1 hj2=> ?_,h4⟩
      by_cases ej:j=q - 1
      · rw[ej]; exact e.2
      · exact h3 j hj1 (by omega)
structure Pt (l:List a8) (x:a8) (p:Nat):Prop where
 le:p≤l.length
 hi:∀y∈l.drop p,jO y x=true
 lo:∀y,0 < p→l[p - 1]? =some y→jO y x=false
theorem aAR {F:Nat} {l:List a8} {x:a8} (hF:1000≤F) (hl:l.length≤400):∃p,Pt l x p∧v8 F l x=some (l.take p++x::l.drop p):=by
 obtain⟨p,h1,h2,h3,h4⟩:=BF (body:=λs=>qA F l x s) (c:=λj=>match l[j]? with | none=>false | some y=>jO y x) F l.length (by omega) (λk hk=>by
  unfold qA
  by_cases h0:0 < k
  ·have hy:l[k - 1]? =some l[k - 1]:=List.getElem?_eq_getElem (by omega)
   generalize l[k - 1]=y at hy
   rw[yK (by omega) h0]
   have hk0:(0:Int) < (k:Int):=by omega
   simp only[bH,hy,hk0,h0,decide_true,Bool.true_and,if_true,Option.bind_some]
   have e:jO y x=(if decide (x.Vol < y.Vol)=true then true else if (y.Vol==x.Vol)=true then (if decide (x.File < y.File)=true then true else if (y.File==x.File)=true then decide (x.Off < y.Off) else false) else false):=by
    rw[Bool.eq_iff_iff,w6]
    by_cases a:x.Vol < y.Vol <;> by_cases b:y.Vol=x.Vol <;> by_cases c:x.File < y.File <;> by_cases d:y.File=x.File <;> simp[a,b,c,d] <;> omega
   rw[e]
   by_cases a:x.Vol < y.Vol <;> by_cases b:y.Vol=x.Vol <;> by_cases c:x.File < y.File <;> by_cases d:y.File=x.File <;> (simp[a,b,c,d,aG] <;> (split <;> rfl))
  ·obtain rfl:k=0:=by omega
   simp[aG])
 refine⟨p,⟨h1,λy hy=> ?_,λy h0 hy=> ?_⟩, ?_⟩
 ·obtain⟨i,hi,rfl⟩:=List.getElem_of_mem hy
  simp only[List.length_drop] at hi
  have:=h3 (p+i) (by omega) (by omega)
  rw[List.getElem?_eq_getElem (show p+i < l.length by omega)] at this
  rw[List.getElem_drop]
  exact this
 ·have:=h4 h0
  simp only[hy] at this
  exact this
 ·unfold v8
  rw[h2]
  simp only[aG]
  rw[IS h1 (by omega)]
  rfl
open Go.Vm
def E8 (c:aA) (y:aB):aB:=if n6 c y.Id then y else { y with Staged:=false,Data:= []}
def pF (y:aB):Bool:=y.Staged || decide (0 < (y.Locs.length:Int))
def KB (c:aA):List aB:=(c.Chunks.filter λy=>pF (E8 c y)).map (E8 c)
theorem aFY {F:Nat} {c:aA} (hF:1000≤F) (h:Sm c):HA F c=some (KB c):=by
 have hch:=h.ch
 unfold HA
 rw[mQ (l:=c.Chunks) [] (λy=>pF (E8 c y)) (E8 c) (by omega) (λi x hx hm hi acc ha=>by
  unfold tI
  simp only
  rw[iW (by omega)]
  simp only[List.length_nil] at ha
  have ea:∀z:aB,app acc [z]=some (acc++ [z]):=λz=>cC (by simp; omega)
  simp only[bH,hx,Option.bind_some,Int.ofNat_lt,hi,decide_true,if_true,m44 hF (c:= { Seq:=c.Seq,Snaps:=c.Snaps,Chunks:=c.Chunks,Exps:=c.Exps,Vols:=c.Vols}) h]
  unfold E8 pF
  show _=_
  rw[show n6 { Seq:=c.Seq,Snaps:=c.Snaps,Chunks:=c.Chunks,Exps:=c.Exps,Vols:=c.Vols} x.Id=n6 c x.Id from rfl]
  generalize n6 c x.Id=ub
  obtain⟨id,st,da,lo⟩:=x
  simp only
  cases ub
  ·simp only[Bool.not_false,Bool.false_eq_true,if_true,if_false,aG,Bool.false_or]
   generalize decide (0 < (lo.length:Int))=dl
   cases dl <;> simp[aG,ea]
  ·simp only[Bool.not_true,Bool.false_eq_true,if_true,if_false,aG]
   generalize decide (0 < (lo.length:Int))=dl
   cases dl <;> cases st <;> simp[aG,ea]) (λacc=>by unfold tI; simp)]
 simp[aG,KB]
def qY (c:aA) (n:Int):aA:= { c with Snaps:=c.Snaps.filter λs=> !(s.Seq==n)}
def C0 (c:aA) (n:Int):aA:= { qY c n with Chunks:=KB (qY c n)}
theorem tO {c:aA} (h:Sm c) (q:aH→Bool):Sm { c with Snaps:=c.Snaps.filter q}:=
 { h with
  g:=⟨h.g.1,λs hs=>h.g.2.1 s (List.mem_filter.1 hs).1,h.g.2.2⟩
  sn:=Nat.le_trans (List.length_filter_le _ _) h.sn
  sl:=λs hs=>h.sl s (List.mem_filter.1 hs).1
  man:=λs hs=>h.man s (List.mem_filter.1 hs).1}
end Go.Proofs.YtbbifdfldpfphaaGreat
