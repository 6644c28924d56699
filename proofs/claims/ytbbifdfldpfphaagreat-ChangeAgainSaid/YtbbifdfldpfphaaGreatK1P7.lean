import Derived.Test.YtbbifdfldpfphaaGreatK1P4
import Derived.Test.YtbbifdfldpfphaaGreatK1P5
import Derived.Test.YtbbifdfldpfphaaGreatK1P6
import Derived.Test.YtbbifdfldpfphaaGreatK1P3
set_option linter.unusedSimpArgs false
set_option linter.unusedVariables false
set_option maxHeartbeats 4000000
set_option maxRecDepth 100000
namespace Go.Proofs.YtbbifdfldpfphaaGreat
open Go.Vm
def sC (m:Nat) (p0:List aA) (p1:aA→Option Bool) (q0:Int):Option (Lp (Int) (Int)):=
 if (decide (q0 < (p0.length:Int)))=true then ((ix p0 q0).bind λx0=>(p1 x0).bind λy0=>if y0=true then (some (.ret q0)) else some (.go (IntKind.wrap .i64 (q0+1)))) else some (.brk q0)
def L8 (m:Nat) (p0:List aA) (p1:aA→Option Bool):Option (Int):=
 after (aW (λs=>sC m p0 p1 s) m 0) λr0=>some (-1)
theorem aDM {w:Nat} {p0:List aA} {p1:aA→Option Bool} {o:Int} (h:aE) {g_p0:cQ} (ok_p0:bG g_p0 35 p0.length) (K0:bT h [(cD g_p0 p0)]) {p1F:Nat} {p1C:List AV} (p1B:aO Tryz.prog p1F=true) (p1H:∀x0 o h0,hH h h0→p1 x0=some o→aL Tryz.prog p1F ([.agg (aH x0)]++p1C) h0 (λr h'=>r= .sc (.bool o)∧h'=h0)) (m:L8 w p0 p1=some o):
 aL Tryz.prog 53 [aZ g_p0,.fn (.func p1F) p1C] (hp h [(cD g_p0 p0)]) (λr h'=>r=nZ o∧h'=hp h [(cD g_p0 p0)]):=by
 refine sN K0 19 [.tmp 4] Tryz.func53 rfl rfl rfl rfl ?_
 unfold L8 at m
 refine vs (v0 (vs (vs (v0 (bU (dP jE ok_p0 rfl) ?_)))))
 refine jT m (σ:=Int) (λs=> [(cD g_p0 p0)]) (λs=>.c 0 (aZ g_p0) (.c 1 (.fn (.func p1F) p1C) (.c 7 (nZ (p0.length:Int)) (.c 8 (nZ s) .nil)))) (lx (.k4 .nil)) ?_ ?_
 rintro _ q0 x m
 replace m:sC w p0 p1 q0=some x:=m
 unfold sC at m
 refine vs (v0 (vs (v0 ?_)))
 apply vi m <;> intro c0 m
 refine v0 (vs (v0 (vs (v0 (vs (v0 ?_))))))
 obtain⟨x1,X0,m⟩:=aC m
 refine bU (cJ X0 fI ok_p0 rfl rfl) (vn (λu=>dW (fo:=0) (.agg (aH x1)) X0 cK ok_p0 mH rfl (aI 0 u rfl) (λ_=>rfl)) ?_)
 obtain⟨_,Y0,m⟩:=aC m
 refine vn (λu=>bY (p1H _ _ _ (aR (List.nil_sublist _) u).1 Y0) rfl p1B rfl) (v0 ?_)
 apply vi m <;> intro c1 m
 refine vs (v0 (v0 ?_))
 refine gO m λm=> ?_
 obtain rfl:=eY m
 exact vr λu=>dV.of1 (.inl rfl) (fP _ _ (.sc (.int _ _)) rfl) (bD u [0] rfl).2 (bE.refl _ _) ⟨rfl,rfl⟩
 refine v0 (v0 ?_)
 exact hD m
 refine v0 ?_
 exact u0 m
 rintro _ r0 m
 refine vs (v0 (v0 ?_))
 cases m
 exact vr λu=>dV.of1 (.inl rfl) (fP _ _ (.sc (.int _ _)) rfl) (bD u [0] rfl).2 (bE.refl _ _) ⟨rfl,rfl⟩
def pG (m:Nat) (p0:List aN) (p1:aN→Option Bool) (q0:Int):Option (Lp (Int) (Int)):=
 if (decide (q0 < (p0.length:Int)))=true then ((ix p0 q0).bind λx0=>(p1 x0).bind λy0=>if y0=true then (some (.ret q0)) else some (.go (IntKind.wrap .i64 (q0+1)))) else some (.brk q0)
def D5 (m:Nat) (p0:List aN) (p1:aN→Option Bool):Option (Int):=
 after (aW (λs=>pG m p0 p1 s) m 0) λr0=>some (-1)
theorem XR {w:Nat} {p0:List aN} {p1:aN→Option Bool} {o:Int} (h:aE) {g_p0:cQ} (ok_p0:bG g_p0 3 p0.length) (K0:bT h [(eX g_p0 p0)]) {p1F:Nat} {p1C:List AV} (p1B:aO Tryz.prog p1F=true) (p1H:∀x0 o h0,hH h h0→p1 x0=some o→aL Tryz.prog p1F ([.agg (cL x0)]++p1C) h0 (λr h'=>r= .sc (.bool o)∧h'=h0)) (m:D5 w p0 p1=some o):
 aL Tryz.prog 181 [aZ g_p0,.fn (.func p1F) p1C] (hp h [(eX g_p0 p0)]) (λr h'=>r=nZ o∧h'=hp h [(eX g_p0 p0)]):=by
 refine sN K0 19 [.tmp 4] Tryz.func181 rfl rfl rfl rfl ?_
 unfold D5 at m
 refine vs (v0 (vs (vs (v0 (bU (dP o5 ok_p0 rfl) ?_)))))
 refine jT m (σ:=Int) (λs=> [(eX g_p0 p0)]) (λs=>.c 0 (aZ g_p0) (.c 1 (.fn (.func p1F) p1C) (.c 7 (nZ (p0.length:Int)) (.c 8 (nZ s) .nil)))) (lx (.k4 .nil)) ?_ ?_
 rintro _ q0 x m
 replace m:pG w p0 p1 q0=some x:=m
 unfold pG at m
 refine vs (v0 (vs (v0 ?_)))
 apply vi m <;> intro c0 m
 refine v0 (vs (v0 (vs (v0 (vs (v0 ?_))))))
 obtain⟨x1,X0,m⟩:=aC m
 refine bU (cJ X0 iE ok_p0 rfl rfl) (vn (λu=>dW (fo:=0) (.agg (cL x1)) X0 fH ok_p0 tM rfl (aI 0 u rfl) (λ_=>rfl)) ?_)
 obtain⟨_,Y0,m⟩:=aC m
 refine vn (λu=>bY (p1H _ _ _ (aR (List.nil_sublist _) u).1 Y0) rfl p1B rfl) (v0 ?_)
 apply vi m <;> intro c1 m
 refine vs (v0 (v0 ?_))
 refine gO m λm=> ?_
 obtain rfl:=eY m
 exact vr λu=>dV.of1 (.inl rfl) (fP _ _ (.sc (.int _ _)) rfl) (bD u [0] rfl).2 (bE.refl _ _) ⟨rfl,rfl⟩
 refine v0 (v0 ?_)
 exact hD m
 refine v0 ?_
 exact u0 m
 rintro _ r0 m
 refine vs (v0 (v0 ?_))
 cases m
 exact vr λu=>dV.of1 (.inl rfl) (fP _ _ (.sc (.int _ _)) rfl) (bD u [0] rfl).2 (bE.refl _ _) ⟨rfl,rfl⟩
theorem XS:aO Tryz.prog 181=true:=by kernel_rfl
def PJ (m:Nat) (p0:bK) (c0:aS):Option (Bool):=
 some (p0.Vol==c0.Vol)
theorem aDN {w:Nat} {p0:bK} {c0:aS} {o:Bool} (h:aE) {c0K:cB} (c0H:h c0K=some (.obj 62 (aD c0))) (m:PJ w p0 c0=some o):
 aL Tryz.prog 127 [.agg (aQ p0),.ptr c0K 0] h (λr h'=>r= .sc (.bool o)∧h'=h):=by
 refine fY 9 [.tmp 3] Tryz.func127 rfl rfl rfl rfl ?_
 unfold PJ at m
 refine v ?_
 refine gZ rfl rfl λk2 K3=> ?_
 refine v (vl 0 _ cE rfl rfl rfl (vn (λu=>oH (nZ c0.Vol) cE rfl (jZ u c0H) rfl) (v ?_)))
 cases m
 exact eK rfl
theorem XT:aO Tryz.prog 127=true:=by kernel_rfl
def xD (m:Nat) (p0:List bK) (c0:aS):Option ((List bK)):=
 (LO m p0 (λx0=>PJ m x0 c0)).bind λy3=>some y3
theorem L9 {w:Nat} {p0:List bK} {c0:aS} {o:(List bK)} (h:aE) {g_p0:cQ} (ok_p0:bG g_p0 4 p0.length) (K0:bT h [fE g_p0 p0]) {c0K:cB} (c0H:h c0K=some (.obj 62 (aD c0))) (m:xD w p0 c0=some o):
 aL Tryz.prog 126 [aZ g_p0,.ptr c0K 0] (hp h [fE g_p0 p0]) (λr h'=>∃g:cQ,bG g 4 o.length∧bT h [(g.t,.obj 81 (fl aQ o g.sp))]∧r=aZ g∧h'=hp h [(g.t,.obj 81 (fl aQ o g.sp))]):=by
 refine sN K0 7 [.tmp 3] Tryz.func126 rfl rfl rfl rfl ?_
 unfold xD at m
 refine vs (v0 (vs (v0 ?_)))
 obtain⟨y3,Y4,m⟩:=aC m
 refine ve λu=>cY ((a9 u [0] rfl rfl).1.trans (cS h [fE g_p0 p0] []).symm) (cI (aC5 (hp h []) ok_p0 (cH [fE g_p0 p0] [] (a9 u [0] rfl rfl).2).2 XT (λ_ o h0 hs ho=>aDN _ (hs _ _ (jZ (cH [fE g_p0 p0] [] (a9 u [0] rfl rfl).2).1 c0H)) ho) Y4) rfl aC6 rfl ?_)
 rintro x h' ⟨ag5,O6,K7,rfl,rfl⟩
 have K8:=a9 (L':= [fE ag5 y3]) (dF (cH [fE g_p0 p0] [] (a9 u [0] rfl rfl).2).1 K7) [0] rfl rfl
 refine qk K8.2 ((cS h [fE ag5 y3] []).trans K8.1) ?_
 refine v0 ?_
 obtain rfl:=eY m
 exact vr λu=>dV.one (.inl rfl) (aR (h0:=h) (L':= [fE ag5 y3]) (.refl _) u).1 (bE.refl _ _) ⟨ag5,O6,(aR (h0:=h) (L':= [fE ag5 y3]) (.refl _) u).2,rfl,rfl⟩
theorem MA:aO Tryz.prog 126=true:=by kernel_rfl
def MB (m:Nat) (p0:aA):Option (Bool):=
 after (if (!p0.Staged)=true then (some (.brk ((p0.Locs.length:Int)==0))) else some (.brk false):Option (Lp (Bool) (Bool))) λj7=>some j7
theorem aDO {u:Nat} {p0:aA} {o:Bool} (h:aE) (m:MB u p0=some o):
 aL Tryz.prog 129 [.agg (aH p0)] h (λr h'=>r= .sc (.bool o)∧h'=h):=by
 refine fY 12 [.tmp 2] Tryz.func129 rfl rfl rfl rfl ?_
 unfold MB at m
 refine v ?_
 refine gZ rfl rfl λk2 K3=> ?_
 refine vs ?_
 refine fR m (σ:=Bool) (λs=> [(some k2,.obj 44 (aH p0))]) (λs=>.c 2 (.sc (.bool s)) .nil) (λx m=> ?_) ?_
 refine v (vl 0 _ DH rfl rfl rfl ?_)
 apply vi m <;> intro b8 m
 rw[b8]
 refine vl 0 _ fJ rfl rfl rfl (dL jJ rfl ?_)
 exact iD m
 rw[b8]
 exact iD m
 rintro _ j7 m
 refine v ?_
 obtain rfl:=eY m
 exact eK rfl
theorem XU:aO Tryz.prog 129=true:=by kernel_rfl
def nN (m:Nat) (p1:aA→Option Bool) (q0:List aA) (q1:Int) (q2:Int):Option (Lp ((List aA)×Int×Int) ((List aA))):=
 if (decide (q2 < (q0.length:Int)))=true then ((ix q0 q2).bind λx0=>(p1 x0).bind λy0=>after (if (!y0)=true then ((ix q0 q1).bind λ_=>some (.brk (q0.set q1.toNat (x0),IntKind.wrap .i64 (q1+1)))) else some (.brk (q0,q1)):Option (Lp ((List aA)×Int) (Lp ((List aA)×Int×Int) ((List aA))))) λ⟨j0,j1⟩=>some (.go (j0,j1,IntKind.wrap .i64 (q2+1)))) else some (.brk (q0,q1,q2))
def D6 (m:Nat) (p0:List aA) (p1:aA→Option Bool):Option ((List aA)):=
 (L8 m p0 p1).bind λy3=>if (y3==(-1))=true then (some p0) else after (aW (λs=>nN m p1 s.1 s.2.1 s.2.2) m (p0,y3,IntKind.wrap .i64 (y3+1))) λ⟨r0,r1,r2⟩=>grd (decide (0≤r1) && decide (r1 < (r0.length:Int))) <| grd (decide (0≤r1) && decide (r1≤(r0.length:Int))) <| some (r0.take r1.toNat)
theorem XV {w:Nat} {p0:List aA} {p1:aA→Option Bool} {o:(List aA)} (h:aE) {g_p0:cQ} (ok_p0:bG g_p0 35 p0.length) (K0:bT h [(cD g_p0 p0)]) {p1F:Nat} {p1C:List AV} (p1B:aO Tryz.prog p1F=true) (p1H:∀x0 o h0,hH h h0→p1 x0=some o→aL Tryz.prog p1F ([.agg (aH x0)]++p1C) h0 (λr h'=>r= .sc (.bool o)∧h'=h0)) (m:D6 w p0 p1=some o):
 aL Tryz.prog 128 [aZ g_p0,.fn (.func p1F) p1C] (hp h [(cD g_p0 p0)]) (λr h'=>∃g:cQ,bG g 35 o.length∧bT h [(g.t,.obj 44 (fl aH o g.sp))]∧r=aZ g∧h'=hp h [(g.t,.obj 44 (fl aH o g.sp))]):=by
 refine sN K0 42 [.tmp 4] Tryz.func128 rfl rfl rfl rfl ?_
 unfold D6 at m
 refine vs (v0 (vs (v0 ?_)))
 obtain⟨_,Y4,m⟩:=aC m
 refine ve λu=>cY ((a9 u [0] rfl rfl).1.trans (cS h [(cD g_p0 p0)] []).symm) (cI (aDM (hp h []) ok_p0 (cH [(cD g_p0 p0)] [] (a9 u [0] rfl rfl).2).2 p1B (λx0 o h0 hs ho=>p1H x0 o h0 ((aR (List.nil_sublist _) (cH [(cD g_p0 p0)] [] (a9 u [0] rfl rfl).2).1).1.trans hs) ho) Y4) rfl WP rfl ?_)
 rintro x h' ⟨rfl,rfl⟩
 refine qk u ((cS h [(cD g_p0 p0)] []).trans (a9 u [0] rfl rfl).1.symm) ?_
 refine vs (vs (v0 (v0 ?_)))
 apply vi m <;> intro c7 m
 refine vs (v0 (v0 ?_))
 obtain rfl:=eY m
 exact vr λu=>dV.one (.inl rfl) (aR (h0:=h) (L':= [(cD g_p0 p0)]) (.refl _) u).1 (bE.refl _ _) ⟨g_p0,ok_p0,(aR (h0:=h) (L':= [(cD g_p0 p0)]) (.refl _) u).2,rfl,rfl⟩
 refine v0 (vs (vs (v0 ?_)))
 refine m5 m (σ:=(List aA)×Int×Int) (τ:=cQ) (λg s=> [(cD g s.1)]) (λg s=>bG g 35 (s.1:List aA).length) (λg s=>.c 0 (aZ g) (.c 1 (.fn (.func p1F) p1C) (.c 5 (nZ s.2.1) (.c 6 (nZ s.2.2) .nil)))) g_p0 ok_p0 (lx (.k4 .nil)) ?_ ?_
 rintro ag0 ⟨q0,q1,q2⟩ x O0 m
 replace m:nN w p1 q0 q1 q2=some x:=m
 unfold nN at m
 refine vs (vs (v0 (bU (dP jE O0 rfl) (v0 ?_))))
 apply vi m <;> intro c0 m
 refine v0 (vs (v0 (vs (v0 ?_))))
 obtain⟨x1,X0,m⟩:=aC m
 refine bU (cJ X0 fI O0 rfl rfl) (vn (λu=>dW (fo:=0) (.agg (aH x1)) X0 cK O0 mH rfl (aI 0 u rfl) (λ_=>rfl)) ?_)
 refine ve λu=>bI (bM jR++(JK:List AV)) u m7 rfl rfl λk86 K1=>qk K1 rfl ?_
 refine ve λu=>aJ 0 (aH x1) u rfl rfl rfl rfl wN rfl rfl λK2=>qk K2 rfl ?_
 refine vs (v0 (vl 0 (.agg (aH x1)) mH rfl rfl rfl ?_))
 obtain⟨_,Y0,m⟩:=aC m
 refine vn (λu=>bY (p1H _ _ _ (aR (List.nil_sublist _) u).1 Y0) rfl p1B rfl) ?_
 refine oU m (σ:=(List aA)×Int) (τ:=cQ) (λg s=> [(some k86,.obj 44 (aH x1)),(cD g s.1)]) (λg s=>bG g 35 (s.1:List aA).length) (λg s=>.c 0 (aZ g) (.c 1 (.fn (.func p1F) p1C) (.c 5 (nZ s.2) (.c 6 (nZ q2) .nil)))) (λx m=> ?_) ?_
 refine v0 ?_
 apply vi m <;> intro c1 m
 refine vs (v0 (vl 0 (.agg (aH x1)) mH rfl rfl rfl ?_))
 obtain⟨_,X1,m⟩:=aC m
 refine bU (cJ X1 fI O0 rfl rfl) ?_
 refine ve λu=>cG (fo:=0) (x1:aA) 1 u X1 cK O0 rfl rfl rfl rfl (cT.refl _ _) wN rfl rfl λK3=>qk K3 rfl ?_
 refine v0 ?_
 exact eR m ag0 (bG.set O0) (lx (.k4 .nil))
 refine v0 ?_
 exact eR m ag0 O0 (lx (.k4 .nil))
 rintro ag1 ⟨j0,j1⟩ O1 m
 refine v0 ?_
 exact eR m ag1 O1 (l4 [1] rfl rfl (.k4 .nil))
 refine v0 ?_
 exact kT m ag0 O0 (lx (.k4 .nil))
 rintro ag2 ⟨r0,r1,r2⟩ t0 m
 refine vs (v0 ?_)
 obtain⟨Z0,m⟩:=mG m
 refine bU (A7 Z0 fI t0 rfl rfl) ?_
 refine ve λu=>zH 0 u Z0 cK t0 u26 m7 rfl rfl rfl rfl λsp0 O2 K4=>qk K4 rfl ?_
 refine vs (v0 ?_)
 obtain⟨Z1,m⟩:=mG m
 refine bU (A8 Z1 t0 fI rfl rfl) (v0 ?_)
 cases m
 exact vr λu=>dV.one (.inl rfl) (aR (h0:=h) (L':= [((⟨ag2.t,r1.toNat,ag2.cap,sp0⟩:cQ).t,.obj 44 (fl aH (r0.take r1.toNat:List aA) (⟨ag2.t,r1.toNat,ag2.cap,sp0⟩:cQ).sp))]) (.refl _) u).1 (bE.refl _ _) ⟨(⟨ag2.t,r1.toNat,ag2.cap,sp0⟩:cQ),O2,(aR (h0:=h) (L':= [((⟨ag2.t,r1.toNat,ag2.cap,sp0⟩:cQ).t,.obj 44 (fl aH (r0.take r1.toNat:List aA) (⟨ag2.t,r1.toNat,ag2.cap,sp0⟩:cQ).sp))]) (.refl _) u).2,rfl,rfl⟩
theorem XW:aO Tryz.prog 128=true:=by kernel_rfl
def PK (m:Nat) (p0:aN):Option (Bool):=
 some ((p0.Locs.length:Int)==0)
theorem aDP {u:Nat} {p0:aN} {o:Bool} (h:aE) (m:PK u p0=some o):
 aL Tryz.prog 131 [.agg (cL p0)] h (λr h'=>r= .sc (.bool o)∧h'=h):=by
 refine fY 7 [.tmp 2] Tryz.func131 rfl rfl rfl rfl ?_
 unfold PK at m
 refine v ?_
 refine gZ rfl rfl λk2 K3=> ?_
 refine v (vl 0 _ fJ rfl rfl rfl (dL jJ rfl (v ?_)))
 cases m
 exact eK rfl
theorem XX:aO Tryz.prog 131=true:=by kernel_rfl
def nO (m:Nat) (p1:aN→Option Bool) (q0:List aN) (q1:Int) (q2:Int):Option (Lp ((List aN)×Int×Int) ((List aN))):=
 if (decide (q2 < (q0.length:Int)))=true then ((ix q0 q2).bind λx0=>(p1 x0).bind λy0=>after (if (!y0)=true then ((ix q0 q1).bind λ_=>some (.brk (q0.set q1.toNat (x0),IntKind.wrap .i64 (q1+1)))) else some (.brk (q0,q1)):Option (Lp ((List aN)×Int) (Lp ((List aN)×Int×Int) ((List aN))))) λ⟨j0,j1⟩=>some (.go (j0,j1,IntKind.wrap .i64 (q2+1)))) else some (.brk (q0,q1,q2))
def D7 (m:Nat) (p0:List aN) (p1:aN→Option Bool):Option ((List aN)):=
 (D5 m p0 p1).bind λy3=>if (y3==(-1))=true then (some p0) else after (aW (λs=>nO m p1 s.1 s.2.1 s.2.2) m (p0,y3,IntKind.wrap .i64 (y3+1))) λ⟨r0,r1,r2⟩=>grd (decide (0≤r1) && decide (r1 < (r0.length:Int))) <| grd (decide (0≤r1) && decide (r1≤(r0.length:Int))) <| some (r0.take r1.toNat)
theorem XY {w:Nat} {p0:List aN} {p1:aN→Option Bool} {o:(List aN)} (h:aE) {g_p0:cQ} (ok_p0:bG g_p0 3 p0.length) (K0:bT h [(eX g_p0 p0)]) {p1F:Nat} {p1C:List AV} (p1B:aO Tryz.prog p1F=true) (p1H:∀x0 o h0,hH h h0→p1 x0=some o→aL Tryz.prog p1F ([.agg (cL x0)]++p1C) h0 (λr h'=>r= .sc (.bool o)∧h'=h0)) (m:D7 w p0 p1=some o):
 aL Tryz.prog 130 [aZ g_p0,.fn (.func p1F) p1C] (hp h [(eX g_p0 p0)]) (λr h'=>∃g:cQ,bG g 3 o.length∧bT h [(g.t,.obj 99 (fl cL o g.sp))]∧r=aZ g∧h'=hp h [(g.t,.obj 99 (fl cL o g.sp))]):=by
 refine sN K0 42 [.tmp 4] Tryz.func130 rfl rfl rfl rfl ?_
 unfold D7 at m
 refine vs (v0 (vs (v0 ?_)))
 obtain⟨_,Y4,m⟩:=aC m
 refine ve λu=>cY ((a9 u [0] rfl rfl).1.trans (cS h [(eX g_p0 p0)] []).symm) (cI (XR (hp h []) ok_p0 (cH [(eX g_p0 p0)] [] (a9 u [0] rfl rfl).2).2 p1B (λx0 o h0 hs ho=>p1H x0 o h0 ((aR (List.nil_sublist _) (cH [(eX g_p0 p0)] [] (a9 u [0] rfl rfl).2).1).1.trans hs) ho) Y4) rfl XS rfl ?_)
 rintro x h' ⟨rfl,rfl⟩
 refine qk u ((cS h [(eX g_p0 p0)] []).trans (a9 u [0] rfl rfl).1.symm) ?_
 refine vs (vs (v0 (v0 ?_)))
 apply vi m <;> intro c7 m
 refine vs (v0 (v0 ?_))
 obtain rfl:=eY m
 exact vr λu=>dV.one (.inl rfl) (aR (h0:=h) (L':= [(eX g_p0 p0)]) (.refl _) u).1 (bE.refl _ _) ⟨g_p0,ok_p0,(aR (h0:=h) (L':= [(eX g_p0 p0)]) (.refl _) u).2,rfl,rfl⟩
 refine v0 (vs (vs (v0 ?_)))
 refine m5 m (σ:=(List aN)×Int×Int) (τ:=cQ) (λg s=> [(eX g s.1)]) (λg s=>bG g 3 (s.1:List aN).length) (λg s=>.c 0 (aZ g) (.c 1 (.fn (.func p1F) p1C) (.c 5 (nZ s.2.1) (.c 6 (nZ s.2.2) .nil)))) g_p0 ok_p0 (lx (.k4 .nil)) ?_ ?_
 rintro ag0 ⟨q0,q1,q2⟩ x O0 m
 replace m:nO w p1 q0 q1 q2=some x:=m
 unfold nO at m
 refine vs (vs (v0 (bU (dP o5 O0 rfl) (v0 ?_))))
 apply vi m <;> intro c0 m
 refine v0 (vs (v0 (vs (v0 ?_))))
 obtain⟨x1,X0,m⟩:=aC m
 refine bU (cJ X0 iE O0 rfl rfl) (vn (λu=>dW (fo:=0) (.agg (cL x1)) X0 fH O0 tM rfl (aI 0 u rfl) (λ_=>rfl)) ?_)
 refine ve λu=>bI ([nZ 0,nZ 0,sZ]) u qE rfl rfl λk86 K1=>qk K1 rfl ?_
 refine ve λu=>aJ 0 (cL x1) u rfl rfl rfl rfl FO rfl rfl λK2=>qk K2 rfl ?_
 refine vs (v0 (vl 0 (.agg (cL x1)) tM rfl rfl rfl ?_))
 obtain⟨_,Y0,m⟩:=aC m
 refine vn (λu=>bY (p1H _ _ _ (aR (List.nil_sublist _) u).1 Y0) rfl p1B rfl) ?_
 refine oU m (σ:=(List aN)×Int) (τ:=cQ) (λg s=> [(some k86,.obj 99 (cL x1)),(eX g s.1)]) (λg s=>bG g 3 (s.1:List aN).length) (λg s=>.c 0 (aZ g) (.c 1 (.fn (.func p1F) p1C) (.c 5 (nZ s.2) (.c 6 (nZ q2) .nil)))) (λx m=> ?_) ?_
 refine v0 ?_
 apply vi m <;> intro c1 m
 refine vs (v0 (vl 0 (.agg (cL x1)) tM rfl rfl rfl ?_))
 obtain⟨_,X1,m⟩:=aC m
 refine bU (cJ X1 iE O0 rfl rfl) ?_
 refine ve λu=>cG (fo:=0) (x1:aN) 1 u X1 fH O0 rfl rfl rfl rfl (cT.refl _ _) FO rfl rfl λK3=>qk K3 rfl ?_
 refine v0 ?_
 exact eR m ag0 (bG.set O0) (lx (.k4 .nil))
 refine v0 ?_
 exact eR m ag0 O0 (lx (.k4 .nil))
 rintro ag1 ⟨j0,j1⟩ O1 m
 refine v0 ?_
 exact eR m ag1 O1 (l4 [1] rfl rfl (.k4 .nil))
 refine v0 ?_
 exact kT m ag0 O0 (lx (.k4 .nil))
 rintro ag2 ⟨r0,r1,r2⟩ t0 m
 refine vs (v0 ?_)
 obtain⟨Z0,m⟩:=mG m
 refine bU (A7 Z0 iE t0 rfl rfl) ?_
 refine ve λu=>zH 0 u Z0 fH t0 u27 qE rfl rfl rfl rfl λsp0 O2 K4=>qk K4 rfl ?_
 refine vs (v0 ?_)
 obtain⟨Z1,m⟩:=mG m
 refine bU (A8 Z1 t0 iE rfl rfl) (v0 ?_)
 cases m
 exact vr λu=>dV.one (.inl rfl) (aR (h0:=h) (L':= [((⟨ag2.t,r1.toNat,ag2.cap,sp0⟩:cQ).t,.obj 99 (fl cL (r0.take r1.toNat:List aN) (⟨ag2.t,r1.toNat,ag2.cap,sp0⟩:cQ).sp))]) (.refl _) u).1 (bE.refl _ _) ⟨(⟨ag2.t,r1.toNat,ag2.cap,sp0⟩:cQ),O2,(aR (h0:=h) (L':= [((⟨ag2.t,r1.toNat,ag2.cap,sp0⟩:cQ).t,.obj 99 (fl cL (r0.take r1.toNat:List aN) (⟨ag2.t,r1.toNat,ag2.cap,sp0⟩:cQ).sp))]) (.refl _) u).2,rfl,rfl⟩
theorem XZ:aO Tryz.prog 130=true:=by kernel_rfl
def xE (m:Nat) (p0:aB) (p1:aS) (q0:List aG) (q1:Int):Option (Lp ((List aG)×Int) (Int×fA)):=
 if (decide (q1 < (p0.Snaps.length:Int)))=true then ((ix q0 q1).bind λx0=>(xD m x0.Locs p1).bind λy0=>(ix q0 q1).bind λx1=>some (.go (q0.set q1.toNat ({ x1 with Locs:=y0}),IntKind.wrap .i64 (q1+1)))) else some (.brk (q0,q1))
def xF (m:Nat) (p0:aB) (p1:aS) (q0:List aA) (q1:Int):Option (Lp ((List aA)×Int) (Int×fA)):=
 if (decide (q1 < (p0.Chunks.length:Int)))=true then ((ix q0 q1).bind λx0=>(xD m x0.Locs p1).bind λy0=>(ix q0 q1).bind λx1=>some (.go (q0.set q1.toNat ({ x1 with Locs:=y0}),IntKind.wrap .i64 (q1+1)))) else some (.brk (q0,q1))
def xG (m:Nat) (p0:aB) (p1:aS) (q0:List aN) (q1:Int):Option (Lp ((List aN)×Int) (Int×fA)):=
 if (decide (q1 < (p0.Exps.length:Int)))=true then ((ix q0 q1).bind λx0=>(xD m x0.Locs p1).bind λy0=>(ix q0 q1).bind λx1=>some (.go (q0.set q1.toNat ({ x1 with Locs:=y0}),IntKind.wrap .i64 (q1+1)))) else some (.brk (q0,q1))
def UB (m:Nat) (p0:aB) (p1:aS):Option (Int×fA):=
 after (if (decide (p1.Vol < 0))=true then (some (.brk true)) else if (decide ((p0.Vols.length:Int)≤p1.Vol))=true then (some (.brk true)) else (ix p0.Vols p1.Vol).bind λx1=>some (.brk (x1.State !=2)):Option (Lp (Bool) (Int×fA))) λj0=>if j0=true then (some (1,p0.Snaps,p0.Chunks,p0.Exps,p0.Vols)) else (ix p0.Vols p1.Vol).bind λx2=>(ix (p0.Vols.set p1.Vol.toNat ({ x2 with State:=3})) p1.Vol).bind λx3=>after (aW (λs=>xE m p0 p1 s.1 s.2) m (p0.Snaps,0)) λ⟨r0,r1⟩=>after (aW (λs=>xF m p0 p1 s.1 s.2) m (p0.Chunks,0)) λ⟨r2,r3⟩=>after (aW (λs=>xG m p0 p1 s.1 s.2) m (p0.Exps,0)) λ⟨r4,r5⟩=>(D6 m r2 (λx0=>MB m x0)).bind λy0=>(D7 m r4 (λx0=>PK m x0)).bind λy1=>some (0,r0,y0,y1,(p0.Vols.set p1.Vol.toNat ({ x2 with State:=3})).set p1.Vol.toNat ({ x3 with Files:=0}))
theorem W75 {w:Nat} {p0:aB} {p1:aS} {o:Int×fA} (h:aE) {p0K:cB} {gS:dE} (ok_Snaps:lP aG.Locs 4 4 gS (p0.Snaps:List aG)) {gC:dE} (oC:lP aA.Locs 35 4 gC (p0.Chunks:List aA)) {gE:dE} (oE:lP aN.Locs 3 4 gE (p0.Exps:List aN)) {gV:cQ} (oV:bG gV 4 p0.Vols.length) (K0:bT h ([OC p0K p0.Seq gS.a gC.a gE.a gV,bJ gS p0.Snaps,aU gC p0.Chunks,bO gE p0.Exps,aM gV p0.Vols]++((bN gS p0.Snaps)++((aY gC p0.Chunks)++(bQ gE p0.Exps))))) (m:UB w p0 p1=some o):
 aL Tryz.prog 75 [.ptr p0K 0,.agg (aD p1)] (hp h ([OC p0K p0.Seq gS.a gC.a gE.a gV,bJ gS p0.Snaps,aU gC p0.Chunks,bO gE p0.Exps,aM gV p0.Vols]++((bN gS p0.Snaps)++((aY gC p0.Chunks)++(bQ gE p0.Exps))))) (λr h'=>∃g_Snaps':cQ,bG g_Snaps' 4 (o.2.1:List aG).length∧∃g_Chunks':cQ,bG g_Chunks' 35 (o.2.2.1:List aA).length∧∃g_Exps':cQ,bG g_Exps' 3 (o.2.2.2.1:List aN).length∧∃g_Vols':cQ,bG g_Vols' 4 (o.2.2.2.2:List aP).length∧bT h [OC p0K p0.Seq g_Snaps' g_Chunks' g_Exps' g_Vols',bB g_Snaps' o.2.1,aT g_Chunks' o.2.2.1,bV g_Exps' o.2.2.2.1,aM g_Vols' o.2.2.2.2]∧r=nZ o.1∧h'=hp h [OC p0K p0.Seq g_Snaps' g_Chunks' g_Exps' g_Vols',bB g_Snaps' o.2.1,aT g_Chunks' o.2.2.1,bV g_Exps' o.2.2.2.1,aM g_Vols' o.2.2.2.2]):=by
 refine sN K0 145 [.tmp 4] Tryz.func75 rfl rfl rfl rfl ?_
 unfold UB at m
 refine vs (v0 ?_)
 refine gZ rfl rfl λk2 K3=> ?_
 refine vs (vs ?_)
 refine fR m (σ:=Bool) (λs=>([(some k2,.obj 62 (aD p1)),OC p0K p0.Seq gS.a gC.a gE.a gV,bJ gS p0.Snaps,aU gC p0.Chunks,bO gE p0.Exps,aM gV p0.Vols]++((bN gS p0.Snaps)++((aY gC p0.Chunks)++(bQ gE p0.Exps))))) (λs=>.c 0 (.ptr p0K 0) (.c 3 (.ptr k2 0) (.c 33 (.sc (.bool s)) .nil))) (λx m=> ?_) ?_
 refine v0 (u7 (by kernel_rfl) (dM fD rfl rfl (vl 0 _ cE rfl rfl rfl ?_)))
 apply vi m <;> intro b0 m
 rw[b0]
 exact gW m
 rw[b0]
 refine dM fD rfl rfl (vl 0 _ cE rfl rfl rfl (jD rfl (dM fN rfl rfl (vl 1 (aZ gV) gH rfl rfl rfl (bU (dP o6 oV rfl) ?_)))))
 apply vi m <;> intro b1 m
 rw[b1]
 exact gW m
 rw[b1]
 refine jD rfl (dM fN rfl rfl (vl 1 (aZ gV) gH rfl rfl rfl (dM fD rfl rfl (vl 0 _ cE rfl rfl rfl ?_))))
 obtain⟨x1,X0,m⟩:=aC m
 refine bU (cJ X0 kZ oV rfl rfl) (bU (cR (bG.ne oV X0) mI rfl rfl) (vn (λu=>dW (fo:=2) (nZ x1.State) X0 dY oV cE rfl (aI 5 u rfl) (λ_=>rfl)) ?_))
 exact gW m
 rintro _ j0 m
 refine v0 ?_
 apply vi m <;> intro c0 m
 refine vs (v0 (v0 ?_))
 cases m
 refine BM (CR (L':=([(some k2,.obj 62 (aD p1)),OC p0K p0.Seq gS.a gC.a gE.a gV,bB gS.a p0.Snaps,aU gC p0.Chunks,bO gE p0.Exps,aM gV p0.Vols]++((aY gC p0.Chunks)++(bQ gE p0.Exps)))) [[_], [_], [_], [_], [_], [_],_,_,_] rfl 2 6 eO pQ ok_Snaps.k rfl rfl (by decide) rfl) ?_
 refine BM (CR (L':=([(some k2,.obj 62 (aD p1)),OC p0K p0.Seq gS.a gC.a gE.a gV,bB gS.a p0.Snaps,aT gC.a p0.Chunks,bO gE p0.Exps,aM gV p0.Vols]++(bQ gE p0.Exps))) [[_], [_], [_], [_], [_], [_],_,_] rfl 3 6 eO nL oC.k rfl rfl (by decide) rfl) ?_
 refine BM (CR (L':= [(some k2,.obj 62 (aD p1)),OC p0K p0.Seq gS.a gC.a gE.a gV,bB gS.a p0.Snaps,aT gC.a p0.Chunks,bV gE.a p0.Exps,aM gV p0.Vols]) [[_], [_], [_], [_], [_], [_],_] rfl 4 6 eO uB oE.k rfl rfl (by decide) rfl) ?_
 exact vr λu=>dV.of1 (.inl rfl) (fP _ _ (.sc (.int _ _)) rfl) (bD u [1,2,3,4,5] rfl).2 (bE.refl _ _) ⟨gS.a,ok_Snaps.k.a,gC.a,oC.k.a,gE.a,oE.k.a,gV,oV,(bD u [1,2,3,4,5] rfl).1,rfl,rfl⟩
 refine v0 (vs (v0 ?_))
 refine vz [(1000000,some p0K,.obj 30 ([nZ p0.Seq,aZ gS.a,aZ gC.a,aZ gE.a,aZ gV])),(1000000,some k2,.obj 62 (aD p1))] mixed (λu=>⟨λ_=>aI 1 u rfl,λ_=>aI 0 u rfl,trivial⟩) λu=> ?_
 refine zP 0 rfl rfl ?_
 refine zN 1 rfl rfl ?_
 refine zF 2 rfl fN rfl ?_
 refine zL 3 0 (aZ gV) rfl gH rfl rfl rfl ?_
 refine zF 4 rfl fD rfl ?_
 refine zL 5 1 (nZ p1.Vol) rfl cE rfl rfl rfl ?_
 refine zP 6 rfl rfl ?_
 refine zN 7 rfl rfl ?_
 refine zF 8 rfl fN rfl ?_
 refine zL 9 0 (aZ gV) rfl gH rfl rfl rfl ?_
 refine zF 10 rfl fD rfl ?_
 refine zL 11 1 (nZ p1.Vol) rfl cE rfl rfl rfl ?_
 obtain⟨x2,X1,m⟩:=aC m
 refine zC 12 rfl (cJ X1 kZ oV rfl rfl) ?_
 refine zC 13 rfl (cR (bG.ne oV X1) mI rfl rfl) ?_
 refine zE 14 rfl (cG (fo:=2) ({ x2 with State:=3}:aP) 5 u X1 dY oV rfl rfl rfl rfl (cT.refl _ _) xW rfl rfl λK1=>⟨⟨λ_=>aI 1 K1 rfl,λ_=>aI 0 K1 rfl,trivial⟩, ?_⟩)
 obtain⟨x3,X2,m⟩:=aC m
 refine zC 15 rfl (cJ X2 kZ (bG.set oV) rfl rfl) ?_
 refine zC 16 rfl (cR (bG.ne (bG.set oV) X2) o7 rfl rfl) ?_
 refine zE 17 rfl (cG (fo:=3) ({ x3 with Files:=0}:aP) 5 K1 X2 dY (bG.set oV) rfl rfl rfl rfl (cT.refl _ _) xW rfl rfl λK2=>⟨⟨λ_=>aI 1 K2 rfl,λ_=>aI 0 K2 rfl,trivial⟩, ?_⟩)
 refine zX (qk (f:=RS 49 _ _ _ _ _ _ _ _ _ _ _ _ _ _ _ _ _) K2 rfl ?_)
 refine vs (v0 (vs (vs (v0 (jD rfl (dM dU rfl rfl (vl 1 (aZ gS.a) fM rfl rfl rfl (bU (dP jU ok_Snaps.k.a rfl) ?_))))))))
 refine m5 m (σ:=(List aG)×Int) (τ:=dE) (λg s=>([(some k2,.obj 62 (aD p1)),OC p0K p0.Seq g.a gC.a gE.a gV,bJ g s.1,aU gC p0.Chunks,bO gE p0.Exps,aM gV ((p0.Vols.set p1.Vol.toNat ({ x2 with State:=3})).set p1.Vol.toNat ({ x3 with Files:=0}))]++((bN g s.1)++((aY gC p0.Chunks)++(bQ gE p0.Exps))))) (λg s=>lP aG.Locs 4 4 g (s.1:List aG)) (λg s=>.c 0 (.ptr p0K 0) (.c 5 (.fn (.func 126) [.ptr k2 0]) (.c 55 (nZ (p0.Snaps.length:Int)) (.c 56 (nZ s.2) .nil)))) gS ok_Snaps (lx (.k4 .nil)) ?_ ?_
 rintro ng0 ⟨q0,q1⟩ x O0 m
 replace m:xE w p0 p1 q0 q1=some x:=m
 unfold xE at m
 refine vs (v0 (vs (v0 ?_)))
 apply vi m <;> intro c1 m
 refine v0 (vs (v0 (vs (v0 (v0 ?_)))))
 refine vz [(1000000,some p0K,.obj 30 ([nZ p0.Seq,aZ ng0.a,aZ gC.a,aZ gE.a,aZ gV])),(17,ng0.a.t,.obj 60 (fl kA (zg (q0:List aG) ng0.gs) ng0.a.sp))] mixed (λu=>⟨λ_=>aI 1 u rfl,λ_=>aI 2 u rfl,trivial⟩) λu=> ?_
 refine zP 0 rfl rfl ?_
 refine zN 1 rfl rfl ?_
 refine zF 2 rfl dU rfl ?_
 refine zL 3 0 (aZ ng0.a) rfl fM rfl rfl rfl ?_
 refine zI 4 rfl rfl ?_
 refine zC 5 rfl (eT (.fn _ _) rfl) ?_
 refine zP 6 rfl rfl ?_
 refine zN 7 rfl rfl ?_
 refine zF 8 rfl dU rfl ?_
 refine zL 9 0 (aZ ng0.a) rfl fM rfl rfl rfl ?_
 refine zI 10 rfl rfl ?_
 obtain⟨x4,X3,m⟩:=aC m
 refine zC 11 rfl (cJ (O0.k.ix X3) iN O0.k.z rfl rfl) ?_
 refine zC 12 rfl (cR (bG.ne O0.k.z (O0.k.ix X3)) jL rfl rfl) ?_
 obtain⟨gv0,hg0,ga0,gn0⟩:=O0.gx X3
 refine uS 13 rfl (λ_ _ hi hB=>eZ (dW (fo:=3) (awO aQ 4 (gx ng0.gs q1.toNat) x4.Locs) (O0.k.ix X3) kB O0.k.z fJ rfl (fW.get 1 hi rfl (hB 17 (by kernel_rfl))) (λ_=>rfl)) (bE.of_eq (congrArg (λz=>awO aQ 4 z x4.Locs) hg0))) ?_
 obtain⟨y0,Y0,m⟩:=aC m
 refine zE 14 rfl ?_
 have ho0:=pP (R:=([(some k2,.obj 62 (aD p1)),OC p0K p0.Seq ng0.a gC.a gE.a gV,bJ ng0 q0,aU gC p0.Chunks,bO gE p0.Exps,aM gV ((p0.Vols.set p1.Vol.toNat ({ x2 with State:=3})).set p1.Vol.toNat ({ x3 with Files:=0}))]++((jW 81 aQ ((nl aG.Locs (zg (q0:List aG) ng0.gs)).eraseIdx q1.toNat))++((aY gC p0.Chunks)++(bQ gE p0.Exps))))) u [[_], [_], [_], [_], [_], [_],_,_,_] rfl 6 rfl gn0 rfl
 have ho1:=cH [(eE gv0 x4.Locs)] _ ho0.2
 refine cY (ho0.1.trans (cS h [(eE gv0 x4.Locs)] _).symm) (cI (L9 _ ga0 ho1.2 (a8 0 ho1.1 rfl) Y0) rfl MA rfl ?_)
 rintro x h' ⟨ag0,O1,K4,rfl,rfl⟩
 refine kF (cS h [fE ag0 y0] _) ?_
 refine⟨⟨λ_=>aI 2 (dF ho1.1 K4) rfl,λ_=>aI 3 (dF ho1.1 K4) rfl,trivial⟩, ?_⟩
 obtain⟨x5,X4,m⟩:=aC m
 refine zC 15 rfl (cJ (O0.k.ix X4) iN O0.k.z rfl rfl) ?_
 refine zC 16 rfl (cR (bG.ne O0.k.z (O0.k.ix X4)) jL rfl rfl) ?_
 refine zE 17 rfl (cG (fo:=3) (x':=(({ x5 with Locs:=y0}:aG),some ag0)) 3 (dF ho1.1 K4) (O0.k.ix X4) kB O0.k.z rfl rfl (bZ rfl) (cC (bW _ _ _) rfl) (cT.refl _ _) nE rfl rfl ?_)
 intro K5
 have O2:=O0.setL (x':=({ x5 with Locs:=y0}:aG)) X4 ag0 O1
 have hr0:=rX (L':=(eE ag0 y0)::(([(some k2,.obj 62 (aD p1)),OC p0K p0.Seq ng0.a gC.a gE.a gV,(ng0.a.t,.obj 60 (fl kA (((zg (q0:List aG) ng0.gs)).set q1.toNat (({ x5 with Locs:=y0}:aG),some ag0)) ng0.a.sp)),aU gC p0.Chunks,bO gE p0.Exps,aM gV ((p0.Vols.set p1.Vol.toNat ({ x2 with State:=3})).set p1.Vol.toNat ({ x3 with Files:=0}))]:HL)++((jW 81 aQ ((nl aG.Locs (zg (q0:List aG) ng0.gs)).eraseIdx q1.toNat))++((aY gC p0.Chunks)++(bQ gE p0.Exps))))) K5 [[_], [_], [_], [_], [_], [_], [_],_,_,_] rfl [0,1,2,3,4,5,6,7,8,9] rfl rfl
 have hj0:=n7 (L':=([(some k2,.obj 62 (aD p1)),OC p0K p0.Seq ((⟨ng0.a,ng0.gs.set q1.toNat (some ag0)⟩:dE).a) gC.a gE.a gV,bJ (⟨ng0.a,ng0.gs.set q1.toNat (some ag0)⟩:dE) (q0.set q1.toNat ({ x5 with Locs:=y0})),aU gC p0.Chunks,bO gE p0.Exps,aM gV ((p0.Vols.set p1.Vol.toNat ({ x2 with State:=3})).set p1.Vol.toNat ({ x3 with Files:=0}))]++((bN (⟨ng0.a,ng0.gs.set q1.toNat (some ag0)⟩:dE) (q0.set q1.toNat ({ x5 with Locs:=y0})))++((aY gC p0.Chunks)++(bQ gE p0.Exps))))) [[_], [_], [_], [_], [_], [_],_,_,_] rfl 6 (zs:=nl aG.Locs (zg (q0:List aG) ng0.gs)) (j:=q1.toNat) (aG.Locs ({ x5 with Locs:=y0}:aG),some ag0) (jH (O0.k.nlat X4)) rfl hr0.2 (by rw[← (O0.k.setL (x':=({ x5 with Locs:=y0}:aG)) X4 ag0 O1).2.2,(O0.k.setL (x':=({ x5 with Locs:=y0}:aG)) X4 ag0 O1).2.1]; rfl)
 refine kF (hr0.1.trans hj0.1) ?_
 refine⟨⟨λ_=>aI 1 hj0.2 rfl,λe=>absurd e (by decide),trivial⟩, ?_⟩
 refine zX (qk (f:=uT 75 _ _ _ _ _ _ _ _ _ _ _ _ _ _ _ _ _ _) hj0.2 rfl ?_)
 refine v0 ?_
 exact eR m (⟨ng0.a,ng0.gs.set q1.toNat (some ag0)⟩:dE) O2 (lx (.k4 .nil))
 refine v0 ?_
 exact kT m ng0 O0 (lx (.k4 .nil))
 rintro ng1 ⟨r0,r1⟩ t0 m
 refine vs (vs (v0 (jD rfl (dM dX rfl rfl (vl 1 (aZ gC.a) eU rfl rfl rfl (bU (dP jE oC.k.a rfl) ?_))))))
 refine m5 m (σ:=(List aA)×Int) (τ:=dE) (λg s=>([(some k2,.obj 62 (aD p1)),OC p0K p0.Seq ng1.a g.a gE.a gV,bJ ng1 r0,aU g s.1,bO gE p0.Exps,aM gV ((p0.Vols.set p1.Vol.toNat ({ x2 with State:=3})).set p1.Vol.toNat ({ x3 with Files:=0}))]++((bN ng1 r0)++((aY g s.1)++(bQ gE p0.Exps))))) (λg s=>lP aA.Locs 35 4 g (s.1:List aA)) (λg s=>.c 0 (.ptr p0K 0) (.c 5 (.fn (.func 126) [.ptr k2 0]) (.c 81 (nZ (p0.Chunks.length:Int)) (.c 82 (nZ s.2) .nil)))) gC oC (lx (.k4 .nil)) ?_ ?_
 rintro ng2 ⟨q2,q3⟩ x O3 m
 replace m:xF w p0 p1 q2 q3=some x:=m
 unfold xF at m
 refine vs (v0 (vs (v0 ?_)))
 apply vi m <;> intro c2 m
 refine v0 (vs (v0 (vs (v0 (v0 ?_)))))
 refine vz [(1000000,some p0K,.obj 30 ([nZ p0.Seq,aZ ng1.a,aZ ng2.a,aZ gE.a,aZ gV])),(17,ng2.a.t,.obj 44 (fl jB (zg (q2:List aA) ng2.gs) ng2.a.sp))] mixed (λu=>⟨λ_=>aI 1 u rfl,λ_=>aI 3 u rfl,trivial⟩) λu=> ?_
 refine zP 0 rfl rfl ?_
 refine zN 1 rfl rfl ?_
 refine zF 2 rfl dX rfl ?_
 refine zL 3 0 (aZ ng2.a) rfl eU rfl rfl rfl ?_
 refine zI 4 rfl rfl ?_
 refine zC 5 rfl (eT (.fn _ _) rfl) ?_
 refine zP 6 rfl rfl ?_
 refine zN 7 rfl rfl ?_
 refine zF 8 rfl dX rfl ?_
 refine zL 9 0 (aZ ng2.a) rfl eU rfl rfl rfl ?_
 refine zI 10 rfl rfl ?_
 obtain⟨x6,X5,m⟩:=aC m
 refine zC 11 rfl (cJ (O3.k.ix X5) fI O3.k.z rfl rfl) ?_
 refine zC 12 rfl (cR (bG.ne O3.k.z (O3.k.ix X5)) iO rfl rfl) ?_
 obtain⟨gv1,hg1,ga1,gn1⟩:=O3.gx X5
 refine uS 13 rfl (λ_ _ hi hB=>eZ (dW (fo:=34) (awO aQ 4 (gx ng2.gs q3.toNat) x6.Locs) (O3.k.ix X5) iI O3.k.z fJ rfl (fW.get 1 hi rfl (hB 17 (by kernel_rfl))) (λ_=>rfl)) (bE.of_eq (congrArg (λz=>awO aQ 4 z x6.Locs) hg1))) ?_
 obtain⟨y1,Y1,m⟩:=aC m
 refine zE 14 rfl ?_
 have ho2:=pP (R:=([(some k2,.obj 62 (aD p1)),OC p0K p0.Seq ng1.a ng2.a gE.a gV,bJ ng1 r0,aU ng2 q2,bO gE p0.Exps,aM gV ((p0.Vols.set p1.Vol.toNat ({ x2 with State:=3})).set p1.Vol.toNat ({ x3 with Files:=0}))]++((bN ng1 r0)++((jW 81 aQ ((nl aA.Locs (zg (q2:List aA) ng2.gs)).eraseIdx q3.toNat))++(bQ gE p0.Exps))))) u [[_], [_], [_], [_], [_], [_],_,_,_] rfl 7 rfl gn1 rfl
 have ho3:=cH [(eE gv1 x6.Locs)] _ ho2.2
 refine cY (ho2.1.trans (cS h [(eE gv1 x6.Locs)] _).symm) (cI (L9 _ ga1 ho3.2 (a8 0 ho3.1 rfl) Y1) rfl MA rfl ?_)
 rintro x h' ⟨ag1,O4,K6,rfl,rfl⟩
 refine kF (cS h [fE ag1 y1] _) ?_
 refine⟨⟨λ_=>aI 2 (dF ho3.1 K6) rfl,λ_=>aI 4 (dF ho3.1 K6) rfl,trivial⟩, ?_⟩
 obtain⟨x7,X6,m⟩:=aC m
 refine zC 15 rfl (cJ (O3.k.ix X6) fI O3.k.z rfl rfl) ?_
 refine zC 16 rfl (cR (bG.ne O3.k.z (O3.k.ix X6)) iO rfl rfl) ?_
 refine zE 17 rfl (cG (fo:=34) (x':=(({ x7 with Locs:=y1}:aA),some ag1)) 4 (dF ho3.1 K6) (O3.k.ix X6) iI O3.k.z rfl rfl (bZ rfl) (cC (bW _ _ _) rfl) (cT.refl _ _) nE rfl rfl ?_)
 intro K7
 have O5:=O3.setL (x':=({ x7 with Locs:=y1}:aA)) X6 ag1 O4
 have hr1:=rX (L':=(eE ag1 y1)::(([(some k2,.obj 62 (aD p1)),OC p0K p0.Seq ng1.a ng2.a gE.a gV,bJ ng1 r0,(ng2.a.t,.obj 44 (fl jB (((zg (q2:List aA) ng2.gs)).set q3.toNat (({ x7 with Locs:=y1}:aA),some ag1)) ng2.a.sp)),bO gE p0.Exps,aM gV ((p0.Vols.set p1.Vol.toNat ({ x2 with State:=3})).set p1.Vol.toNat ({ x3 with Files:=0}))]:HL)++((bN ng1 r0)++((jW 81 aQ ((nl aA.Locs (zg (q2:List aA) ng2.gs)).eraseIdx q3.toNat))++(bQ gE p0.Exps))))) K7 [[_], [_], [_], [_], [_], [_], [_],_,_,_] rfl [0,1,2,3,4,5,6,7,8,9] rfl rfl
 have hj1:=n7 (L':=([(some k2,.obj 62 (aD p1)),OC p0K p0.Seq ng1.a ((⟨ng2.a,ng2.gs.set q3.toNat (some ag1)⟩:dE).a) gE.a gV,bJ ng1 r0,aU (⟨ng2.a,ng2.gs.set q3.toNat (some ag1)⟩:dE) (q2.set q3.toNat ({ x7 with Locs:=y1})),bO gE p0.Exps,aM gV ((p0.Vols.set p1.Vol.toNat ({ x2 with State:=3})).set p1.Vol.toNat ({ x3 with Files:=0}))]++((bN ng1 r0)++((aY (⟨ng2.a,ng2.gs.set q3.toNat (some ag1)⟩:dE) (q2.set q3.toNat ({ x7 with Locs:=y1})))++(bQ gE p0.Exps))))) [[_], [_], [_], [_], [_], [_],_,_,_] rfl 7 (zs:=nl aA.Locs (zg (q2:List aA) ng2.gs)) (j:=q3.toNat) (aA.Locs ({ x7 with Locs:=y1}:aA),some ag1) (jH (O3.k.nlat X6)) rfl hr1.2 (by rw[← (O3.k.setL (x':=({ x7 with Locs:=y1}:aA)) X6 ag1 O4).2.2,(O3.k.setL (x':=({ x7 with Locs:=y1}:aA)) X6 ag1 O4).2.1]; rfl)
 refine kF (hr1.1.trans hj1.1) ?_
 refine⟨⟨λ_=>aI 1 hj1.2 rfl,λe=>absurd e (by decide),trivial⟩, ?_⟩
 refine zX (qk (f:=uT 101 _ _ _ _ _ _ _ _ _ _ _ _ _ _ _ _ _ _) hj1.2 rfl ?_)
 refine v0 ?_
 exact eR m (⟨ng2.a,ng2.gs.set q3.toNat (some ag1)⟩:dE) O5 (lx (.k4 .nil))
 refine v0 ?_
 exact kT m ng2 O3 (lx (.k4 .nil))
 rintro ng3 ⟨r2,r3⟩ t1 m
 refine vs (vs (v0 (jD rfl (dM eW rfl rfl (vl 1 (aZ gE.a) i8 rfl rfl rfl (bU (dP o5 oE.k.a rfl) ?_))))))
 refine m5 m (σ:=(List aN)×Int) (τ:=dE) (λg s=>([(some k2,.obj 62 (aD p1)),OC p0K p0.Seq ng1.a ng3.a g.a gV,bJ ng1 r0,aU ng3 r2,bO g s.1,aM gV ((p0.Vols.set p1.Vol.toNat ({ x2 with State:=3})).set p1.Vol.toNat ({ x3 with Files:=0}))]++((bN ng1 r0)++((aY ng3 r2)++(bQ g s.1))))) (λg s=>lP aN.Locs 3 4 g (s.1:List aN)) (λg s=>.c 0 (.ptr p0K 0) (.c 5 (.fn (.func 126) [.ptr k2 0]) (.c 107 (nZ (p0.Exps.length:Int)) (.c 108 (nZ s.2) .nil)))) gE oE (lx (.k4 .nil)) ?_ ?_
 rintro ng4 ⟨q4,q5⟩ x O6 m
 replace m:xG w p0 p1 q4 q5=some x:=m
 unfold xG at m
 refine vs (v0 (vs (v0 ?_)))
 apply vi m <;> intro c3 m
 refine v0 (vs (v0 (vs (v0 (v0 ?_)))))
 refine vz [(1000000,some p0K,.obj 30 ([nZ p0.Seq,aZ ng1.a,aZ ng3.a,aZ ng4.a,aZ gV])),(17,ng4.a.t,.obj 99 (fl kQ (zg (q4:List aN) ng4.gs) ng4.a.sp))] mixed (λu=>⟨λ_=>aI 1 u rfl,λ_=>aI 4 u rfl,trivial⟩) λu=> ?_
 refine zP 0 rfl rfl ?_
 refine zN 1 rfl rfl ?_
 refine zF 2 rfl eW rfl ?_
 refine zL 3 0 (aZ ng4.a) rfl i8 rfl rfl rfl ?_
 refine zI 4 rfl rfl ?_
 refine zC 5 rfl (eT (.fn _ _) rfl) ?_
 refine zP 6 rfl rfl ?_
 refine zN 7 rfl rfl ?_
 refine zF 8 rfl eW rfl ?_
 refine zL 9 0 (aZ ng4.a) rfl i8 rfl rfl rfl ?_
 refine zI 10 rfl rfl ?_
 obtain⟨x8,X7,m⟩:=aC m
 refine zC 11 rfl (cJ (O6.k.ix X7) iE O6.k.z rfl rfl) ?_
 refine zC 12 rfl (cR (bG.ne O6.k.z (O6.k.ix X7)) kN rfl rfl) ?_
 obtain⟨gv2,hg2,ga2,gn2⟩:=O6.gx X7
 refine uS 13 rfl (λ_ _ hi hB=>eZ (dW (fo:=2) (awO aQ 4 (gx ng4.gs q5.toNat) x8.Locs) (O6.k.ix X7) n9 O6.k.z fJ rfl (fW.get 1 hi rfl (hB 17 (by kernel_rfl))) (λ_=>rfl)) (bE.of_eq (congrArg (λz=>awO aQ 4 z x8.Locs) hg2))) ?_
 obtain⟨y2,Y2,m⟩:=aC m
 refine zE 14 rfl ?_
 have ho4:=pP (R:=([(some k2,.obj 62 (aD p1)),OC p0K p0.Seq ng1.a ng3.a ng4.a gV,bJ ng1 r0,aU ng3 r2,bO ng4 q4,aM gV ((p0.Vols.set p1.Vol.toNat ({ x2 with State:=3})).set p1.Vol.toNat ({ x3 with Files:=0}))]++((bN ng1 r0)++((aY ng3 r2)++(jW 81 aQ ((nl aN.Locs (zg (q4:List aN) ng4.gs)).eraseIdx q5.toNat)))))) u [[_], [_], [_], [_], [_], [_],_,_,_] rfl 8 rfl gn2 rfl
 have ho5:=cH [(eE gv2 x8.Locs)] _ ho4.2
 refine cY (ho4.1.trans (cS h [(eE gv2 x8.Locs)] _).symm) (cI (L9 _ ga2 ho5.2 (a8 0 ho5.1 rfl) Y2) rfl MA rfl ?_)
 rintro x h' ⟨ag2,O7,K8,rfl,rfl⟩
 refine kF (cS h [fE ag2 y2] _) ?_
 refine⟨⟨λ_=>aI 2 (dF ho5.1 K8) rfl,λ_=>aI 5 (dF ho5.1 K8) rfl,trivial⟩, ?_⟩
 obtain⟨x9,X8,m⟩:=aC m
 refine zC 15 rfl (cJ (O6.k.ix X8) iE O6.k.z rfl rfl) ?_
 refine zC 16 rfl (cR (bG.ne O6.k.z (O6.k.ix X8)) kN rfl rfl) ?_
 refine zE 17 rfl (cG (fo:=2) (x':=(({ x9 with Locs:=y2}:aN),some ag2)) 5 (dF ho5.1 K8) (O6.k.ix X8) n9 O6.k.z rfl rfl (bZ rfl) (cC (bW _ _ _) rfl) (cT.refl _ _) nE rfl rfl ?_)
 intro K9
 have O8:=O6.setL (x':=({ x9 with Locs:=y2}:aN)) X8 ag2 O7
 have hr2:=rX (L':=(eE ag2 y2)::(([(some k2,.obj 62 (aD p1)),OC p0K p0.Seq ng1.a ng3.a ng4.a gV,bJ ng1 r0,aU ng3 r2,(ng4.a.t,.obj 99 (fl kQ (((zg (q4:List aN) ng4.gs)).set q5.toNat (({ x9 with Locs:=y2}:aN),some ag2)) ng4.a.sp)),aM gV ((p0.Vols.set p1.Vol.toNat ({ x2 with State:=3})).set p1.Vol.toNat ({ x3 with Files:=0}))]:HL)++((bN ng1 r0)++((aY ng3 r2)++(jW 81 aQ ((nl aN.Locs (zg (q4:List aN) ng4.gs)).eraseIdx q5.toNat)))))) K9 [[_], [_], [_], [_], [_], [_], [_],_,_,_] rfl [0,1,2,3,4,5,6,7,8,9] rfl rfl
 have hj2:=n7 (L':=([(some k2,.obj 62 (aD p1)),OC p0K p0.Seq ng1.a ng3.a ((⟨ng4.a,ng4.gs.set q5.toNat (some ag2)⟩:dE).a) gV,bJ ng1 r0,aU ng3 r2,bO (⟨ng4.a,ng4.gs.set q5.toNat (some ag2)⟩:dE) (q4.set q5.toNat ({ x9 with Locs:=y2})),aM gV ((p0.Vols.set p1.Vol.toNat ({ x2 with State:=3})).set p1.Vol.toNat ({ x3 with Files:=0}))]++((bN ng1 r0)++((aY ng3 r2)++(bQ (⟨ng4.a,ng4.gs.set q5.toNat (some ag2)⟩:dE) (q4.set q5.toNat ({ x9 with Locs:=y2}))))))) [[_], [_], [_], [_], [_], [_],_,_,_] rfl 8 (zs:=nl aN.Locs (zg (q4:List aN) ng4.gs)) (j:=q5.toNat) (aN.Locs ({ x9 with Locs:=y2}:aN),some ag2) (jH (O6.k.nlat X8)) rfl hr2.2 (by rw[← (O6.k.setL (x':=({ x9 with Locs:=y2}:aN)) X8 ag2 O7).2.2,(O6.k.setL (x':=({ x9 with Locs:=y2}:aN)) X8 ag2 O7).2.1]; rfl)
 refine kF (hr2.1.trans hj2.1) ?_
 refine⟨⟨λ_=>aI 1 hj2.2 rfl,λe=>absurd e (by decide),trivial⟩, ?_⟩
 refine zX (qk (f:=uT 127 _ _ _ _ _ _ _ _ _ _ _ _ _ _ _ _ _ _) hj2.2 rfl ?_)
 refine v0 ?_
 exact eR m (⟨ng4.a,ng4.gs.set q5.toNat (some ag2)⟩:dE) O8 (lx (.k4 .nil))
 refine v0 ?_
 exact kT m ng4 O6 (lx (.k4 .nil))
 rintro ng5 ⟨r4,r5⟩ t2 m
 refine vs (pJ (CR (L':=([(some k2,.obj 62 (aD p1)),OC p0K p0.Seq ng1.a ng3.a ng5.a gV,bB ng1.a r0,aU ng3 r2,bO ng5 r4,aM gV ((p0.Vols.set p1.Vol.toNat ({ x2 with State:=3})).set p1.Vol.toNat ({ x3 with Files:=0}))]++((aY ng3 r2)++(bQ ng5 r4)))) [[_], [_], [_], [_], [_], [_],_,_,_] rfl 2 6 eO pQ t0.k rfl rfl (by decide) rfl) (pJ (CR (L':=([(some k2,.obj 62 (aD p1)),OC p0K p0.Seq ng1.a ng3.a ng5.a gV,bB ng1.a r0,aT ng3.a r2,bO ng5 r4,aM gV ((p0.Vols.set p1.Vol.toNat ({ x2 with State:=3})).set p1.Vol.toNat ({ x3 with Files:=0}))]++(bQ ng5 r4))) [[_], [_], [_], [_], [_], [_],_,_] rfl 3 6 eO nL t1.k rfl rfl (by decide) rfl) (pJ (CR (L':= [(some k2,.obj 62 (aD p1)),OC p0K p0.Seq ng1.a ng3.a ng5.a gV,bB ng1.a r0,aT ng3.a r2,bV ng5.a r4,aM gV ((p0.Vols.set p1.Vol.toNat ({ x2 with State:=3})).set p1.Vol.toNat ({ x3 with Files:=0}))]) [[_], [_], [_], [_], [_], [_],_] rfl 4 6 eO uB t2.k rfl rfl (by decide) rfl) (v0 (jD rfl (dM dX rfl rfl (vl 1 (aZ ng3.a) eU rfl rfl rfl ?_)))))))
 obtain⟨y3,Y3,m⟩:=aC m
 refine ve λu=>cY ((a9 u [3,0,1,2,4,5] rfl rfl).1.trans (cS h [aT ng3.a r2] [(some k2,.obj 62 (aD p1)),OC p0K p0.Seq ng1.a ng3.a ng5.a gV,bB ng1.a r0,bV ng5.a r4,aM gV ((p0.Vols.set p1.Vol.toNat ({ x2 with State:=3})).set p1.Vol.toNat ({ x3 with Files:=0}))]).symm) (cI (XV (hp h [(some k2,.obj 62 (aD p1)),OC p0K p0.Seq ng1.a ng3.a ng5.a gV,bB ng1.a r0,bV ng5.a r4,aM gV ((p0.Vols.set p1.Vol.toNat ({ x2 with State:=3})).set p1.Vol.toNat ({ x3 with Files:=0}))]) t1.k.a (cH [aT ng3.a r2] [(some k2,.obj 62 (aD p1)),OC p0K p0.Seq ng1.a ng3.a ng5.a gV,bB ng1.a r0,bV ng5.a r4,aM gV ((p0.Vols.set p1.Vol.toNat ({ x2 with State:=3})).set p1.Vol.toNat ({ x3 with Files:=0}))] (a9 u [3,0,1,2,4,5] rfl rfl).2).2 XU (λx0 o h0 hs ho=>aDO _ ho) Y3) rfl XW rfl ?_)
 rintro x h' ⟨ag3,O9,K10,rfl,rfl⟩
 have K11:=a9 (L':= [(some k2,.obj 62 (aD p1)),(hO p0K p0.Seq ng1.a ng3.a ng5.a gV),bB ng1.a r0,aT ag3 y3,bV ng5.a r4,aM gV ((p0.Vols.set p1.Vol.toNat ({ x2 with State:=3})).set p1.Vol.toNat ({ x3 with Files:=0}))]) (dF (cH [aT ng3.a r2] [(some k2,.obj 62 (aD p1)),OC p0K p0.Seq ng1.a ng3.a ng5.a gV,bB ng1.a r0,bV ng5.a r4,aM gV ((p0.Vols.set p1.Vol.toNat ({ x2 with State:=3})).set p1.Vol.toNat ({ x3 with Files:=0}))] (a9 u [3,0,1,2,4,5] rfl rfl).2).1 K10) [1,2,3,0,4,5] rfl rfl
 refine qk K11.2 ((cS h [aT ag3 y3] [(some k2,.obj 62 (aD p1)),OC p0K p0.Seq ng1.a ng3.a ng5.a gV,bB ng1.a r0,bV ng5.a r4,aM gV ((p0.Vols.set p1.Vol.toNat ({ x2 with State:=3})).set p1.Vol.toNat ({ x3 with Files:=0}))]).trans K11.1) ?_
 refine jD rfl (dM dX rfl rfl ?_)
 refine ve λu=>aJ 1 ([nZ p0.Seq,aZ ng1.a,aZ ag3,aZ ng5.a,aZ gV]) u rfl rfl (bZ rfl) (cC (bW _ _ _) rfl) yA rfl rfl λK12=>qk K12 rfl ?_
 refine vs (v0 (jD rfl (dM eW rfl rfl (vl 1 (aZ ng5.a) i8 rfl rfl rfl ?_))))
 obtain⟨y4,Y4,m⟩:=aC m
 refine ve λu=>cY ((a9 u [4,0,1,2,3,5] rfl rfl).1.trans (cS h [bV ng5.a r4] [(some k2,.obj 62 (aD p1)),OC p0K p0.Seq ng1.a ag3 ng5.a gV,bB ng1.a r0,aT ag3 y3,aM gV ((p0.Vols.set p1.Vol.toNat ({ x2 with State:=3})).set p1.Vol.toNat ({ x3 with Files:=0}))]).symm) (cI (XY (hp h [(some k2,.obj 62 (aD p1)),OC p0K p0.Seq ng1.a ag3 ng5.a gV,bB ng1.a r0,aT ag3 y3,aM gV ((p0.Vols.set p1.Vol.toNat ({ x2 with State:=3})).set p1.Vol.toNat ({ x3 with Files:=0}))]) t2.k.a (cH [bV ng5.a r4] [(some k2,.obj 62 (aD p1)),OC p0K p0.Seq ng1.a ag3 ng5.a gV,bB ng1.a r0,aT ag3 y3,aM gV ((p0.Vols.set p1.Vol.toNat ({ x2 with State:=3})).set p1.Vol.toNat ({ x3 with Files:=0}))] (a9 u [4,0,1,2,3,5] rfl rfl).2).2 XX (λx0 o h0 hs ho=>aDP _ ho) Y4) rfl XZ rfl ?_)
 rintro x h' ⟨ag4,O10,K13,rfl,rfl⟩
 have K14:=a9 (L':= [(some k2,.obj 62 (aD p1)),(hO p0K p0.Seq ng1.a ag3 ng5.a gV),bB ng1.a r0,aT ag3 y3,bV ag4 y4,aM gV ((p0.Vols.set p1.Vol.toNat ({ x2 with State:=3})).set p1.Vol.toNat ({ x3 with Files:=0}))]) (dF (cH [bV ng5.a r4] [(some k2,.obj 62 (aD p1)),OC p0K p0.Seq ng1.a ag3 ng5.a gV,bB ng1.a r0,aT ag3 y3,aM gV ((p0.Vols.set p1.Vol.toNat ({ x2 with State:=3})).set p1.Vol.toNat ({ x3 with Files:=0}))] (a9 u [4,0,1,2,3,5] rfl rfl).2).1 K13) [1,2,3,4,0,5] rfl rfl
 refine qk K14.2 ((cS h [bV ag4 y4] [(some k2,.obj 62 (aD p1)),OC p0K p0.Seq ng1.a ag3 ng5.a gV,bB ng1.a r0,aT ag3 y3,aM gV ((p0.Vols.set p1.Vol.toNat ({ x2 with State:=3})).set p1.Vol.toNat ({ x3 with Files:=0}))]).trans K14.1) ?_
 refine jD rfl (dM eW rfl rfl ?_)
 refine ve λu=>aJ 1 ([nZ p0.Seq,aZ ng1.a,aZ ag3,aZ ag4,aZ gV]) u rfl rfl (bZ rfl) (cC (bW _ _ _) rfl) II rfl rfl λK15=>qk K15 rfl ?_
 refine vs (v0 (v0 ?_))
 cases m
 exact vr λu=>dV.of1 (.inl rfl) (fP _ _ (.sc (.int _ _)) rfl) (bD u [1,2,3,4,5] rfl).2 (bE.refl _ _) ⟨ng1.a,t0.k.a,ag3,O9,ag4,O10,gV,(bG.set (bG.set oV)),(bD u [1,2,3,4,5] rfl).1,rfl,rfl⟩
theorem aDQ:aO Tryz.prog 75=true:=by kernel_rfl
open Go.Vm
def PM (m:Nat) (p0:List bP):Option (List bP):=app [] p0
theorem aDR {w:Nat} {p0:List bP} {o:List bP} (h:aE) (m:PM w p0=some o):
 aL Tryz.prog 170 [.sl none 32 (List.map bM p0)] h (λr h'=>∃t,(t=none→o= [])∧bT h [(t,.tok 36 32 (o.length*32))]∧r=ow t 32 (List.map bM o)∧h'=hp h [(t,.tok 36 32 (o.length*32))]):=by
 refine jC 8 [.tmp 2] Tryz.func170 rfl rfl rfl rfl ?_
 unfold PM at m
 refine gN λK1 H1=>eG (qO (hU (.sc (.slice _ _ _)) rfl) (fO (H1 _ _ (gN λK1 H1=>gN λK2 H2=>eG (vE rfl (kW (jQ rfl (by rw[wP]; rfl) (by rw[bL]; exact rfl) (.inl ⟨_,_,_,rfl,λb hb=> ?_⟩))))))))
 refine fO (H2 _ _ (mY rfl (λhc=> ?_) (λhc=> ?_)))
 have h0:p0= []:=by
   cases p0 with
   | nil=>rfl
   | cons x l=>have:=hb (by simp); rw[this] at hc; cases hc
 subst h0
 obtain⟨rfl, -⟩:=iY m
 exact gN λK1 H1=>eG (qO (hU (.sc (.slice _ _ _)) rfl) (fO (H1 _ _ (iK (dV.one (.inl rfl) (hH.refl _) (iZ _ _) ⟨none,λ_=>rfl,bT.none (bT.nil _),rfl,rfl⟩)))))
 exact lR (H1 _ _ (gN λK1 H1=>eG (kW (J1 (c:=bM) (bT.nil _) BE λu=>vE rfl (kW (fB (c:=bM) 0 m BE rfl rfl rfl (λ_=>rfl) u rfl λtg ot u=>qO (hU (ow _ _ _) rfl) (fO (H1 _ _ (iK (dV.one (.inl rfl) (hH.refl _) (bE.refl _ _) ⟨tg,ot,u,rfl,rfl⟩))))))))))
theorem YA:aO Tryz.prog 170=true:=by kernel_rfl
def HH (m:Nat) (p0:List dH):Option (List dH):=app [] p0
theorem YB {w:Nat} {p0:List dH} {o:List dH} (h:aE) (m:HH w p0=some o):
 aL Tryz.prog 169 [.sl none 3 (List.map bX p0)] h (λr h'=>∃g:cQ,bG g 3 o.length∧bT h [(g.t,.obj 70 (fl bX o g.sp))]∧r=aZ g∧h'=hp h [(g.t,.obj 70 (fl bX o g.sp))]):=by
 refine jC 8 [.tmp 2] Tryz.func169 rfl rfl rfl rfl ?_
 unfold HH at m
 refine gN λK1 H1=>eG (qO (hU (.sc (.slice _ _ _)) rfl) (fO (H1 _ _ (gN λK1 H1=>gN λK2 H2=>eG (vE rfl (kW (jQ rfl (by rw[qC]; rfl) (by rw[bL]; exact rfl) (.inl ⟨_,_,_,rfl,λb hb=> ?_⟩))))))))
 refine fO (H2 _ _ (mY rfl (λhc=> ?_) (λhc=> ?_)))
 have h0:p0= []:=by
   cases p0 with
   | nil=>rfl
   | cons x l=>have:=hb (by simp); rw[this] at hc; cases hc
 subst h0
 obtain⟨rfl, -⟩:=iY m
 exact gN λK1 H1=>eG (qO (hU (.sc (.slice _ _ _)) rfl) (fO (H1 _ _ (iK (dV.one (.inl rfl) (hH.refl _) (fU _) ⟨g0,bG.g0 _,bT.none (bT.nil _),rfl,rfl⟩)))))
 exact lR (H1 _ _ (gN λK1 H1=>eG (kW (pK (c:=bX) (bT.nil _) IL λu=>vE rfl (kW (fX (c:=bX) 0 m IL rfl FN rfl u6 rfl rfl (bG.g0 _) u rfl λg ok u=>qO (hU (aw _ _ _) rfl) (fO (H1 _ _ (iK (dV.one (.inl rfl) (hH.refl _) (bE.refl _ _) ⟨g,ok,u,rfl,rfl⟩))))))))))
theorem YC:aO Tryz.prog 169=true:=by kernel_rfl
def sD (m:Nat) (y9:(List dH)) (q0:List dH) (q1:Int):Option (Lp ((List dH)×Int) (bF)):=
 if (decide (q1 < (y9.length:Int)))=true then ((ix q0 q1).bind λx0=>(PM m x0.Ids).bind λy0=>(ix q0 q1).bind λx1=>some (.go (q0.set q1.toNat ({ x1 with Ids:=y0}),IntKind.wrap .i64 (q1+1)))) else some (.brk (q0,q1))
def I4 (m:Nat) (p0:bF):Option (bF):=
 (HH m p0.Parts).bind λy9=>after (aW (λs=>sD m y9 s.1 s.2) m (y9,0)) λ⟨r0,r1⟩=>some ({ Name:=p0.Name,Parts:=r0}:bF)
theorem YD {w:Nat} {p0:bF} {o:bF} (h:aE) (m:I4 w p0=some o):
 aL Tryz.prog 115 [.agg (bH p0)] h (λr h'=>r= .agg (bH o)∧h'=h):=by
 refine fY 28 [.cell 2 58] Tryz.func115 rfl rfl rfl rfl ?_
 unfold I4 at m
 refine vs (v0 (gZ rfl rfl λk2 K3=>ve λu=>bI ([.sc (.string ByteArray.empty),sZ]) u KH rfl rfl λk5 K6=>qk K6 rfl (vs (v0 (dM wO rfl rfl (vl 1 _ mQ rfl rfl rfl ?_))))))
 obtain⟨y9,Y0,m⟩:=aC m
 refine ve λu=>cI (YB _ Y0) rfl YC rfl ?_
 rintro x h' ⟨ag0,O0,K0,rfl,rfl⟩
 refine qk (bT.co u K0) (iL _ _ _) (dM wO rfl rfl (ve λu=>aJ 2 ([.sc (.string p0.Name),aZ ag0]) u rfl rfl (bZ rfl) (cC (bW _ _ _) rfl) R0 rfl rfl λK1=>qk K1 rfl (vs (vs (v0 (dM wO rfl rfl (vl 2 (aZ ag0) mQ rfl rfl rfl (bU (dP tG O0 rfl) (m5 m (σ:=(List dH)×Int) (τ:=cQ) (λg s=> [(g.t,.obj 70 (fl bX (s.1:List dH) g.sp)),(some k5,.obj 58 ([.sc (.string ByteArray.empty),sZ])),(some k2,.obj 58 ([.sc (.string p0.Name),aZ g]))]) (λg s=>bG g 3 (s.1:List dH).length) (λg s=>.c 1 (.ptr k2 0) (.c 2 (.ptr k5 0) (.c 10 (nZ (y9.length:Int)) (.c 11 (nZ s.2) .nil)))) ag0 O0 (lx (.k4 .nil)) ?_ ?_)))))))))
 rintro ag1 ⟨q0,q1⟩ x O1 m
 replace m:sD w y9 q0 q1=some x:=m
 unfold sD at m
 refine vs (v0 (vs (v0 ?_)))
 apply vi m <;> intro c0 m
 refine v0 (vs (v0 (vs (v0 (v0 (vz [(1000000,some k2,.obj 58 ([.sc (.string p0.Name),aZ ag1])),(12,ag1.t,.obj 70 (fl bX (q0:List dH) ag1.sp))] mixed (λu=>⟨λ_=>aI 2 u rfl,λ_=>aI 0 u rfl,trivial⟩) λu=>zF 0 rfl wO rfl (zL 1 0 (aZ ag1) rfl mQ rfl rfl rfl (zI 2 rfl rfl (zF 3 rfl wO rfl (zL 4 0 (aZ ag1) rfl mQ rfl rfl rfl (zI 5 rfl rfl ?_)))))))))))
 obtain⟨x0,X0,m⟩:=aC m
 refine zC 6 rfl (cJ X0 qC O1 rfl rfl) (zC 7 rfl (cR (bG.ne O1 X0) KJ rfl rfl) (uS 8 rfl (λ_ _ hi hB=>dW (fo:=2) (.sl none 32 (List.map bM x0.Ids)) X0 u6 O1 tL rfl (fW.get 1 hi rfl (hB 12 (by kernel_rfl))) (λ_=>rfl)) ?_))
 obtain⟨y0,Y1,m⟩:=aC m
 refine zE 9 rfl (cI (aDR _ Y1) rfl YA rfl ?_)
 rintro x h' ⟨tg0,t0,K2,rfl,rfl⟩
 rw[iL]
 refine⟨⟨λ_=>aI 3 (bT.co u K2) rfl,λ_=>aI 1 (bT.co u K2) rfl,trivial⟩, ?_⟩
 obtain⟨x1,X1,m⟩:=aC m
 refine zC 10 rfl (cJ X1 qC O1 rfl rfl) (zC 11 rfl (cR (bG.ne O1 X1) KJ rfl rfl) (zE 12 rfl (wK (s:=23) (.sl none 32 (List.map bM y0)) (aR (.cons _ (.refl _)) (bT.co u K2)).1 (Fz.ale (aR (.cons _ (.refl _)) (bT.co u K2)).1 (mF _ 0 t0 (bT.co u K2) rfl (.refl _))) (cG (fo:=2) ({ x1 with Ids:=y0}:dH) 0 ((aR (.cons _ (.refl _)) (bT.co u K2)).2) X1 u6 O1 rfl rfl rfl rfl (cT.refl _ _) SE rfl rfl λK4=>⟨⟨λ_=>aI 2 K4 rfl,λe=>absurd e (by decide),trivial⟩, ?_⟩))))
 exact zX (qk (f:=IF 25 _ _ _ _ _ _ _ _ _ _ _ _ _) K4 rfl (v0 (eR m ag1 (bG.set O1) (lx (.k4 .nil)))))
 exact v0 (kT m ag1 O1 (lx (.k4 .nil)))
 rintro ag2 ⟨r0,r1⟩ t1 m
 refine vs (v0 (vl 2 (.agg ([.sc (.string p0.Name),aZ ag2])) m8 rfl rfl rfl (ve λu=>aJ 1 ([.sc (.string p0.Name),aZ ag2]) u rfl rfl rfl (by repeat (first | exact rfl | refine cC (iC _ _ _) ?_ | refine cC (bW _ _ _) ?_ | refine cC (f0 _ _ _ _) ?_ | refine cC rfl ?_)) yB rfl rfl λK5=>qk K5 rfl ?_)))
 refine v0 ?_
 cases m
 refine vrl λu=> ?_
 obtain⟨K7,le0⟩:=iS.fzO (n:=28) (f:=_) 0 0 ([.sc (.string p0.Name),.sl none 3 (List.map bX r0)]) u rfl (.cons (Fz.refl _ _ _) (.cons (Fz.aw 0 u6 t1 u rfl (.refl _)) .nil))
 exact NM.mk le0 (dV.of1 (.inl rfl) (pU (.agg (bH ({ Name:=p0.Name,Parts:=r0}:bF))) m8 rfl (a8 0 K7 rfl) rfl) (aR (List.nil_sublist _) K7).1 (bE.refl _ _) ⟨rfl,rfl⟩)
theorem QU:aO Tryz.prog 115=true:=by kernel_rfl
def MC (m:Nat) (p0:aA):Option (Bool):=
 after (if (!p0.Staged)=true then (some (.brk true)) else some (.brk (decide (0 < (p0.Locs.length:Int)))):Option (Lp (Bool) (Bool))) λj7=>some j7
theorem aDS {u:Nat} {p0:aA} {o:Bool} (h:aE) (m:MC u p0=some o):
 aL Tryz.prog 168 [.agg (aH p0)] h (λr h'=>r= .sc (.bool o)∧h'=h):=by
 refine fY 12 [.tmp 2] Tryz.func168 rfl rfl rfl rfl ?_
 unfold MC at m
 refine v (gZ rfl rfl λk2 K3=>vs (fR m (σ:=Bool) (λs=> [(some k2,.obj 44 (aH p0))]) (λs=>.c 2 (.sc (.bool s)) .nil) (λx m=> ?_) ?_))
 refine v (vl 0 _ DH rfl rfl rfl ?_)
 apply vi m <;> intro b8 m
 rw[b8]
 exact iD m
 rw[b8]
 exact vl 0 _ fJ rfl rfl rfl (dL jJ rfl (iD m))
 rintro _ j7 m
 refine v ?_
 obtain rfl:=eY m
 exact eK rfl
theorem YE:aO Tryz.prog 168=true:=by kernel_rfl
def MD (m:Nat) (p0:List aA) (p1:aA→Option Bool):Option (Bool):=
 (WO m p0 p1).bind λy3=>some (decide (0≤y3))
theorem YF {w:Nat} {p0:List aA} {p1:aA→Option Bool} {o:Bool} (h:aE) {p1F:Nat} {p1C:List AV} (p1B:aO Tryz.prog p1F=true) (p1H:∀x0 o h0,hH h h0→p1 x0=some o→aL Tryz.prog p1F ([.agg (aH x0)]++p1C) h0 (λr h'=>r= .sc (.bool o)∧h'=h0)) (m:MD w p0 p1=some o):
 aL Tryz.prog 159 [.sl none 35 (List.map aH p0),.fn (.func p1F) p1C] h (λr h'=>r= .sc (.bool o)∧h'=h):=by
 refine fY 9 [.tmp 4] Tryz.func159 rfl rfl rfl rfl ?_
 unfold MD at m
 refine v (v ?_)
 obtain⟨_,Y4,m⟩:=aC m
 refine vn (λu=>bY (W53 _ p1B (λx0 o h0 hs ho=>p1H x0 o h0 ((aR (List.nil_sublist _) u).1.trans hs) ho) Y4) rfl WP rfl) (v ?_)
 cases m
 exact eK rfl
theorem QV:aO Tryz.prog 159=true:=by kernel_rfl
def I5 (m:Nat) (p0:List aA):Option (Bool):=
 (MD m p0 (λx0=>MC m x0)).bind λy3=>some (!y3)
theorem YG {u:Nat} {p0:List aA} {o:Bool} (h:aE) (m:I5 u p0=some o):
 aL Tryz.prog 114 [.sl none 35 (List.map aH p0)] h (λr h'=>r= .sc (.bool o)∧h'=h):=by
 refine fY 6 [.tmp 2] Tryz.func114 rfl rfl rfl rfl ?_
 unfold I5 at m
 refine v (v ?_)
 obtain⟨_,Y4,m⟩:=aC m
 refine bU (bY (YF _ YE (λ_ o h0 hs ho=>aDS _ ho) Y4) rfl QV rfl) (v ?_)
 cases m
 exact eK rfl
theorem QW:aO Tryz.prog 114=true:=by kernel_rfl
def qJ (m:Nat) (p1:aS) (q0:List aA) (q1:Int):Option (Lp ((List aA)×Int) (Int×Int×(List aG)×(List aA))):=
 if (decide (q1 < (p1.Chunks.length:Int)))=true then ((ix p1.Chunks q1).bind λx0=>(uW m q0 x0.Id).bind λy0=>after (if (!y0.2)=true then ((oQ q0 y0.1 (({ Id:=x0.Id,Staged:=false,Data:= [],Locs:= []}:aA):aA)).bind λy1=>some (.brk y1)) else some (.brk q0):Option (Lp ((List aA)) (Lp ((List aA)×Int) (Int×Int×(List aG)×(List aA))))) λj0=>(QF m x0.Data).bind λy2=>(ix j0 y0.1).bind λx1=>(ix (j0.set y0.1.toNat ({ x1 with Staged:=true})) y0.1).bind λx2=>some (.go ((j0.set y0.1.toNat ({ x1 with Staged:=true})).set y0.1.toNat ({ x2 with Data:=y2}),IntKind.wrap .i64 (q1+1)))) else some (.brk (q0,q1))
def UC (m:Nat) (p0:aB) (p1:aS):Option (Int×Int×(List aG)×(List aA)):=
 after (if (p1.Snap.Seq !=p0.Seq)=true then (some (.brk true)) else if (decide (0 < (p1.Snap.Locs.length:Int)))=true then (some (.brk true)) else (I5 m p1.Chunks).bind λy0=>some (.brk (!y0)):Option (Lp (Bool) (Int×Int×(List aG)×(List aA)))) λj0=>if j0=true then (some (1,p0.Seq,p0.Snaps,p0.Chunks)) else (WN m ({ Seq:=p0.Seq,Snaps:=p0.Snaps,Chunks:=p0.Chunks,Exps:=p0.Exps,Vols:=p0.Vols}:aB) p1.Snap.Man.Name).bind λy1=>if (decide (0≤y1))=true then (some (9,p0.Seq,p0.Snaps,p0.Chunks)) else (I4 m p1.Snap.Man).bind λy2=>(app p0.Snaps ([({ Seq:=p1.Snap.Seq,Man:=y2,Locs:= []}:aG)]:List aG)).bind λz0=>after (aW (λs=>qJ m p1 s.1 s.2) m (p0.Chunks,0)) λ⟨r0,r1⟩=>some (0,IntKind.wrap .i64 (p0.Seq+1),z0,r0)
theorem W72 {w:Nat} {p0:aB} {p1:aS} {o:Int×Int×(List aG)×(List aA)} (h:aE) {p0K:cB} {gS:cQ} (ok_Snaps:bG gS 4 p0.Snaps.length) {gC:cQ} (oC:bG gC 35 p0.Chunks.length) {gE:cQ} (oE:bG gE 3 p0.Exps.length) {gV:cQ} (oV:bG gV 4 p0.Vols.length) (K0:bT h [OC p0K p0.Seq gS gC gE gV,bB gS p0.Snaps,aT gC p0.Chunks,bV gE p0.Exps,aM gV p0.Vols]) (m:UC w p0 p1=some o):
 aL Tryz.prog 72 [.ptr p0K 0,.agg (aD p1)] (hp h [OC p0K p0.Seq gS gC gE gV,bB gS p0.Snaps,aT gC p0.Chunks,bV gE p0.Exps,aM gV p0.Vols]) (λr h'=>∃g_Snaps':cQ,bG g_Snaps' 4 (o.2.2.1:List aG).length∧∃g_Chunks':cQ,bG g_Chunks' 35 (o.2.2.2:List aA).length∧bT h [OC p0K o.2.1 g_Snaps' g_Chunks' gE gV,bB g_Snaps' o.2.2.1,aT g_Chunks' o.2.2.2,bV gE p0.Exps,aM gV p0.Vols]∧r=nZ o.1∧h'=hp h [OC p0K o.2.1 g_Snaps' g_Chunks' gE gV,bB g_Snaps' o.2.2.1,aT g_Chunks' o.2.2.2,bV gE p0.Exps,aM gV p0.Vols]):=by
 refine sN K0 115 [.tmp 4] Tryz.func72 rfl rfl rfl rfl ?_
 unfold UC at m
 refine vs (v0 (gZ rfl rfl λk2 K3=>vs (v0 (vs (fR m (σ:=Bool) (λs=> [(some k2,.obj 62 (aD p1)),OC p0K p0.Seq gS gC gE gV,bB gS p0.Snaps,aT gC p0.Chunks,bV gE p0.Exps,aM gV p0.Vols]) (λs=>.c 0 (.ptr p0K 0) (.c 3 (.ptr k2 0) (.c 9 (.sc (.bool s)) .nil))) (λx m=> ?_) ?_)))))
 refine v0 (u7 (by kernel_rfl) (dM kM rfl rfl (dM tI rfl rfl (vl 0 _ cE rfl rfl rfl (jD rfl (dM m6 rfl rfl (vl 1 _ cE rfl rfl rfl ?_)))))))
 apply vi m <;> intro b0 m
 rw[b0]
 exact gW m
 rw[b0]
 refine dM kM rfl rfl (dM jL rfl rfl (vl 0 _ fJ rfl rfl rfl (dL jJ rfl ?_)))
 apply vi m <;> intro b1 m
 rw[b1]
 exact gW m
 rw[b1]
 exact dM mJ rfl rfl (vl 0 _ eU rfl rfl rfl (vk YG QW m rfl rfl λ_ m=>gW m))
 rintro _ j0 m
 refine v0 ?_
 apply vi m <;> intro c0 m
 refine vs (v0 (v0 ?_))
 cases m
 exact vr λu=>dV.of1 (.inl rfl) (fP _ _ (.sc (.int _ _)) rfl) (bD u [1,2,3,4,5] rfl).2 (bE.refl _ _) ⟨gS,ok_Snaps,gC,oC,(bD u [1,2,3,4,5] rfl).1,rfl,rfl⟩
 refine vs (v0 (u7 (by kernel_rfl) (jD rfl (vl 1 (.agg ([nZ p0.Seq,aZ gS,aZ gC,aZ gE,aZ gV])) eV rfl rfl rfl (dM kM rfl rfl (dM nW rfl rfl (dM KG rfl rfl (vl 0 _ xX rfl rfl rfl ?_))))))))
 obtain⟨_,Y0,m⟩:=aC m
 refine vn (λu=>bY (fC (.cons (Br.agg (.cons (Br.refl _ _) (.cons (Br.aw 2 eH ok_Snaps u rfl) (.cons (Br.aw 3 cK oC u rfl) (.cons (Br.aw 4 fH oE u rfl) (.cons (Br.aw 5 dY oV u rfl) .nil)))))) (.cons (Br.refl _ _) .nil)) rfl (W46 _ Y0)) rfl aCA rfl) (v0 ?_)
 apply vi m <;> intro c1 m
 refine vs (v0 (v0 ?_))
 cases m
 exact vr λu=>dV.of1 (.inl rfl) (fP _ _ (.sc (.int _ _)) rfl) (bD u [1,2,3,4,5] rfl).2 (bE.refl _ _) ⟨gS,ok_Snaps,gC,oC,(bD u [1,2,3,4,5] rfl).1,rfl,rfl⟩
 refine v0 (vs (v0 (jD rfl (dM m6 rfl rfl (vl 1 _ cE rfl rfl rfl (jD rfl (dM m6 rfl rfl (ve λu=>aJ 1 ([nZ (IntKind.wrap .i64 (p0.Seq+1)),aZ gS,aZ gC,aZ gE,aZ gV]) u rfl rfl rfl rfl xW rfl rfl λK1=>qk K1 rfl (vs (v0 (vz [(17,some p0K,.obj 30 ([nZ (IntKind.wrap .i64 (p0.Seq+1)),aZ gS,aZ gC,aZ gE,aZ gV])),(1000000,some k2,.obj 62 (aD p1))] mixed (λu=>⟨λ_=>aI 1 u rfl,λ_=>aI 0 u rfl,trivial⟩) λu=>zP 0 rfl rfl (zP 1 rfl rfl (zN 2 rfl rfl (zF 3 rfl dU rfl (zL 4 0 (aZ gS) rfl fM rfl rfl rfl (zF 5 rfl kM rfl (zF 6 rfl tI rfl (zL 7 1 (nZ p1.Snap.Seq) rfl cE rfl rfl rfl (zF 8 rfl kM rfl (zF 9 rfl nW rfl (zL 10 1 (.agg (bH p1.Snap.Man)) rfl m8 rfl rfl rfl ?_)))))))))))))))))))))
 obtain⟨y0,Y1,m⟩:=aC m
 refine zC 11 rfl (bY (YD _ Y1) rfl QU rfl) (zC 12 rfl (eZ (y:=.agg (bR ({ Seq:=p1.Snap.Seq,Man:=y0,Locs:= []}:aG))) (fF (([nZ p1.Snap.Seq]:List AV)++bH y0++([sZ]:List AV)) R4 rfl) (bE.agg (.cons (bE.refl _ _) (cT.app 2 rfl (.cons (aV _) .nil))))) (zC 13 rfl (eI (List.map bR ([({ Seq:=p1.Snap.Seq,Man:=y0,Locs:= []}:aG)]:List aG)) uU rfl rfl rfl rfl) ?_))
 obtain⟨z0,Z0,m⟩:=aC m
 refine zE 14 rfl (fX (c:=bR) 2 Z0 uU rfl tJ rfl eH rfl rfl ok_Snaps u rfl λag0 O0 K2=>⟨⟨λ_=>aI 1 K2 rfl,λ_=>aI 0 K2 rfl,trivial⟩, ?_⟩)
 refine zN 15 rfl rfl (zF 16 rfl dU rfl (zE 17 rfl (aJ 1 ([nZ (IntKind.wrap .i64 (p0.Seq+1)),aZ ag0,aZ gC,aZ gE,aZ gV]) K2 rfl rfl (bZ rfl) (cC (bW _ _ _) rfl) FH rfl rfl λK4=>⟨⟨λe=>absurd e (by decide),λ_=>aI 0 K4 rfl,trivial⟩, ?_⟩)))
 refine zX (qk (f:=uT 64 _ _ _ _ _ _ _ _ _ _ _ _ _ _ _ _ _ _) K4 rfl (vs (vs (v0 (dM mJ rfl rfl (vl 0 _ eU rfl rfl rfl (dL jE rfl (m5 m (σ:=(List aA)×Int) (τ:=cQ) (λg s=> [(some k2,.obj 62 (aD p1)),OC p0K (IntKind.wrap .i64 (p0.Seq+1)) ag0 g gE gV,bB ag0 z0,aT g s.1,bV gE p0.Exps,aM gV p0.Vols]) (λg s=>bG g 35 (s.1:List aA).length) (λg s=>.c 0 (.ptr p0K 0) (.c 66 (.sl none 35 (List.map aH p1.Chunks)) (.c 67 (nZ (p1.Chunks.length:Int)) (.c 68 (nZ s.2) .nil)))) gC oC (lx (.k4 .nil)) ?_ ?_))))))))
 rintro ag1 ⟨q0,q1⟩ x O1 m
 replace m:qJ w p1 q0 q1=some x:=m
 unfold qJ at m
 refine vs (v0 (vs (v0 ?_)))
 apply vi m <;> intro c2 m
 refine v0 (vs (v0 (vs (v0 (vx m fI rfl rfl λx0 _ m=>va (.agg (aH x0)) mH rfl rfl (ve λu=>bI (bM jR++(JK:List AV)) u m7 rfl rfl λk228 K5=>qk K5 rfl (ve λu=>aJ 0 (aH x0) u rfl rfl rfl rfl wN rfl rfl λK6=>qk K6 rfl (vs (v0 (u7 (by kernel_rfl) (jD rfl (dM dX rfl rfl (vl 2 (aZ ag1) eU rfl rfl rfl (dM nU rfl rfl (vl 0 (.agg (bM x0.Id)) fZ rfl rfl rfl ?_)))))))))))))))
 obtain⟨y1,Y2,m⟩:=aC m
 refine vn (λu=>bY (fC (.cons (Br.aw 4 cK O1 u rfl) (.cons (Br.refl _ _) .nil)) rfl (OT _ Y2)) rfl G6 rfl) (vs (vs (v0 (oU m (σ:=(List aA)) (τ:=cQ) (λg s=> [(some k228,.obj 44 (aH x0)),(some k2,.obj 62 (aD p1)),OC p0K (IntKind.wrap .i64 (p0.Seq+1)) ag0 g gE gV,bB ag0 z0,aT g s,bV gE p0.Exps,aM gV p0.Vols]) (λg s=>bG g 35 (s:List aA).length) (λg s=>.c 0 (.ptr p0K 0) (.c 6 (.ptr k228 0) (.c 7 (nZ y1.1) (.c 66 (.sl none 35 (List.map aH p1.Chunks)) (.c 67 (nZ (p1.Chunks.length:Int)) (.c 68 (nZ q1) .nil)))))) (λx m=> ?_) ?_))))
 refine v0 ?_
 apply vi m <;> intro c3 m
 refine v0 (vz [(13,some p0K,.obj 30 ([nZ (IntKind.wrap .i64 (p0.Seq+1)),aZ ag0,aZ ag1,aZ gE,aZ gV])),(1000000,some k228,.obj 44 (aH x0))] mixed (λu=>⟨λ_=>aI 2 u rfl,λ_=>aI 0 u rfl,trivial⟩) λu=>zP 0 rfl rfl (zP 1 rfl rfl (zN 2 rfl rfl (zF 3 rfl dX rfl (zL 4 0 (aZ ag1) rfl eU rfl rfl rfl (zI 5 rfl rfl (zF 6 rfl nU rfl (zL 7 1 (.agg (bM x0.Id)) rfl fZ rfl rfl rfl (zC 8 rfl (eZ (y:=.agg (aH ({ Id:=x0.Id,Staged:=false,Data:= [],Locs:= []}:aA))) (fF (bM x0.Id++(JK:List AV)) VG rfl) (bE.agg (cT.app 32 rfl (.cons (bE.refl _ _) (.cons (aV _) (.cons (aV _) .nil)))))) (zC 9 rfl (eI (List.map aH ([({ Id:=x0.Id,Staged:=false,Data:= [],Locs:= []}:aA)]:List aA)) kY rfl rfl rfl rfl) ?_))))))))))
 obtain⟨y2,Y3,m⟩:=aC m
 refine zE 10 rfl ?_
 have ho0:=lN (A:= [aT ag1 q0]) (R:= [(some k228,.obj 44 (aH x0)),(some k2,.obj 62 (aD p1)),OC p0K (IntKind.wrap .i64 (p0.Seq+1)) ag0 ag1 gE gV,bB ag0 z0,bV gE p0.Exps,aM gV p0.Vols]) u [[_], [_], [_], [_], [_], [_], [_]] rfl [4] [0,1,2,3,5,6] rfl rfl rfl
 refine cY ho0.1 (cI (aDG cK _ O1 ho0.2.2 Y3) rfl XJ rfl ?_)
 rintro x h' ⟨ag2,O2,K7,rfl,rfl⟩
 have K8:=lO (L':= [(some k228,.obj 44 (aH x0)),(some k2,.obj 62 (aD p1)),(hO p0K (IntKind.wrap .i64 (p0.Seq+1)) ag0 ag1 gE gV),bB ag0 z0,aT ag2 y2,bV gE p0.Exps,aM gV p0.Vols]) ho0.2.1 K7 [[_]] [[_], [_], [_], [_], [_], [_]] rfl rfl [1,2,3,4,0,5,6] rfl rfl
 refine kF K8.1 (⟨⟨λ_=>aI 2 K8.2 rfl,λ_=>aI 0 K8.2 rfl,trivial⟩, ?_⟩)
 refine zN 11 rfl rfl (zF 12 rfl dX rfl (zE 13 rfl (aJ 2 ([nZ (IntKind.wrap .i64 (p0.Seq+1)),aZ ag0,aZ ag2,aZ gE,aZ gV]) K8.2 rfl rfl (bZ rfl) (cC (bW _ _ _) rfl) yA rfl rfl λK9=>⟨⟨λe=>absurd e (by decide),λ_=>aI 0 K9 rfl,trivial⟩, ?_⟩)))
 exact zX (qk (f:=RQ 96 _ _ _ _ _ _ _ _ _ _ _ _ _ _) K9 rfl (eR m ag2 O2 (lx (.k6 .nil))))
 exact v0 (eR m ag1 O1 (lx (.k6 .nil)))
 rintro ag3 j1 O3 m
 refine v0 (vz [(1000000,some p0K,.obj 30 ([nZ (IntKind.wrap .i64 (p0.Seq+1)),aZ ag0,aZ ag3,aZ gE,aZ gV])),(1000000,some k228,.obj 44 (aH x0))] mixed (λu=>⟨λ_=>aI 2 u rfl,λ_=>aI 0 u rfl,trivial⟩) λu=>zP 0 rfl rfl (zN 1 rfl rfl (zF 2 rfl dX rfl (zL 3 0 (aZ ag3) rfl eU rfl rfl rfl (zI 4 rfl rfl (zP 5 rfl rfl (zN 6 rfl rfl (zF 7 rfl dX rfl (zL 8 0 (aZ ag3) rfl eU rfl rfl rfl (zI 9 rfl rfl (zF 10 rfl jK rfl (zL 11 1 (.sl none 1 (List.map dG x0.Data)) rfl lV rfl rfl rfl ?_))))))))))))
 obtain⟨y3,Y4,m⟩:=aC m
 refine zE 12 rfl (cI (W96 _ Y4) rfl OS rfl ?_)
 rintro x h' ⟨tg0,t0,K10,rfl,rfl⟩
 rw[iL]
 refine⟨⟨λ_=>aI 3 (bT.co u K10) rfl,λ_=>aI 1 (bT.co u K10) rfl,trivial⟩, ?_⟩
 obtain⟨x1,X0,m⟩:=aC m
 refine zC 13 rfl (cJ X0 fI O3 rfl rfl) (zC 14 rfl (cR (bG.ne O3 X0) nV rfl rfl) (zE 15 rfl (cG (fo:=32) ({ x1 with Staged:=true}:aA) 5 (bT.co u K10) X0 cK O3 rfl rfl rfl rfl (cT.refl _ _) T5 rfl rfl λK11=>⟨⟨λ_=>aI 3 K11 rfl,λ_=>aI 1 K11 rfl,trivial⟩, ?_⟩)))
 obtain⟨x2,X1,m⟩:=aC m
 refine zC 16 rfl (cJ X1 fI (bG.set O3) rfl rfl) (zC 17 rfl (cR (bG.ne (bG.set O3) X1) jK rfl rfl) (zE 18 rfl (wK (s:=109) (.sl none 1 (List.map dG y3)) (aR (.cons _ (.refl _)) K11).1 (Fz.ale (aR (.cons _ (.refl _)) K11).1 (mF _ 0 t0 K11 rfl (.refl _))) (cG (fo:=33) ({ x2 with Data:=y3}:aA) 4 ((aR (.cons _ (.refl _)) K11).2) X1 cK (bG.set O3) rfl rfl rfl rfl (cT.refl _ _) BA rfl rfl λK12=>⟨⟨λ_=>aI 2 K12 rfl,λ_=>aI 0 K12 rfl,trivial⟩, ?_⟩))))
 exact zX (qk (f:=uT 113 _ _ _ _ _ _ _ _ _ _ _ _ _ _ _ _ _ _) K12 rfl (v0 (eR m ag3 (bG.set (bG.set O3)) (l4 [1,2,3,4,5,6] rfl rfl (.k4 .nil)))))
 exact v0 (kT m ag1 O1 (lx (.k4 .nil)))
 rintro ag4 ⟨r0,r1⟩ t1 m
 refine vs (v0 (v0 ?_))
 cases m
 exact vr λu=>dV.of1 (.inl rfl) (fP _ _ (.sc (.int _ _)) rfl) (bD u [1,2,3,4,5] rfl).2 (bE.refl _ _) ⟨ag0,O0,ag4,t1,(bD u [1,2,3,4,5] rfl).1,rfl,rfl⟩
theorem aDT:aO Tryz.prog 72=true:=by kernel_rfl
open Go.Vm
def HI (m:Nat) (p0:List aG):Option (List aG):=app [] p0
theorem YH {w:Nat} {p0:List aG} {o:List aG} (h:aE) (m:HI w p0=some o):
 aL Tryz.prog 132 [.sl none 4 (List.map bR p0)] h (λr h'=>∃g:cQ,bG g 4 o.length∧bT h [(g.t,.obj 60 (fl bR o g.sp))]∧r=aZ g∧h'=hp h [(g.t,.obj 60 (fl bR o g.sp))]):=by
 refine jC 8 [.tmp 2] Tryz.func132 rfl rfl rfl rfl ?_
 unfold HI at m
 refine gN λK1 H1=>eG (qO (hU (.sc (.slice _ _ _)) rfl) (fO (H1 _ _ (gN λK1 H1=>gN λK2 H2=>eG (vE rfl (kW (jQ rfl (by rw[iN]; rfl) (by rw[bL]; exact rfl) (.inl ⟨_,_,_,rfl,λb hb=> ?_⟩))))))))
 refine fO (H2 _ _ (mY rfl (λhc=> ?_) (λhc=> ?_)))
 have h0:p0= []:=by
   cases p0 with
   | nil=>rfl
   | cons x l=>have:=hb (by simp); rw[this] at hc; cases hc
 subst h0
 obtain⟨rfl, -⟩:=iY m
 exact gN λK1 H1=>eG (qO (hU (.sc (.slice _ _ _)) rfl) (fO (H1 _ _ (iK (dV.one (.inl rfl) (hH.refl _) (fU _) ⟨g0,bG.g0 _,bT.none (bT.nil _),rfl,rfl⟩)))))
 exact lR (H1 _ _ (gN λK1 H1=>eG (kW (pK (c:=bR) (bT.nil _) uU λu=>vE rfl (kW (fX (c:=bR) 0 m uU rfl tJ rfl eH rfl rfl (bG.g0 _) u rfl λg ok u=>qO (hU (aw _ _ _) rfl) (fO (H1 _ _ (iK (dV.one (.inl rfl) (hH.refl _) (bE.refl _ _) ⟨g,ok,u,rfl,rfl⟩))))))))))
theorem YI:aO Tryz.prog 132=true:=by kernel_rfl
def HJ (m:Nat) (p0:List aA):Option (List aA):=app [] p0
theorem YJ {w:Nat} {p0:List aA} {o:List aA} (h:aE) (m:HJ w p0=some o):
 aL Tryz.prog 133 [.sl none 35 (List.map aH p0)] h (λr h'=>∃g:cQ,bG g 35 o.length∧bT h [(g.t,.obj 44 (fl aH o g.sp))]∧r=aZ g∧h'=hp h [(g.t,.obj 44 (fl aH o g.sp))]):=by
 refine jC 8 [.tmp 2] Tryz.func133 rfl rfl rfl rfl ?_
 unfold HJ at m
 refine gN λK1 H1=>eG (qO (hU (.sc (.slice _ _ _)) rfl) (fO (H1 _ _ (gN λK1 H1=>gN λK2 H2=>eG (vE rfl (kW (jQ rfl (by rw[fI]; rfl) (by rw[bL]; exact rfl) (.inl ⟨_,_,_,rfl,λb hb=> ?_⟩))))))))
 refine fO (H2 _ _ (mY rfl (λhc=> ?_) (λhc=> ?_)))
 have h0:p0= []:=by
   cases p0 with
   | nil=>rfl
   | cons x l=>have:=hb (by simp); rw[this] at hc; cases hc
 subst h0
 obtain⟨rfl, -⟩:=iY m
 exact gN λK1 H1=>eG (qO (hU (.sc (.slice _ _ _)) rfl) (fO (H1 _ _ (iK (dV.one (.inl rfl) (hH.refl _) (fU _) ⟨g0,bG.g0 _,bT.none (bT.nil _),rfl,rfl⟩)))))
 exact lR (H1 _ _ (gN λK1 H1=>eG (kW (pK (c:=aH) (bT.nil _) kY λu=>vE rfl (kW (fX (c:=aH) 0 m kY rfl m7 rfl cK rfl rfl (bG.g0 _) u rfl λg ok u=>qO (hU (aw _ _ _) rfl) (fO (H1 _ _ (iK (dV.one (.inl rfl) (hH.refl _) (bE.refl _ _) ⟨g,ok,u,rfl,rfl⟩))))))))))
theorem YK:aO Tryz.prog 133=true:=by kernel_rfl
def HK (m:Nat) (p0:List aN):Option (List aN):=app [] p0
theorem YL {w:Nat} {p0:List aN} {o:List aN} (h:aE) (m:HK w p0=some o):
 aL Tryz.prog 134 [.sl none 3 (List.map cL p0)] h (λr h'=>∃g:cQ,bG g 3 o.length∧bT h [(g.t,.obj 99 (fl cL o g.sp))]∧r=aZ g∧h'=hp h [(g.t,.obj 99 (fl cL o g.sp))]):=by
 refine jC 8 [.tmp 2] Tryz.func134 rfl rfl rfl rfl ?_
 unfold HK at m
 refine gN λK1 H1=>eG (qO (hU (.sc (.slice _ _ _)) rfl) (fO (H1 _ _ (gN λK1 H1=>gN λK2 H2=>eG (vE rfl (kW (jQ rfl (by rw[iE]; rfl) (by rw[bL]; exact rfl) (.inl ⟨_,_,_,rfl,λb hb=> ?_⟩))))))))
 refine fO (H2 _ _ (mY rfl (λhc=> ?_) (λhc=> ?_)))
 have h0:p0= []:=by
   cases p0 with
   | nil=>rfl
   | cons x l=>have:=hb (by simp); rw[this] at hc; cases hc
 subst h0
 obtain⟨rfl, -⟩:=iY m
 exact gN λK1 H1=>eG (qO (hU (.sc (.slice _ _ _)) rfl) (fO (H1 _ _ (iK (dV.one (.inl rfl) (hH.refl _) (fU _) ⟨g0,bG.g0 _,bT.none (bT.nil _),rfl,rfl⟩)))))
 exact lR (H1 _ _ (gN λK1 H1=>eG (kW (pK (c:=cL) (bT.nil _) oL λu=>vE rfl (kW (fX (c:=cL) 0 m oL rfl qE rfl fH rfl rfl (bG.g0 _) u rfl λg ok u=>qO (hU (aw _ _ _) rfl) (fO (H1 _ _ (iK (dV.one (.inl rfl) (hH.refl _) (bE.refl _ _) ⟨g,ok,u,rfl,rfl⟩))))))))))
theorem YM:aO Tryz.prog 134=true:=by kernel_rfl
def HM (m:Nat) (p0:List aP):Option (List aP):=app [] p0
theorem YN {w:Nat} {p0:List aP} {o:List aP} (h:aE) (m:HM w p0=some o):
 aL Tryz.prog 135 [.sl none 4 (List.map cZ p0)] h (λr h'=>∃g:cQ,bG g 4 o.length∧bT h [(g.t,.obj 49 (fl cZ o g.sp))]∧r=aZ g∧h'=hp h [(g.t,.obj 49 (fl cZ o g.sp))]):=by
 refine jC 8 [.tmp 2] Tryz.func135 rfl rfl rfl rfl ?_
 unfold HM at m
 refine gN λK1 H1=>eG (qO (hU (.sc (.slice _ _ _)) rfl) (fO (H1 _ _ (gN λK1 H1=>gN λK2 H2=>eG (vE rfl (kW (jQ rfl (by rw[kZ]; rfl) (by rw[bL]; exact rfl) (.inl ⟨_,_,_,rfl,λb hb=> ?_⟩))))))))
 refine fO (H2 _ _ (mY rfl (λhc=> ?_) (λhc=> ?_)))
 have h0:p0= []:=by
   cases p0 with
   | nil=>rfl
   | cons x l=>have:=hb (by simp); rw[this] at hc; cases hc
 subst h0
 obtain⟨rfl, -⟩:=iY m
 exact gN λK1 H1=>eG (qO (hU (.sc (.slice _ _ _)) rfl) (fO (H1 _ _ (iK (dV.one (.inl rfl) (hH.refl _) (fU _) ⟨g0,bG.g0 _,bT.none (bT.nil _),rfl,rfl⟩)))))
 exact lR (H1 _ _ (gN λK1 H1=>eG (kW (pK (c:=cZ) (bT.nil _) FI λu=>vE rfl (kW (fX (c:=cZ) 0 m FI rfl ON rfl dY rfl rfl (bG.g0 _) u rfl λg ok u=>qO (hU (aw _ _ _) rfl) (fO (H1 _ _ (iK (dV.one (.inl rfl) (hH.refl _) (bE.refl _ _) ⟨g,ok,u,rfl,rfl⟩))))))))))
theorem YO:aO Tryz.prog 135=true:=by kernel_rfl
def sE (m:Nat) (y0:(List aG)) (q0:List aG) (q1:Int):Option (Lp ((List aG)×Int) (aB)):=
 if (decide (q1 < (y0.length:Int)))=true then ((ix q0 q1).bind λx0=>(I4 m x0.Man).bind λy1=>(DW m x0.Locs).bind λy2=>some (.go ((q0.set q1.toNat ({ x0 with Man:=y1})).set q1.toNat ({ ({ x0 with Man:=y1}:aG) with Locs:=y2}),IntKind.wrap .i64 (q1+1)))) else some (.brk (q0,q1))
def sF (m:Nat) (y0:(List aA)) (q0:List aA) (q1:Int):Option (Lp ((List aA)×Int) (aB)):=
 if (decide (q1 < (y0.length:Int)))=true then ((ix q0 q1).bind λx0=>(QF m x0.Data).bind λy1=>(DW m x0.Locs).bind λy2=>some (.go ((q0.set q1.toNat ({ x0 with Data:=y1})).set q1.toNat ({ ({ x0 with Data:=y1}:aA) with Locs:=y2}),IntKind.wrap .i64 (q1+1)))) else some (.brk (q0,q1))
def sG (m:Nat) (y0:(List aN)) (q0:List aN) (q1:Int):Option (Lp ((List aN)×Int) (aB)):=
 if (decide (q1 < (y0.length:Int)))=true then ((ix q0 q1).bind λx0=>(DW m x0.Locs).bind λy1=>(ix q0 q1).bind λx1=>some (.go (q0.set q1.toNat ({ x1 with Locs:=y1}),IntKind.wrap .i64 (q1+1)))) else some (.brk (q0,q1))
def ME (m:Nat) (p0:aB):Option (aB):=
 (HI m p0.Snaps).bind λy0=>(HJ m p0.Chunks).bind λy1=>(HK m p0.Exps).bind λy2=>(HM m p0.Vols).bind λy3=>after (aW (λs=>sE m y0 s.1 s.2) m (y0,0)) λ⟨r0,r1⟩=>after (aW (λs=>sF m y1 s.1 s.2) m (y1,0)) λ⟨r2,r3⟩=>after (aW (λs=>sG m y2 s.1 s.2) m (y2,0)) λ⟨r4,r5⟩=>some ({ Seq:=p0.Seq,Snaps:=r0,Chunks:=r2,Exps:=r4,Vols:=y3}:aB)
theorem aDU {w:Nat} {p0:aB} {o:aB} (h:aE) (m:ME w p0=some o):
 aL Tryz.prog 77 [.agg (aF p0)] h (λr h'=>∃gS:dE,lP aG.Locs 4 4 gS (o.Snaps:List aG)∧∃gC:dE,lP aA.Locs 35 4 gC (o.Chunks:List aA)∧∃gE:dE,lP aN.Locs 3 4 gE (o.Exps:List aN)∧∃gV:cQ,bG gV 4 o.Vols.length∧bT h ([bJ gS o.Snaps,aU gC o.Chunks,bO gE o.Exps,aM gV o.Vols]++((bN gS o.Snaps)++((aY gC o.Chunks)++(bQ gE o.Exps))))∧r= .agg ([nZ o.Seq,aZ gS.a,aZ gC.a,aZ gE.a,aZ gV])∧h'=hp h ([bJ gS o.Snaps,aU gC o.Chunks,bO gE o.Exps,aM gV o.Vols]++((bN gS o.Snaps)++((aY gC o.Chunks)++(bQ gE o.Exps))))):=by
 refine fY 98 [.cell 2 30] Tryz.func77 rfl rfl rfl rfl ?_
 unfold ME at m
 refine vs (v0 (gZ rfl rfl λk2 K3=>ve λu=>bI (gQ) u oM rfl rfl λk5 K6=>qk K6 rfl (vs (v0 (vz [(13,some k2,.obj 30 (aF p0))] mixed (λu=>⟨λ_=>aI 1 u rfl,trivial⟩) λu=>zF 0 rfl dU rfl (zL 1 0 (.sl none 4 (List.map bR p0.Snaps)) rfl fM rfl rfl rfl (zF 3 rfl dX rfl (zL 4 0 (.sl none 35 (List.map aH p0.Chunks)) rfl eU rfl rfl rfl (zF 6 rfl eW rfl (zL 7 0 (.sl none 3 (List.map cL p0.Exps)) rfl i8 rfl rfl rfl (zF 9 rfl fN rfl (zL 10 0 (.sl none 4 (List.map cZ p0.Vols)) rfl gH rfl rfl rfl ?_))))))))))))
 obtain⟨y0,Y0,m⟩:=aC m
 refine zE 2 rfl (cI (YH _ Y0) rfl YI rfl ?_)
 rintro x h' ⟨ag0,O0,K0,rfl,rfl⟩
 rw[iL]
 refine⟨⟨λ_=>aI 2 (bT.co u K0) rfl,trivial⟩, ?_⟩
 refine zF 12 rfl dU rfl ?_
 obtain⟨y1,Y1,m⟩:=aC m
 refine zE 5 rfl (cI (YJ _ Y1) rfl YK rfl ?_)
 rintro x h' ⟨ag1,O1,K1,rfl,rfl⟩
 rw[iL]
 refine⟨⟨λ_=>aI 3 (bT.co (bT.co u K0) K1) rfl,trivial⟩, ?_⟩
 obtain⟨y2,Y2,m⟩:=aC m
 refine zE 8 rfl (cI (YL _ Y2) rfl YM rfl ?_)
 rintro x h' ⟨ag2,O2,K2,rfl,rfl⟩
 rw[iL]
 refine⟨⟨λ_=>aI 4 (bT.co (bT.co (bT.co u K0) K1) K2) rfl,trivial⟩, ?_⟩
 obtain⟨y3,Y3,m⟩:=aC m
 refine zE 11 rfl (cI (YN _ Y3) rfl YO rfl ?_)
 rintro x h' ⟨ag3,O3,K4,rfl,rfl⟩
 rw[iL]
 refine⟨⟨λ_=>aI 5 (bT.co (bT.co (bT.co (bT.co u K0) K1) K2) K4) rfl,trivial⟩, ?_⟩
 refine zE 13 rfl (aJ 5 ([nZ p0.Seq,aZ ag0,.sl none 35 (List.map aH p0.Chunks),.sl none 3 (List.map cL p0.Exps),.sl none 4 (List.map cZ p0.Vols)]) (bT.co (bT.co (bT.co (bT.co u K0) K1) K2) K4) rfl rfl (bZ rfl) (cC (bW _ _ _) rfl) FH rfl rfl λK5=>⟨⟨λe=>absurd e (by decide),trivial⟩, ?_⟩)
 refine zF 14 rfl dX rfl (zE 15 rfl (aJ 5 ([nZ p0.Seq,aZ ag0,aZ ag1,.sl none 3 (List.map cL p0.Exps),.sl none 4 (List.map cZ p0.Vols)]) K5 rfl rfl (bZ rfl) (cC (bW _ _ _) rfl) yA rfl rfl λK7=>⟨⟨λe=>absurd e (by decide),trivial⟩, ?_⟩))
 refine zF 16 rfl eW rfl (zE 17 rfl (aJ 5 ([nZ p0.Seq,aZ ag0,aZ ag1,aZ ag2,.sl none 4 (List.map cZ p0.Vols)]) K7 rfl rfl (bZ rfl) (cC (bW _ _ _) rfl) II rfl rfl λK8=>⟨⟨λe=>absurd e (by decide),trivial⟩, ?_⟩))
 refine zF 18 rfl fN rfl (zE 19 rfl (aJ 5 ([nZ p0.Seq,aZ ag0,aZ ag1,aZ ag2,aZ ag3]) K8 rfl rfl (bZ rfl) (cC (bW _ _ _) rfl) OL rfl rfl λK9=>⟨⟨λe=>absurd e (by decide),trivial⟩, ?_⟩))
 refine zX (qk (f:=.c 23 _ (.c 22 _ (.c 21 _ (.c 19 _ (.c 16 _ (.c 13 _ (.c 20 _ (.c 10 _ (.c 18 _ (.c 17 _ (.c 15 _ (.c 14 _ (.c 12 _ (.c 11 _ (.c 9 _ (.c 8 _ _)))))))))))))))) K9 rfl (vs (vs (pJ (toN (L':=([aM ag3 y3,bO (⟨ag2,List.replicate (y2:List aN).length none⟩:dE) y2,aT ag1 y1,bB ag0 y0,(some k5,.obj 30 (gQ)),OC k2 p0.Seq ag0 ag1 ((⟨ag2,List.replicate (y2:List aN).length none⟩:dE).a) ag3]++(bQ (⟨ag2,List.replicate (y2:List aN).length none⟩:dE) y2))) (λ_=>rfl) [[_], [_], [_], [_], [_], [_]] rfl 1 rfl rfl) (pJ (toN (L':=([aM ag3 y3,bO (⟨ag2,List.replicate (y2:List aN).length none⟩:dE) y2,aU (⟨ag1,List.replicate (y1:List aA).length none⟩:dE) y1,bB ag0 y0,(some k5,.obj 30 (gQ)),OC k2 p0.Seq ag0 ((⟨ag1,List.replicate (y1:List aA).length none⟩:dE).a) ((⟨ag2,List.replicate (y2:List aN).length none⟩:dE).a) ag3]++((bQ (⟨ag2,List.replicate (y2:List aN).length none⟩:dE) y2)++(aY (⟨ag1,List.replicate (y1:List aA).length none⟩:dE) y1)))) (λ_=>rfl) [[_], [_], [_], [_], [_], [_],_] rfl 2 rfl rfl) (pJ (toN (L':=([aM ag3 y3,bO (⟨ag2,List.replicate (y2:List aN).length none⟩:dE) y2,aU (⟨ag1,List.replicate (y1:List aA).length none⟩:dE) y1,bJ (⟨ag0,List.replicate (y0:List aG).length none⟩:dE) y0,(some k5,.obj 30 (gQ)),OC k2 p0.Seq ((⟨ag0,List.replicate (y0:List aG).length none⟩:dE).a) ((⟨ag1,List.replicate (y1:List aA).length none⟩:dE).a) ((⟨ag2,List.replicate (y2:List aN).length none⟩:dE).a) ag3]++((bQ (⟨ag2,List.replicate (y2:List aN).length none⟩:dE) y2)++((aY (⟨ag1,List.replicate (y1:List aA).length none⟩:dE) y1)++(bN (⟨ag0,List.replicate (y0:List aG).length none⟩:dE) y0))))) (λ_=>rfl) [[_], [_], [_], [_], [_], [_],_,_] rfl 3 rfl rfl) (v0 (dM dU rfl rfl (vl 5 (aw (⟨ag0,List.replicate (y0:List aG).length none⟩:dE).a.t (⟨ag0,List.replicate (y0:List aG).length none⟩:dE).a.n (⟨ag0,List.replicate (y0:List aG).length none⟩:dE).a.cap) fM rfl rfl rfl (bU (dP jU ((BN.zero (l:=aG.Locs) (szi:=4) O0).k.a) rfl) ?_))))))))))
 refine S8 m (σ:=(List aG)×Int) (τ:=dE) (λg s=>([aM ag3 y3,bO (⟨ag2,List.replicate (y2:List aN).length none⟩:dE) y2,aU (⟨ag1,List.replicate (y1:List aA).length none⟩:dE) y1,bJ g s.1,(some k5,.obj 30 (gQ)),OC k2 p0.Seq g.a ((⟨ag1,List.replicate (y1:List aA).length none⟩:dE).a) ((⟨ag2,List.replicate (y2:List aN).length none⟩:dE).a) ag3]++((bQ (⟨ag2,List.replicate (y2:List aN).length none⟩:dE) y2)++((aY (⟨ag1,List.replicate (y1:List aA).length none⟩:dE) y1)++(bN g s.1))))) (λg s=>BN aG.Locs 4 4 g (s.1:List aG) s.2.toNat (y0:List aG).length) (λg s=>lP aG.Locs 4 4 g (s.1:List aG)) (λg s=>.c 1 (.ptr k2 0) (.c 2 (.ptr k5 0) (.c 26 (nZ (y0.length:Int)) (.c 27 (nZ s.2) .nil)))) (⟨ag0,List.replicate (y0:List aG).length none⟩:dE) (BN.zero (l:=aG.Locs) (szi:=4) O0) (lx (.k4 .nil)) ?_ ?_
 rintro ng0 ⟨q0,q1⟩ x O4 m
 replace m:sE w y0 q0 q1=some x:=m
 unfold sE at m
 refine vs (v0 (vs (v0 ?_)))
 apply vi m <;> intro c0 m
 refine v0 (vs (v0 (vs (v0 (vs (v0 (dM dU rfl rfl (vl 5 (aZ ng0.a) fM rfl rfl rfl ?_))))))))
 obtain⟨x0,X0,m⟩:=aC m
 refine bU (cJ (O4.k.ix X0) iN O4.k.z rfl rfl) (pJ (LS (L':=([aM ag3 y3,bO (⟨ag2,List.replicate (y2:List aN).length none⟩:dE) y2,aU (⟨ag1,List.replicate (y1:List aA).length none⟩:dE) y1,bJ ng0 q0,(some k5,.obj 30 (gQ)),OC k2 p0.Seq ng0.a ((⟨ag1,List.replicate (y1:List aA).length none⟩:dE).a) ((⟨ag2,List.replicate (y2:List aN).length none⟩:dE).a) ag3]++((bQ (⟨ag2,List.replicate (y2:List aN).length none⟩:dE) y2)++((aY (⟨ag1,List.replicate (y1:List aA).length none⟩:dE) y1)++(jW 81 aQ ((nl aG.Locs (zg (q0:List aG) ng0.gs)).eraseIdx q1.toNat)))))) [[_], [_], [_], [_], [_], [_],_,_,_] rfl 8 (q1.toNat) rfl rfl) (v0 (vz [(14,ng0.a.t,.obj 60 (fl kA (zg (q0:List aG) ng0.gs) ng0.a.sp))] mixed (λu=>⟨λ_=>aI 3 u rfl,trivial⟩) λu=>zC 0 rfl (eT (uR _ _) rfl) (zC 1 rfl (eT (uR _ _) rfl) (zC 2 rfl (eT (uR _ _) rfl) (zC 3 rfl (iM (bG.ne O4.k.z (O4.k.ix X0)) rfl) (zC 4 rfl (cR (bG.ne O4.k.z (O4.k.ix X0)) nW rfl rfl) (uS 5 rfl (λ_ _ hi hB=>dW (fo:=1) (.agg (bH x0.Man)) (O4.k.ix X0) kB O4.k.z m8 rfl (fW.get 0 hi rfl (hB 14 (by kernel_rfl))) (λ_=>rfl)) ?_))))))))
 obtain⟨y4,Y4,m⟩:=aC m
 refine zC 6 rfl (bY (YD _ Y4) rfl QU rfl) (zC 7 rfl (eT (uR _ _) rfl) (zC 8 rfl (iM (bG.ne O4.k.z (O4.k.ix X0)) rfl) (zC 9 rfl (cR (bG.ne O4.k.z (O4.k.ix X0)) jL rfl rfl) (uS 10 rfl (λ_ _ hi hB=>eZ (dW (fo:=3) (awO aQ 4 (gx ng0.gs q1.toNat) x0.Locs) (O4.k.ix X0) kB O4.k.z fJ rfl (fW.get 0 hi rfl (hB 14 (by kernel_rfl))) (λ_=>rfl)) (bE.of_eq (congrArg (λz=>awO aQ 4 z x0.Locs) (O4.post _ (Nat.le_refl _))))) ?_))))
 obtain⟨y5,Y5,m⟩:=aC m
 refine zE 11 rfl (cI (S2 _ Y5) rfl S3 rfl ?_)
 rintro x h' ⟨ag4,O5,K10,rfl,rfl⟩
 rw[iL]
 refine⟨⟨λ_=>aI 4 (bT.co u K10) rfl,trivial⟩, ?_⟩
 refine zC 12 rfl (iM (bG.ne O4.k.z (O4.k.ix X0)) rfl) (zC 13 rfl (cR (bG.ne O4.k.z (O4.k.ix X0)) nW rfl rfl) (zE 14 rfl (cG (fo:=1) (x':=(({ x0 with Man:=y4}:aG),(gx ng0.gs q1.toNat))) 4 (bT.co u K10) (O4.k.ix X0) kB O4.k.z rfl rfl rfl rfl (cT.refl _ _) yB rfl rfl ?_)))
 intro K11
 have hs0:rW aG.Locs 4 4 ng0 (q0:List aG):=O4.k
 have hn0:hp h _=hp h ([fE ag4 y5,aM ag3 y3,bO (⟨ag2,List.replicate (y2:List aN).length none⟩:dE) y2,aU (⟨ag1,List.replicate (y1:List aA).length none⟩:dE) y1,bJ ng0 (q0.set q1.toNat ({ x0 with Man:=y4})),(some k5,.obj 30 (gQ)),OC k2 p0.Seq ng0.a ((⟨ag1,List.replicate (y1:List aA).length none⟩:dE).a) ((⟨ag2,List.replicate (y2:List aN).length none⟩:dE).a) ag3]++((bQ (⟨ag2,List.replicate (y2:List aN).length none⟩:dE) y2)++((aY (⟨ag1,List.replicate (y1:List aA).length none⟩:dE) y1)++(jW 81 aQ ((nl aG.Locs (zg (q0.set q1.toNat ({ x0 with Man:=y4}):List aG) ng0.gs)).eraseIdx q1.toNat)))))∧bT h ([fE ag4 y5,aM ag3 y3,bO (⟨ag2,List.replicate (y2:List aN).length none⟩:dE) y2,aU (⟨ag1,List.replicate (y1:List aA).length none⟩:dE) y1,bJ ng0 (q0.set q1.toNat ({ x0 with Man:=y4})),(some k5,.obj 30 (gQ)),OC k2 p0.Seq ng0.a ((⟨ag1,List.replicate (y1:List aA).length none⟩:dE).a) ((⟨ag2,List.replicate (y2:List aN).length none⟩:dE).a) ag3]++((bQ (⟨ag2,List.replicate (y2:List aN).length none⟩:dE) y2)++((aY (⟨ag1,List.replicate (y1:List aA).length none⟩:dE) y1)++(jW 81 aQ ((nl aG.Locs (zg (q0.set q1.toNat ({ x0 with Man:=y4}):List aG) ng0.gs)).eraseIdx q1.toNat))))):=eqN (L:=_) K11 (by unfold bJ; (try unfold bN); rw[(hs0.set (x':=({ x0 with Man:=y4}:aG)) X0 rfl).2.2,← (hs0.set (x':=({ x0 with Man:=y4}:aG)) X0 rfl).2.1]; first | done | rfl)
 refine kF hn0.1 (⟨⟨λe=>absurd e (by decide),trivial⟩, ?_⟩)
 refine zC 15 rfl (iM (bG.ne ((O4.set (x':=({ x0 with Man:=y4}:aG)) X0 rfl).k.z) ((O4.set (x':=({ x0 with Man:=y4}:aG)) X0 rfl).k.ix (dD (x':=({ x0 with Man:=y4}:aG)) X0))) rfl) (zC 16 rfl (cR (bG.ne ((O4.set (x':=({ x0 with Man:=y4}:aG)) X0 rfl).k.z) ((O4.set (x':=({ x0 with Man:=y4}:aG)) X0 rfl).k.ix (dD (x':=({ x0 with Man:=y4}:aG)) X0))) jL rfl rfl) (zE 17 rfl (cG (fo:=3) (x':=(({ ({ x0 with Man:=y4}:aG) with Locs:=y5}:aG),some ag4)) 4 hn0.2 ((O4.set (x':=({ x0 with Man:=y4}:aG)) X0 rfl).k.ix (dD (x':=({ x0 with Man:=y4}:aG)) X0)) kB ((O4.set (x':=({ x0 with Man:=y4}:aG)) X0 rfl).k.z) rfl rfl (bZ rfl) (cC (bW _ _ _) rfl) (cT.refl _ _) nE rfl rfl ?_)))
 intro K12
 have O6:=(O4.set (x':=({ x0 with Man:=y4}:aG)) X0 rfl).step (x':=({ ({ x0 with Man:=y4}:aG) with Locs:=y5}:aG)) (dD (x':=({ x0 with Man:=y4}:aG)) X0) ag4 O5
 have hr0:=rX (L':=(eE ag4 y5)::(([aM ag3 y3,bO (⟨ag2,List.replicate (y2:List aN).length none⟩:dE) y2,aU (⟨ag1,List.replicate (y1:List aA).length none⟩:dE) y1,(ng0.a.t,.obj 60 (fl kA (((zg (q0.set q1.toNat ({ x0 with Man:=y4}):List aG) ng0.gs)).set q1.toNat (({ ({ x0 with Man:=y4}:aG) with Locs:=y5}:aG),some ag4)) ng0.a.sp)),(some k5,.obj 30 (gQ)),OC k2 p0.Seq ng0.a ((⟨ag1,List.replicate (y1:List aA).length none⟩:dE).a) ((⟨ag2,List.replicate (y2:List aN).length none⟩:dE).a) ag3]:HL)++((bQ (⟨ag2,List.replicate (y2:List aN).length none⟩:dE) y2)++((aY (⟨ag1,List.replicate (y1:List aA).length none⟩:dE) y1)++(jW 81 aQ ((nl aG.Locs (zg (q0.set q1.toNat ({ x0 with Man:=y4}):List aG) ng0.gs)).eraseIdx q1.toNat)))))) K12 [[_], [_], [_], [_], [_], [_], [_],_,_,_] rfl [0,1,2,3,4,5,6,7,8,9] rfl rfl
 have hj0:=n7 (L':=([aM ag3 y3,bO (⟨ag2,List.replicate (y2:List aN).length none⟩:dE) y2,aU (⟨ag1,List.replicate (y1:List aA).length none⟩:dE) y1,bJ (⟨ng0.a,ng0.gs.set q1.toNat (some ag4)⟩:dE) ((q0.set q1.toNat ({ x0 with Man:=y4})).set q1.toNat ({ ({ x0 with Man:=y4}:aG) with Locs:=y5})),(some k5,.obj 30 (gQ)),OC k2 p0.Seq ((⟨ng0.a,ng0.gs.set q1.toNat (some ag4)⟩:dE).a) ((⟨ag1,List.replicate (y1:List aA).length none⟩:dE).a) ((⟨ag2,List.replicate (y2:List aN).length none⟩:dE).a) ag3]++((bQ (⟨ag2,List.replicate (y2:List aN).length none⟩:dE) y2)++((aY (⟨ag1,List.replicate (y1:List aA).length none⟩:dE) y1)++(bN (⟨ng0.a,ng0.gs.set q1.toNat (some ag4)⟩:dE) ((q0.set q1.toNat ({ x0 with Man:=y4})).set q1.toNat ({ ({ x0 with Man:=y4}:aG) with Locs:=y5}))))))) [[_], [_], [_], [_], [_], [_],_,_,_] rfl 8 (zs:=nl aG.Locs (zg (q0.set q1.toNat ({ x0 with Man:=y4}):List aG) ng0.gs)) (j:=q1.toNat) (aG.Locs ({ ({ x0 with Man:=y4}:aG) with Locs:=y5}:aG),some ag4) (jH ((O4.set (x':=({ x0 with Man:=y4}:aG)) X0 rfl).k.nlat (dD (x':=({ x0 with Man:=y4}:aG)) X0))) rfl hr0.2 (by rw[← ((O4.set (x':=({ x0 with Man:=y4}:aG)) X0 rfl).k.setL (x':=({ ({ x0 with Man:=y4}:aG) with Locs:=y5}:aG)) (dD (x':=({ x0 with Man:=y4}:aG)) X0) ag4 O5).2.2,((O4.set (x':=({ x0 with Man:=y4}:aG)) X0 rfl).k.setL (x':=({ ({ x0 with Man:=y4}:aG) with Locs:=y5}:aG)) (dD (x':=({ x0 with Man:=y4}:aG)) X0) ag4 O5).2.1]; rfl)
 refine kF (hr0.1.trans hj0.1) (⟨⟨λe=>absurd e (by decide),trivial⟩, ?_⟩)
 exact zX (qk (f:=RS 49 _ _ _ _ _ _ _ _ _ _ _ _ _ _ _ _ _) hj0.2 rfl (v0 (eR m (⟨ng0.a,ng0.gs.set q1.toNat (some ag4)⟩:dE) O6 (lx (.k4 .nil)))))
 exact v0 (kT m ng0 (O4.all c0) (lx (.k4 .nil)))
 rintro ng1 ⟨r0,r1⟩ t0 m
 refine vs (vs (v0 (dM dX rfl rfl (vl 5 (aw (⟨ag1,List.replicate (y1:List aA).length none⟩:dE).a.t (⟨ag1,List.replicate (y1:List aA).length none⟩:dE).a.n (⟨ag1,List.replicate (y1:List aA).length none⟩:dE).a.cap) eU rfl rfl rfl (bU (dP jE ((BN.zero (l:=aA.Locs) (szi:=4) O1).k.a) rfl) (S8 m (σ:=(List aA)×Int) (τ:=dE) (λg s=>([aM ag3 y3,bO (⟨ag2,List.replicate (y2:List aN).length none⟩:dE) y2,aU g s.1,bJ ng1 r0,(some k5,.obj 30 (gQ)),OC k2 p0.Seq ng1.a g.a ((⟨ag2,List.replicate (y2:List aN).length none⟩:dE).a) ag3]++((bQ (⟨ag2,List.replicate (y2:List aN).length none⟩:dE) y2)++((aY g s.1)++(bN ng1 r0))))) (λg s=>BN aA.Locs 35 4 g (s.1:List aA) s.2.toNat (y1:List aA).length) (λg s=>lP aA.Locs 35 4 g (s.1:List aA)) (λg s=>.c 1 (.ptr k2 0) (.c 2 (.ptr k5 0) (.c 53 (nZ (y1.length:Int)) (.c 54 (nZ s.2) .nil)))) (⟨ag1,List.replicate (y1:List aA).length none⟩:dE) (BN.zero (l:=aA.Locs) (szi:=4) O1) (lx (.k4 .nil)) ?_ ?_))))))
 rintro ng2 ⟨q2,q3⟩ x O7 m
 replace m:sF w y1 q2 q3=some x:=m
 unfold sF at m
 refine vs (v0 (vs (v0 ?_)))
 apply vi m <;> intro c1 m
 refine v0 (vs (v0 (vs (v0 (vs (v0 (dM dX rfl rfl (vl 5 (aZ ng2.a) eU rfl rfl rfl ?_))))))))
 obtain⟨x1,X1,m⟩:=aC m
 refine bU (cJ (O7.k.ix X1) fI O7.k.z rfl rfl) (pJ (LS (L':=([aM ag3 y3,bO (⟨ag2,List.replicate (y2:List aN).length none⟩:dE) y2,aU ng2 q2,bJ ng1 r0,(some k5,.obj 30 (gQ)),OC k2 p0.Seq ng1.a ng2.a ((⟨ag2,List.replicate (y2:List aN).length none⟩:dE).a) ag3]++((bQ (⟨ag2,List.replicate (y2:List aN).length none⟩:dE) y2)++((jW 81 aQ ((nl aA.Locs (zg (q2:List aA) ng2.gs)).eraseIdx q3.toNat))++(bN ng1 r0))))) [[_], [_], [_], [_], [_], [_],_,_,_] rfl 7 (q3.toNat) rfl rfl) (v0 (vz [(14,ng2.a.t,.obj 44 (fl jB (zg (q2:List aA) ng2.gs) ng2.a.sp))] mixed (λu=>⟨λ_=>aI 2 u rfl,trivial⟩) λu=>zC 0 rfl (eT (uR _ _) rfl) (zC 1 rfl (eT (uR _ _) rfl) (zC 2 rfl (eT (uR _ _) rfl) (zC 3 rfl (iM (bG.ne O7.k.z (O7.k.ix X1)) rfl) (zC 4 rfl (cR (bG.ne O7.k.z (O7.k.ix X1)) jK rfl rfl) (uS 5 rfl (λ_ _ hi hB=>dW (fo:=33) (.sl none 1 (List.map dG x1.Data)) (O7.k.ix X1) iI O7.k.z lV rfl (fW.get 0 hi rfl (hB 14 (by kernel_rfl))) (λ_=>rfl)) (zC 7 rfl (eT (uR _ _) rfl) (zC 8 rfl (iM (bG.ne O7.k.z (O7.k.ix X1)) rfl) (zC 9 rfl (cR (bG.ne O7.k.z (O7.k.ix X1)) iO rfl rfl) (uS 10 rfl (λ_ _ hi hB=>eZ (dW (fo:=34) (awO aQ 4 (gx ng2.gs q3.toNat) x1.Locs) (O7.k.ix X1) iI O7.k.z fJ rfl (fW.get 0 hi rfl (hB 14 (by kernel_rfl))) (λ_=>rfl)) (bE.of_eq (congrArg (λz=>awO aQ 4 z x1.Locs) (O7.post _ (Nat.le_refl _))))) ?_))))))))))))
 obtain⟨y6,Y6,m⟩:=aC m
 refine zE 6 rfl (cI (W96 _ Y6) rfl OS rfl ?_)
 rintro x h' ⟨tg0,t1,K13,rfl,rfl⟩
 rw[iL]
 refine⟨⟨λ_=>aI 3 (bT.co u K13) rfl,trivial⟩, ?_⟩
 obtain⟨y7,Y7,m⟩:=aC m
 refine zE 11 rfl (cI (S2 _ Y7) rfl S3 rfl ?_)
 rintro x h' ⟨ag5,O8,K14,rfl,rfl⟩
 rw[iL]
 refine⟨⟨λ_=>aI 4 (bT.co (bT.co u K13) K14) rfl,trivial⟩, ?_⟩
 refine zC 12 rfl (iM (bG.ne O7.k.z (O7.k.ix X1)) rfl) (zC 13 rfl (cR (bG.ne O7.k.z (O7.k.ix X1)) jK rfl rfl) (zE 14 rfl (wK (s:=67) (.sl none 1 (List.map dG y6)) (aR (.cons_cons _ (.cons _ (.refl _))) (bT.co (bT.co u K13) K14)).1 (Fz.ale (aR (.cons_cons _ (.cons _ (.refl _))) (bT.co (bT.co u K13) K14)).1 (mF _ 1 t1 (bT.co (bT.co u K13) K14) rfl (.refl _))) (cG (fo:=33) (x':=(({ x1 with Data:=y6}:aA),(gx ng2.gs q3.toNat))) 3 ((aR (.cons_cons _ (.cons _ (.refl _))) (bT.co (bT.co u K13) K14)).2) (O7.k.ix X1) iI O7.k.z rfl rfl rfl rfl (cT.refl _ _) BA rfl rfl ?_))))
 intro K15
 have hs1:rW aA.Locs 35 4 ng2 (q2:List aA):=O7.k
 have hn1:hp h _=hp h ([fE ag5 y7,aM ag3 y3,bO (⟨ag2,List.replicate (y2:List aN).length none⟩:dE) y2,aU ng2 (q2.set q3.toNat ({ x1 with Data:=y6})),bJ ng1 r0,(some k5,.obj 30 (gQ)),OC k2 p0.Seq ng1.a ng2.a ((⟨ag2,List.replicate (y2:List aN).length none⟩:dE).a) ag3]++((bQ (⟨ag2,List.replicate (y2:List aN).length none⟩:dE) y2)++((jW 81 aQ ((nl aA.Locs (zg (q2.set q3.toNat ({ x1 with Data:=y6}):List aA) ng2.gs)).eraseIdx q3.toNat))++(bN ng1 r0))))∧bT h ([fE ag5 y7,aM ag3 y3,bO (⟨ag2,List.replicate (y2:List aN).length none⟩:dE) y2,aU ng2 (q2.set q3.toNat ({ x1 with Data:=y6})),bJ ng1 r0,(some k5,.obj 30 (gQ)),OC k2 p0.Seq ng1.a ng2.a ((⟨ag2,List.replicate (y2:List aN).length none⟩:dE).a) ag3]++((bQ (⟨ag2,List.replicate (y2:List aN).length none⟩:dE) y2)++((jW 81 aQ ((nl aA.Locs (zg (q2.set q3.toNat ({ x1 with Data:=y6}):List aA) ng2.gs)).eraseIdx q3.toNat))++(bN ng1 r0)))):=eqN (L:=_) K15 (by unfold aU; (try unfold aY); rw[(hs1.set (x':=({ x1 with Data:=y6}:aA)) X1 rfl).2.2,← (hs1.set (x':=({ x1 with Data:=y6}:aA)) X1 rfl).2.1]; first | done | rfl)
 refine kF hn1.1 (⟨⟨λe=>absurd e (by decide),trivial⟩, ?_⟩)
 refine zC 15 rfl (iM (bG.ne ((O7.set (x':=({ x1 with Data:=y6}:aA)) X1 rfl).k.z) ((O7.set (x':=({ x1 with Data:=y6}:aA)) X1 rfl).k.ix (dD (x':=({ x1 with Data:=y6}:aA)) X1))) rfl) (zC 16 rfl (cR (bG.ne ((O7.set (x':=({ x1 with Data:=y6}:aA)) X1 rfl).k.z) ((O7.set (x':=({ x1 with Data:=y6}:aA)) X1 rfl).k.ix (dD (x':=({ x1 with Data:=y6}:aA)) X1))) iO rfl rfl) (zE 17 rfl (cG (fo:=34) (x':=(({ ({ x1 with Data:=y6}:aA) with Locs:=y7}:aA),some ag5)) 3 hn1.2 ((O7.set (x':=({ x1 with Data:=y6}:aA)) X1 rfl).k.ix (dD (x':=({ x1 with Data:=y6}:aA)) X1)) iI ((O7.set (x':=({ x1 with Data:=y6}:aA)) X1 rfl).k.z) rfl rfl (bZ rfl) (cC (bW _ _ _) rfl) (cT.refl _ _) nE rfl rfl ?_)))
 intro K16
 have O9:=(O7.set (x':=({ x1 with Data:=y6}:aA)) X1 rfl).step (x':=({ ({ x1 with Data:=y6}:aA) with Locs:=y7}:aA)) (dD (x':=({ x1 with Data:=y6}:aA)) X1) ag5 O8
 have hr1:=rX (L':=(eE ag5 y7)::(([aM ag3 y3,bO (⟨ag2,List.replicate (y2:List aN).length none⟩:dE) y2,(ng2.a.t,.obj 44 (fl jB (((zg (q2.set q3.toNat ({ x1 with Data:=y6}):List aA) ng2.gs)).set q3.toNat (({ ({ x1 with Data:=y6}:aA) with Locs:=y7}:aA),some ag5)) ng2.a.sp)),bJ ng1 r0,(some k5,.obj 30 (gQ)),OC k2 p0.Seq ng1.a ng2.a ((⟨ag2,List.replicate (y2:List aN).length none⟩:dE).a) ag3]:HL)++((bQ (⟨ag2,List.replicate (y2:List aN).length none⟩:dE) y2)++((jW 81 aQ ((nl aA.Locs (zg (q2.set q3.toNat ({ x1 with Data:=y6}):List aA) ng2.gs)).eraseIdx q3.toNat))++(bN ng1 r0))))) K16 [[_], [_], [_], [_], [_], [_], [_],_,_,_] rfl [0,1,2,3,4,5,6,7,8,9] rfl rfl
 have hj1:=n7 (L':=([aM ag3 y3,bO (⟨ag2,List.replicate (y2:List aN).length none⟩:dE) y2,aU (⟨ng2.a,ng2.gs.set q3.toNat (some ag5)⟩:dE) ((q2.set q3.toNat ({ x1 with Data:=y6})).set q3.toNat ({ ({ x1 with Data:=y6}:aA) with Locs:=y7})),bJ ng1 r0,(some k5,.obj 30 (gQ)),OC k2 p0.Seq ng1.a ((⟨ng2.a,ng2.gs.set q3.toNat (some ag5)⟩:dE).a) ((⟨ag2,List.replicate (y2:List aN).length none⟩:dE).a) ag3]++((bQ (⟨ag2,List.replicate (y2:List aN).length none⟩:dE) y2)++((aY (⟨ng2.a,ng2.gs.set q3.toNat (some ag5)⟩:dE) ((q2.set q3.toNat ({ x1 with Data:=y6})).set q3.toNat ({ ({ x1 with Data:=y6}:aA) with Locs:=y7})))++(bN ng1 r0))))) [[_], [_], [_], [_], [_], [_],_,_,_] rfl 7 (zs:=nl aA.Locs (zg (q2.set q3.toNat ({ x1 with Data:=y6}):List aA) ng2.gs)) (j:=q3.toNat) (aA.Locs ({ ({ x1 with Data:=y6}:aA) with Locs:=y7}:aA),some ag5) (jH ((O7.set (x':=({ x1 with Data:=y6}:aA)) X1 rfl).k.nlat (dD (x':=({ x1 with Data:=y6}:aA)) X1))) rfl hr1.2 (by rw[← ((O7.set (x':=({ x1 with Data:=y6}:aA)) X1 rfl).k.setL (x':=({ ({ x1 with Data:=y6}:aA) with Locs:=y7}:aA)) (dD (x':=({ x1 with Data:=y6}:aA)) X1) ag5 O8).2.2,((O7.set (x':=({ x1 with Data:=y6}:aA)) X1 rfl).k.setL (x':=({ ({ x1 with Data:=y6}:aA) with Locs:=y7}:aA)) (dD (x':=({ x1 with Data:=y6}:aA)) X1) ag5 O8).2.1]; rfl)
 refine kF (hr1.1.trans hj1.1) (⟨⟨λe=>absurd e (by decide),trivial⟩, ?_⟩)
 exact zX (qk (f:=fq5 76 _ _ _ _ _ (.c 67 _ (OE 71 _ _ _ _ (fq6 66 _ _ _ _ _ _ _)))) hj1.2 rfl (v0 (eR m (⟨ng2.a,ng2.gs.set q3.toNat (some ag5)⟩:dE) O9 (lx (.k4 .nil)))))
 exact v0 (kT m ng2 (O7.all c1) (lx (.k4 .nil)))
 rintro ng3 ⟨r2,r3⟩ t2 m
 refine vs (vs (v0 (dM eW rfl rfl (vl 5 (aw (⟨ag2,List.replicate (y2:List aN).length none⟩:dE).a.t (⟨ag2,List.replicate (y2:List aN).length none⟩:dE).a.n (⟨ag2,List.replicate (y2:List aN).length none⟩:dE).a.cap) i8 rfl rfl rfl (bU (dP o5 ((BN.zero (l:=aN.Locs) (szi:=4) O2).k.a) rfl) (S8 m (σ:=(List aN)×Int) (τ:=dE) (λg s=>([aM ag3 y3,bO g s.1,aU ng3 r2,bJ ng1 r0,(some k5,.obj 30 (gQ)),OC k2 p0.Seq ng1.a ng3.a g.a ag3]++((bQ g s.1)++((aY ng3 r2)++(bN ng1 r0))))) (λg s=>BN aN.Locs 3 4 g (s.1:List aN) s.2.toNat (y2:List aN).length) (λg s=>lP aN.Locs 3 4 g (s.1:List aN)) (λg s=>.c 1 (.ptr k2 0) (.c 2 (.ptr k5 0) (.c 80 (nZ (y2.length:Int)) (.c 81 (nZ s.2) .nil)))) (⟨ag2,List.replicate (y2:List aN).length none⟩:dE) (BN.zero (l:=aN.Locs) (szi:=4) O2) (lx (.k4 .nil)) ?_ ?_))))))
 rintro ng4 ⟨q4,q5⟩ x O10 m
 replace m:sG w y2 q4 q5=some x:=m
 unfold sG at m
 refine vs (v0 (vs (v0 ?_)))
 apply vi m <;> intro c2 m
 refine v0 (vs (v0 (vs (v0 (pJ (LS (L':=([aM ag3 y3,bO ng4 q4,aU ng3 r2,bJ ng1 r0,(some k5,.obj 30 (gQ)),OC k2 p0.Seq ng1.a ng3.a ng4.a ag3]++((jW 81 aQ ((nl aN.Locs (zg (q4:List aN) ng4.gs)).eraseIdx q5.toNat))++((aY ng3 r2)++(bN ng1 r0))))) [[_], [_], [_], [_], [_], [_],_,_,_] rfl 6 (q5.toNat) rfl rfl) (v0 (vz [(1000000,some k2,.obj 30 ([nZ p0.Seq,aZ ng1.a,aZ ng3.a,aZ ng4.a,aZ ag3])),(12,ng4.a.t,.obj 99 (fl kQ (zg (q4:List aN) ng4.gs) ng4.a.sp))] mixed (λu=>⟨λ_=>aI 5 u rfl,λ_=>aI 1 u rfl,trivial⟩) λu=>zF 0 rfl eW rfl (zL 1 0 (aZ ng4.a) rfl i8 rfl rfl rfl (zI 2 rfl rfl (zF 3 rfl eW rfl (zL 4 0 (aZ ng4.a) rfl i8 rfl rfl rfl (zI 5 rfl rfl ?_))))))))))))
 obtain⟨x2,X2,m⟩:=aC m
 refine zC 6 rfl (cJ (O10.k.ix X2) iE O10.k.z rfl rfl) (zC 7 rfl (cR (bG.ne O10.k.z (O10.k.ix X2)) kN rfl rfl) (uS 8 rfl (λ_ _ hi hB=>eZ (dW (fo:=2) (awO aQ 4 (gx ng4.gs q5.toNat) x2.Locs) (O10.k.ix X2) n9 O10.k.z fJ rfl (fW.get 1 hi rfl (hB 12 (by kernel_rfl))) (λ_=>rfl)) (bE.of_eq (congrArg (λz=>awO aQ 4 z x2.Locs) (O10.post _ (Nat.le_refl _))))) ?_))
 obtain⟨y8,Y8,m⟩:=aC m
 refine zE 9 rfl (cI (S2 _ Y8) rfl S3 rfl ?_)
 rintro x h' ⟨ag6,O11,K17,rfl,rfl⟩
 rw[iL]
 refine⟨⟨λ_=>aI 6 (bT.co u K17) rfl,λ_=>aI 2 (bT.co u K17) rfl,trivial⟩, ?_⟩
 obtain⟨x3,X3,m⟩:=aC m
 refine zC 10 rfl (cJ (O10.k.ix X3) iE O10.k.z rfl rfl) (zC 11 rfl (cR (bG.ne O10.k.z (O10.k.ix X3)) kN rfl rfl) (zE 12 rfl (cG (fo:=2) (x':=(({ x3 with Locs:=y8}:aN),some ag6)) 2 (bT.co u K17) (O10.k.ix X3) n9 O10.k.z rfl rfl (bZ rfl) (cC (bW _ _ _) rfl) (cT.refl _ _) nE rfl rfl ?_)))
 intro K18
 have O12:=O10.step (x':=({ x3 with Locs:=y8}:aN)) X3 ag6 O11
 have hr2:=rX (L':=(eE ag6 y8)::(([aM ag3 y3,(ng4.a.t,.obj 99 (fl kQ (((zg (q4:List aN) ng4.gs)).set q5.toNat (({ x3 with Locs:=y8}:aN),some ag6)) ng4.a.sp)),aU ng3 r2,bJ ng1 r0,(some k5,.obj 30 (gQ)),OC k2 p0.Seq ng1.a ng3.a ng4.a ag3]:HL)++((jW 81 aQ ((nl aN.Locs (zg (q4:List aN) ng4.gs)).eraseIdx q5.toNat))++((aY ng3 r2)++(bN ng1 r0))))) K18 [[_], [_], [_], [_], [_], [_], [_],_,_,_] rfl [0,1,2,3,4,5,6,7,8,9] rfl rfl
 have hj2:=n7 (L':=([aM ag3 y3,bO (⟨ng4.a,ng4.gs.set q5.toNat (some ag6)⟩:dE) (q4.set q5.toNat ({ x3 with Locs:=y8})),aU ng3 r2,bJ ng1 r0,(some k5,.obj 30 (gQ)),OC k2 p0.Seq ng1.a ng3.a ((⟨ng4.a,ng4.gs.set q5.toNat (some ag6)⟩:dE).a) ag3]++((bQ (⟨ng4.a,ng4.gs.set q5.toNat (some ag6)⟩:dE) (q4.set q5.toNat ({ x3 with Locs:=y8})))++((aY ng3 r2)++(bN ng1 r0))))) [[_], [_], [_], [_], [_], [_],_,_,_] rfl 6 (zs:=nl aN.Locs (zg (q4:List aN) ng4.gs)) (j:=q5.toNat) (aN.Locs ({ x3 with Locs:=y8}:aN),some ag6) (jH (O10.k.nlat X3)) rfl hr2.2 (by rw[← (O10.k.setL (x':=({ x3 with Locs:=y8}:aN)) X3 ag6 O11).2.2,(O10.k.setL (x':=({ x3 with Locs:=y8}:aN)) X3 ag6 O11).2.1]; rfl)
 refine kF (hr2.1.trans hj2.1) (⟨⟨λ_=>aI 5 hj2.2 rfl,λe=>absurd e (by decide),trivial⟩, ?_⟩)
 exact zX (qk (f:=IF 95 _ _ _ _ _ _ _ _ _ _ _ _ _) hj2.2 rfl (v0 (eR m (⟨ng4.a,ng4.gs.set q5.toNat (some ag6)⟩:dE) O12 (lx (.k4 .nil)))))
 exact v0 (kT m ng4 (O10.all c2) (lx (.k4 .nil)))
 rintro ng5 ⟨r4,r5⟩ t3 m
 refine vs (v0 (vl 5 (.agg ([nZ p0.Seq,aZ ng1.a,aZ ng3.a,aZ ng5.a,aZ ag3])) eV rfl rfl rfl (ve λu=>aJ 4 ([nZ p0.Seq,aZ ng1.a,aZ ng3.a,aZ ng5.a,aZ ag3]) u rfl rfl rfl (by repeat (first | exact rfl | refine cC (iC _ _ _) ?_ | refine cC (bW _ _ _) ?_ | refine cC (f0 _ _ _ _) ?_ | refine cC rfl ?_)) lA rfl rfl λK19=>qk K19 rfl ?_)))
 refine v0 ?_
 cases m
 exact vr λu=>dV.of1 (.inl rfl) (pU (.agg ([nZ p0.Seq,aZ ng1.a,aZ ng3.a,aZ ng5.a,aZ ag3])) eV rfl (a8 4 u rfl) rfl) (rY (L':=([bJ ng1 r0,aU ng3 r2,bO ng5 r4,aM ag3 y3]++((bN ng1 r0)++((aY ng3 r2)++(bQ ng5 r4))))) u [[_], [_], [_], [_], [_], [_],_,_,_] rfl [3,2,1,0,8,7,6] rfl rfl).2 (bE.refl _ _) ⟨ng1,t0,ng3,t2,ng5,t3,ag3,O3,(rY (L':=([bJ ng1 r0,aU ng3 r2,bO ng5 r4,aM ag3 y3]++((bN ng1 r0)++((aY ng3 r2)++(bQ ng5 r4))))) u [[_], [_], [_], [_], [_], [_],_,_,_] rfl [3,2,1,0,8,7,6] rfl rfl).1,rfl,rfl⟩
theorem aDV:aO Tryz.prog 77=true:=by kernel_rfl
end Go.Proofs.YtbbifdfldpfphaaGreat
namespace Go.Vm
def qK (l:List (Int×Nat)):List (Value×Value):=l.map λx=>(.int .i64 x.1,.func (.func x.2) #[] #[])
theorem oB (x:Int):∀(l:List (Int×Nat)) (ents:List MapEntry) (i:Nat),ents.map (λe=>(e.key,e.val))=qK l→
    (∀e,l.find? (λe=>e.1==x)=some e→∃j,Instr.findNow (.int .i64) (.int .i64 x) ents i=some (some (j,.func (.func e.2) #[] #[])))∧
    (l.find? (λe=>e.1==x)=none→Instr.findNow (.int .i64) (.int .i64 x) ents i=some none)
  | [], [],i,_=>⟨λe h=>by simp at h,λ_=>rfl⟩
  | [],_::_,_,h=>by simp[qK] at h
  | _::_, [],_,h=>by simp[qK] at h
  | y::l,e::ents,i,h=>by
    simp only[List.map_cons,qK,List.cons.injEq,Prod.mk.injEq] at h
    obtain⟨⟨h1,h2⟩,h3⟩:=h
    obtain⟨ih1,ih2⟩:=oB x l ents (i+1) h3
    have hn:Instr.findNow (.int .i64) (.int .i64 x) (e::ents) i=(if (y.1==x)=true then some (some (i,e.val)) else Instr.findNow (.int .i64) (.int .i64 x) ents (i+1)):=by
      simp only[Instr.findNow,h1,Instr.sameNow,if_true]
      by_cases q:x=y.1
      · subst q; simp
      · have q1:(x==y.1)=false:=by simpa using q
        have q2:(y.1==x)=false:=by simpa using Ne.symm q
        rw[q1,q2]; simp
    rw[hn]
    simp only[List.find?_cons]
    cases q:(y.1==x)
    · exact⟨λe' he=>by obtain⟨j,hj⟩:=ih1 e' (by simpa using he); exact⟨j,by simpa using hj⟩,λhe=>by simpa using ih2 (by simpa using he)⟩
    · exact⟨λe' he=>by simp at he; subst he; exact⟨i,by simp[h2]⟩,λhe=>by simp at he⟩
section
variable {P:Program} {h h0:aE} {L:HL} {n:Nat} {kvs:KV} {ty:TypeId} {pos:String} {dO:Array Edge}
theorem HN {l:List (Int×Nat)} {x:Int} {dst:Option Tmp} {t kt et:TypeId} {m y:Operand} {q:cB} {z:Value} (ht:P.underlying t=some (.map kt et)) (hz:(P.info? et).bind (·.zero)=some z) (hkt:P.underlying kt=some (.int .i64))
    (hm:dI n kvs m= .mpv q) (hy:dI n kvs y= .sc (.int .i64 x)) (hq:h q=some (.mp (qK l))):
    eJ P ⟨dst,.lookup t m y true,ty,pos,dO,none⟩ (match l.find? (λe=>e.1==x) with | some e=>.tup [.fn (.func e.2) [],.sc (.bool true)] | none=>.tup [.any,.sc (.bool false)]) (fm n kvs) h:=by
  refine eC (x:=match l.find? (λe=>e.1==x) with | some e=>.tup [.fn (.func e.2) [],.sc (.bool true)] | none=>.tup [.any,.sc (.bool false)]) (λE w ac r hv=> ?_) ⟨rfl,rfl⟩
  have vm:=hv m (by simp[Op.operands])
  have vy:=hv y (by simp[Op.operands])
  rw[bL,hm] at vm; rw[bL,hy] at vy
  simp only[VR] at vm vy
  obtain⟨g,hg,em⟩:=vm
  obtain⟨g',ents,clk,e1,e2,e3⟩:=r.mp q _ hq
  rw[hg] at e1; cases e1
  have hck:=λb=>nT (P:=P) hkt 9999 x b w
  obtain⟨f1,f2⟩:=oB x l ents.toList 0 e3
  have hz1:(zeroValue et).run P w= .ok z w:=by
    cases hi:P.info? et with
    | none=>rw[hi] at hz; simp at hz
    | some i=>
      rw[hi] at hz
      simp at hz
      simp[zeroValue,typeInfo,hi,hz]
  have hgo:(getObj g).run P w= .ok (.map ents clk) w:=by simp[getObj,Sem.run,e2]
  simp only[execOp,em,vy,Instr.lookup,Sem.run_bind,run_underlying ht,Result.andThen_ok,hgo,Sem.run_pure,hck,Instr.findKey,run_underlying hkt]
  cases ha:l.find? (λe=>e.1==x) with
  | some e=>
    obtain⟨j,a1⟩:=f1 e ha
    refine⟨.tuple #[.func (.func e.2) #[] #[],.bool true],by simp[a1], ?_⟩
    simp only[VR]
    exact⟨_,rfl,by simp[cV,VR]⟩
  | none=>
    have a1:=f2 ha
    refine⟨.tuple #[z,.bool false],by simp[a1,hz1], ?_⟩
    simp only[VR]
    exact⟨_,rfl,by simp[cV,VR]⟩
theorem xH {K:AV→aE→Prop} {l:List (Int×Nat)} {x:Int} {f:Nat} {dst:Option Tmp} {t kt et:TypeId} {m y v:Operand} {q:cB} (i:Nat) (hk:bT h0 L) (ht:P.underlying t=some (.map kt et)) (hkt:P.underlying kt=some (.int .i64))
    (hm:dI n kvs m= .mpv q) (hy:dI n kvs y= .sc (.int .i64 x)) (hv:dI n kvs v= .fn (.func f) []) (hi:L[i]? =some (some q,.mp (qK l))) (hnew:l.find? (λe=>e.1==x)=none)
    (k:bT h0 (L.set i (some q,.mp (qK (l++ [(x,f)]))))→K (.sc undef) (hp h0 (L.set i (some q,.mp (qK (l++ [(x,f)])))))):
    iT P ⟨dst,.insert t m y v,ty,pos,dO,none⟩ K (fm n kvs) (hp h0 L):=by
  intro E w a r hva Nx Qx hn
  have vm:=hva m (by simp[Op.operands])
  have vy:=hva y (by simp[Op.operands])
  have vv:=hva v (by simp[Op.operands])
  rw[bL,hm] at vm; rw[bL,hy] at vy; rw[bL,hv] at vv
  simp only[VR] at vm vy vv
  obtain⟨g,hg,em⟩:=vm
  obtain⟨cs,ev,hcs⟩:=vv
  have hc0:cs= #[]:=by
    have:cs.toList= []:=by
      cases hh:cs.toList with
      | nil=>rfl
      | cons a b=>rw[hh] at hcs; simp only[cV] at hcs
    simpa using this
  subst hc0
  obtain⟨g',ents,clk,e1,e2,e3⟩:=r.mp q _ (a8 i hk hi)
  rw[hg] at e1; cases e1
  have hq:=a8 i hk hi
  have hck:=λb=>nT (P:=P) hkt 9999 x b w
  obtain⟨f1,f2⟩:=oB x l ents.toList 0 e3
  have hf:=f2 hnew
  have hgo:(getObj g).run P w= .ok (.map ents clk) w:=by simp[getObj,Sem.run,e2]
  have hglt:=(Array.getElem?_eq_some_iff.1 e2).1
  obtain⟨h1,h2,_⟩:=iX (e':=.mp (qK (l++ [(x,f)]))) i hk hi (.inl rfl)
  have hes:(ents.push { key:=.int .i64 x,val:=.func (.func f) #[] #[],born:=clk}).toList.map (λe=>(e.key,e.val))=qK (l++ [(x,f)]):=by
    simp only[Array.toList_push,List.map_append,e3,qK,List.map_cons,List.map_nil]
  have hfind:(Instr.findKey kt (.int .i64 x) ents.toList).run P w= .ok none w:=by
    simp only[Instr.findKey,Sem.run_bind,run_underlying hkt,Result.andThen_ok,hf,Sem.run_pure]
  have hrun:(execOp a.eval ⟨dst,.insert t m y v,ty,pos,dO,none⟩).run P w= .ok .skip { w with heap:=w.heap.setIfInBounds g (.map (ents.push { key:=.int .i64 x,val:=.func (.func f) #[] #[],born:=clk}) (clk+1))}:=by
    simp only[execOp,em,vy,ev,Instr.mapUpdate,Sem.run_bind,run_underlying ht,Result.andThen_ok,hgo,hck,hfind]
    simp[setObj,Sem.run,e2]
  obtain⟨k1,r1⟩:=r.set_mp hq hg (ents.push { key:=.int .i64 x,val:=.func (.func f) #[] #[],born:=clk}) (clk+1) (w':= { w with heap:=w.heap.setIfInBounds g (.map (ents.push { key:=.int .i64 x,val:=.func (.func f) #[] #[],born:=clk}) (clk+1))}) (by simp[hglt]) (λg' hg'=>by simp[Ne.symm hg']) (by simp) rfl rfl rfl
  unfold Oper.wp
  rw[hrun]
  rw[hes,h1] at r1
  exact hn (.sc undef) undef _ E _ k1 r1 (by simp only[VR]) (k h2)
end
theorem PN (args:List AV):fm args.length (A4 0 args).k=args:=by
 apply List.ext_getElem?
 intro i
 rw[oW,FF]
 have e:=sX 0 0 args i
 rw[Nat.zero_add,List.replicate_zero,List.append_nil] at e
 by_cases h:i < args.length
 ·rw[if_pos h,e,List.getElem?_eq_getElem h]
  simp[List.getD,h]
 ·rw[if_neg h,List.getElem?_eq_none (by omega)]
theorem uC {P:Program} {f:FuncId} {args:List AV} {Q:AV→aE→Prop} {H H':aE} (le:iS (fm args.length (A4 0 args).k) H' (fm args.length (A4 0 args).k) H) (hc:aL P f args H' Q):aL P f args H Q:=by
 rw[PN] at le
 intro E w vs r v
 obtain⟨E1,k1,r1,v1⟩:=le E w _ r v
 refine(hc E1 w vs r1 v1).mono ?_
 rintro e w' ⟨v',E',x,h',rfl,k,r',vx,q⟩
 exact⟨v',E',x,h',rfl,k1.trans k,r',vx,q⟩
theorem lE {P:Program} {f:FuncId} {args:List AV} {Q Q':AV→aE→Prop} {H:aE} (hc:aL P f args H Q) (hq:∀r h',Q r h'→Q' r h'):aL P f args H Q':=hc.mono hq
end Go.Vm
namespace Go.Proofs.YtbbifdfldpfphaaGreat
open Go.Vm
def jP:List (Int×Nat):= [(1,72),(2,73),(3,74),(4,75),(5,76)]
def gK (m:Nat) (f:Nat) (d:aB) (x:aS):Option (aB×Int):=
 if f=72 then (UC m d x).bind λo=>some ({ d with Seq:=o.2.1,Snaps:=o.2.2.1,Chunks:=o.2.2.2},o.1)
 else if f=73 then (T9 m d x).bind λo=>some ({ d with Snaps:=o.2.1,Chunks:=o.2.2},o.1)
 else if f=74 then (UA m d x).bind λo=>some ({ Seq:=o.2.1,Snaps:=o.2.2.1,Chunks:=o.2.2.2.1,Exps:=o.2.2.2.2.1,Vols:=o.2.2.2.2.2},o.1)
 else if f=75 then (UB m d x).bind λo=>some ({ d with Snaps:=o.2.1,Chunks:=o.2.2.1,Exps:=o.2.2.2.1,Vols:=o.2.2.2.2},o.1)
 else if f=76 then (T8 m d x).bind λo=>some ({ d with Vols:=o.2},o.1)
 else none
def zU (m:Nat) (p0:aB) (p1:aS):Option (aB×Int):=
 match jP.find? (λe=>e.1==p1.Kind) with
 | none=>some (dA,1)
 | some e=>(T6 m p0).bind λy=>if (y !=0)=true then some (dA,1) else (ME m p0).bind λd=>
 after ((gK m e.2 d p1).bind λs=>some (.brk s):Option (Lp (aB×Int) (aB×Int))) λs=>if (s.2 !=0)=true then some (dA,s.2) else (T6 m s.1).bind λy2=>if (y2 !=0)=true then some (dA,1) else some (s.1,0)
abbrev MF (k:cB) (d:aB) (a b c:dE) (v:cQ):HL:= [OC k d.Seq a.a b.a c.a v,bJ a d.Snaps,aU b d.Chunks,bO c d.Exps,aM v d.Vols]++((bN a d.Snaps)++((aY b d.Chunks)++(bQ c d.Exps)))
abbrev MG (k:cB) (d:aB) (a b c v:cQ):HL:= [OC k d.Seq a b c v,bB a d.Snaps,aT b d.Chunks,bV c d.Exps,aM v d.Vols]
theorem aDW {h:aE} {k:cB} {d:aB} {a b c:dE} {v:cQ} (oa:lP aG.Locs 4 4 a d.Snaps) (ob:lP aA.Locs 35 4 b d.Chunks) (oc:lP aN.Locs 3 4 c d.Exps) (m:bT h (MF k d a b c v)) {n:Nat} {f:FR}:
 bT h (MG k d a.a b.a c.a v)∧iS (fm n f.k) (hp h (MG k d a.a b.a c.a v)) (fm n f.k) (hp h (MF k d a b c v)):=by
 obtain⟨k1,l1⟩:=CR (ty:=81) (n:=n) (f:=f) (h0:=h) (L':= [OC k d.Seq a.a b.a c.a v,bB a.a d.Snaps,aU b d.Chunks,bO c d.Exps,aM v d.Vols]++((aY b d.Chunks)++(bQ c d.Exps))) [[_], [_], [_], [_], [_],_,_,_] rfl 1 5 eO pQ oa.k rfl rfl (by decide) rfl m
 obtain⟨k2,l2⟩:=CR (ty:=81) (n:=n) (f:=f) (h0:=h) (L':= [OC k d.Seq a.a b.a c.a v,bB a.a d.Snaps,aT b.a d.Chunks,bO c d.Exps,aM v d.Vols]++(bQ c d.Exps)) [[_], [_], [_], [_], [_],_,_] rfl 2 5 eO nL ob.k rfl rfl (by decide) rfl k1
 obtain⟨k3,l3⟩:=CR (ty:=81) (n:=n) (f:=f) (h0:=h) (L':=MG k d a.a b.a c.a v) [[_], [_], [_], [_], [_],_] rfl 3 5 eO uB oc.k rfl rfl (by decide) rfl k2
 exact⟨k3,(l1.trans l2).trans l3⟩
theorem TB {w:Nat} {f:Nat} {d:aB} {x:aS} {s:aB×Int} (h:aE) {k:cB} {a b c:dE} {v:cQ} (oa:lP aG.Locs 4 4 a d.Snaps) (ob:lP aA.Locs 35 4 b d.Chunks) (oc:lP aN.Locs 3 4 c d.Exps) (ov:bG v 4 d.Vols.length) (u:bT h (MF k d a b c v)) (m:gK w f d x=some s):
 aL Tryz.prog f [.ptr k 0,.agg (aD x)] (hp h (MF k d a b c v)) (λr h'=>∃a' b' c' v':cQ,bG a' 4 s.1.Snaps.length∧bG b' 35 s.1.Chunks.length∧bG c' 3 s.1.Exps.length∧bG v' 4 s.1.Vols.length∧bT h (MG k s.1 a' b' c' v')∧r=nZ s.2∧h'=hp h (MG k s.1 a' b' c' v')):=by
 obtain⟨kp,lp⟩:=aDW oa ob oc u (n:= [AV.ptr k 0,AV.agg (aD x)].length) (f:=A4 0 [AV.ptr k 0,AV.agg (aD x)])
 unfold gK at m
 split at m
 rename_i e; subst e
 obtain⟨o,ho,m⟩:=aC m
 cases m
 refine uC lp (lE (W72 (p0:=d) h oa.k.a ob.k.a oc.k.a ov kp ho) ?_)
 rintro r h' ⟨a',oa',b',ob',hk',e1,e2⟩
 exact⟨a',b',c.a,v,oa',ob',oc.k.a,ov,hk',e1,e2⟩
 split at m
 rename_i e; subst e
 obtain⟨o,ho,m⟩:=aC m
 cases m
 refine uC lp (lE (W73 (p0:=d) h oa.k.a ob.k.a oc.k.a ov kp ho) ?_)
 rintro r h' ⟨a',oa',b',ob',hk',e1,e2⟩
 exact⟨a',b',c.a,v,oa',ob',oc.k.a,ov,hk',e1,e2⟩
 split at m
 rename_i e; subst e
 obtain⟨o,ho,m⟩:=aC m
 cases m
 refine lE (W74 (p0:=d) h oa ob oc ov u ho) ?_
 rintro r h' ⟨a',oa',b',ob',c',oc',v',ov',hk',e1,e2⟩
 exact⟨a',b',c',v',oa',ob',oc',ov',hk',e1,e2⟩
 split at m
 rename_i e; subst e
 obtain⟨o,ho,m⟩:=aC m
 cases m
 refine lE (W75 (p0:=d) h oa ob oc ov u ho) ?_
 rintro r h' ⟨a',oa',b',ob',c',oc',v',ov',hk',e1,e2⟩
 exact⟨a',b',c',v',oa',ob',oc',ov',hk',e1,e2⟩
 split at m
 rename_i e; subst e
 obtain⟨o,ho,m⟩:=aC m
 cases m
 refine uC lp (lE (W76 (p0:=d) h oa.k.a ob.k.a oc.k.a ov kp ho) ?_)
 rintro r h' ⟨v',ov',hk',e1,e2⟩
 exact⟨a.a,b.a,c.a,v',oa.k.a,ob.k.a,oc.k.a,ov',hk',e1,e2⟩
 cases m
theorem PO {f:Nat} {u:Nat} {d:aB} {x:aS} {s:aB×Int} (m:gK u f d x=some s):aO Tryz.prog f=true:=by
 unfold gK at m
 split at m
 rename_i e; subst e; exact aDT
 split at m
 rename_i e; subst e; exact aDD
 split at m
 rename_i e; subst e; exact aDL
 split at m
 rename_i e; subst e; exact aDQ
 split at m
 rename_i e; subst e; exact aDA
 cases m
theorem W29 {j:Nat} {p0:aB} {p1:aS} {o:aB×Int} (h:aE) (m:zU j p0 p1=some o):
 aL Tryz.prog 29 [.agg (aF p0),.agg (aD p1)] h (λr h'=>r= .tup [.agg (aF o.1),nZ o.2]∧h'=h):=by
 refine fY 44 [.cell 4 30,.tmp 5] Tryz.func29 rfl rfl rfl rfl ?_
 unfold zU at m
 repeat refine vs ?_
 refine v0 ?_
 refine gZ rfl rfl λk2 K3=> ?_
 refine gZ rfl rfl λk3 K3=> ?_
 refine ve λu=>bI (gQ) u oM rfl rfl λk4 K9=>qk K9 rfl ?_
 repeat refine vs ?_
 refine v0 ?_
 refine ve λu=>AR u λkm K3=>qk K3 rfl ?_
 refine ve λu=>xH (l:= []) 0 u wQ u3 rfl rfl rfl rfl rfl λK3=>qk K3 rfl ?_
 refine ve λu=>xH 0 u wQ u3 rfl rfl rfl rfl rfl λK3=>qk K3 rfl ?_
 refine ve λu=>xH 0 u wQ u3 rfl rfl rfl rfl rfl λK3=>qk K3 rfl ?_
 refine ve λu=>xH 0 u wQ u3 rfl rfl rfl rfl rfl λK3=>qk K3 rfl ?_
 refine ve λu=>xH 0 u wQ u3 rfl rfl rfl rfl rfl λK3=>qk K3 rfl ?_
 repeat refine vs ?_
 refine v0 (dM BC rfl rfl (vl 2 _ cE rfl rfl rfl ?_))
 have hz:(Tryz.prog.info? 117).bind (·.zero)=some (.nilFunc):=by kernel_rfl
 cases hf:jP.find? (λe=>e.1==p1.Kind) with
 | none=>
 rw[hf] at m
 refine vn (λu=>eZ (HN (l:=jP) wQ hz u3 rfl rfl (a8 0 u rfl)) (bE.of_eq (y:=.tup [.any,.sc (.bool false)]) (by rw[hf]))) ?_
 repeat refine vs ?_
 refine v0 (v0 ?_)
 repeat refine vs ?_
 refine v0 (bU (fF (gQ) A9 rfl) ?_)
 refine ve λu=>aJ 1 (gQ) u rfl rfl rfl rfl lA rfl rfl λK0=>qk K0 rfl ?_
 refine v0 ?_
 cases m
 exact vr λu=>dV.of2 (.inl rfl) (pU (.agg (gQ)) eV rfl (a8 1 u rfl) rfl) (fP _ _ (.sc (.int _ _)) rfl) (aR (List.nil_sublist _) u).1 (bE.agg (.cons (bE.refl _ _) (.cons (aV _) (.cons (aV _) (.cons (aV _) (.cons (aV _) .nil)))))) (bE.refl _ _) ⟨rfl,rfl⟩
 | some e=>
 rw[hf] at m
 refine vn (λu=>eZ (HN (l:=jP) wQ hz u3 rfl rfl (a8 0 u rfl)) (bE.of_eq (y:=.tup [.fn (.func e.2) [],.sc (.bool true)]) (by rw[hf]))) ?_
 repeat refine vs ?_
 refine v0 (vl 3 (.agg (aF p0)) eV rfl rfl rfl ?_)
 refine vk W31 V8 m rfl rfl λ_ m=> ?_
 refine v0 ?_
 apply vi m <;> intro hc m
 repeat refine vs ?_
 refine v0 (bU (fF (gQ) A9 rfl) ?_)
 refine ve λu=>aJ 1 (gQ) u rfl rfl rfl rfl lA rfl rfl λK0=>qk K0 rfl ?_
 refine v0 ?_
 cases m
 exact vr λu=>dV.of2 (.inl rfl) (pU (.agg (gQ)) eV rfl (a8 1 u rfl) rfl) (fP _ _ (.sc (.int _ _)) rfl) (aR (List.nil_sublist _) u).1 (bE.agg (.cons (bE.refl _ _) (.cons (aV _) (.cons (aV _) (.cons (aV _) (.cons (aV _) .nil)))))) (bE.refl _ _) ⟨rfl,rfl⟩
 refine v0 ?_
 repeat refine vs ?_
 refine v0 (vl 3 (.agg (aF p0)) eV rfl rfl rfl ?_)
 obtain⟨d,Y0,m⟩:=aC m
 refine ve λu=>cI (aDU _ Y0) rfl aDV rfl ?_
 rintro x h' ⟨gs,oks,gc,okc,ge,oke,gv,okv,K1,rfl,rfl⟩
 have w:=lO (L':= [bJ gs d.Snaps,aU gc d.Chunks,bO ge d.Exps,aM gv d.Vols,(some km,.mp (qK jP)),(some k4,.obj 30 (gQ)),(some k3,.obj 62 (aD p1)),(some k2,.obj 30 (aF p0))]++((bN gs d.Snaps)++((aY gc d.Chunks)++(bQ ge d.Exps)))) u K1 [[_], [_], [_], [_],_,_,_] [[_], [_], [_], [_]] rfl rfl [0,1,2,3,7,8,9,10,4,5,6] rfl rfl
 refine qk w.2 w.1 ?_
 refine ve λu=>bI (gQ) u oM rfl rfl λk9 K2=>qk K2 rfl ?_
 refine ve λu=>aJ 0 ([nZ d.Seq,aZ gs.a,aZ gc.a,aZ ge.a,aZ gv]) u rfl rfl rfl (by repeat (first | exact rfl | refine cC (bW _ _ _) ?_ | refine cC rfl ?_)) lA rfl rfl λK4=>qk K4 rfl ?_
 repeat refine vs ?_
 refine oU m (σ:=aB×Int) (τ:=cQ×cQ×cQ×cQ) (λg s=> [OC k9 s.1.Seq g.1 g.2.1 g.2.2.1 g.2.2.2,bB g.1 s.1.Snaps,aT g.2.1 s.1.Chunks,bV g.2.2.1 s.1.Exps,aM g.2.2.2 s.1.Vols,(some km,.mp (qK jP)),(some k4,.obj 30 (gQ)),(some k3,.obj 62 (aD p1)),(some k2,.obj 30 (aF p0))]) (λg s=>bG g.1 4 s.1.Snaps.length∧bG g.2.1 35 s.1.Chunks.length∧bG g.2.2.1 3 s.1.Exps.length∧bG g.2.2.2 4 s.1.Vols.length) (λg s=>.c 4 (.ptr k4 0) (.c 9 (.ptr k9 0) (.c 10 (nZ s.2) .nil))) (λx m=> ?_) ?_
 refine v0 (vl 7 (.agg (aD p1)) nF rfl rfl rfl ?_)
 obtain⟨s,hs,m⟩:=aC m
 refine ve λu=> ?_
 have pq:=lN (A:=MF k9 d gs gc ge gv) (R:= [(some km,.mp (qK jP)),(some k4,.obj 30 (gQ)),(some k3,.obj 62 (aD p1)),(some k2,.obj 30 (aF p0))]) u [[_], [_], [_], [_], [_], [_], [_], [_], [_],_,_,_] rfl [0,1,2,3,4,9,10,11] [5,6,7,8] rfl rfl rfl
 refine cY pq.1 (cI (TB _ oks okc oke okv pq.2.2 hs) rfl (PO hs) rfl ?_)
 rintro r h' ⟨a',b',c',v',oa,ob,oc,ov,hk',rfl,rfl⟩
 have hq2:=lO (L':= [OC k9 s.1.Seq a' b' c' v',bB a' s.1.Snaps,aT b' s.1.Chunks,bV c' s.1.Exps,aM v' s.1.Vols,(some km,.mp (qK jP)),(some k4,.obj 30 (gQ)),(some k3,.obj 62 (aD p1)),(some k2,.obj 30 (aF p0))]) pq.2.1 hk' [[_], [_], [_], [_], [_]] [[_], [_], [_], [_]] rfl rfl [0,1,2,3,4,5,6,7,8] rfl rfl
 refine qk hq2.2 hq2.1 ?_
 exact eR m (a',b',c',v') ⟨oa,ob,oc,ov⟩ (lx (.k3 .nil))
 rintro⟨a',b',c',v'⟩ ⟨dd,ee⟩ ⟨oa,ob,oc,ov⟩ m
 repeat refine vs ?_
 refine v0 ?_
 repeat refine vs ?_
 refine v0 (v0 ?_)
 apply vi m <;> intro hc m
 repeat refine vs ?_
 refine v0 (bU (fF (gQ) A9 rfl) ?_)
 refine ve λu=>aJ 6 (gQ) u rfl rfl rfl rfl lA rfl rfl λK0=>qk K0 rfl ?_
 refine v0 ?_
 cases m
 exact vr λu=>dV.of2 (.inl rfl) (pU (.agg (gQ)) eV rfl (a8 6 u rfl) rfl) (fP _ _ (.sc (.int _ _)) rfl) (aR (List.nil_sublist _) u).1 (bE.agg (.cons (bE.refl _ _) (.cons (aV _) (.cons (aV _) (.cons (aV _) (.cons (aV _) .nil)))))) (bE.refl _ _) ⟨rfl,rfl⟩
 repeat refine vs ?_
 refine v0 (vl 0 (.agg ([nZ dd.Seq,aZ a',aZ b',aZ c',aZ v'])) eV rfl rfl rfl ?_)
 obtain⟨_,Y1,m⟩:=aC m
 refine vn (λu=>bY (fC (.cons (Br.agg (.cons (Br.refl _ _) (.cons (Br.aw 1 eH oa u rfl) (.cons (Br.aw 2 cK ob u rfl) (.cons (Br.aw 3 fH oc u rfl) (.cons (Br.aw 4 dY ov u rfl) .nil)))))) .nil) rfl (W31 _ Y1)) rfl V8 rfl) (v0 ?_)
 apply vi m <;> intro c0 m
 repeat refine vs ?_
 refine v0 (bU (fF (gQ) A9 rfl) ?_)
 refine ve λu=>aJ 6 (gQ) u rfl rfl rfl rfl lA rfl rfl λK0=>qk K0 rfl ?_
 refine v0 ?_
 cases m
 exact vr λu=>dV.of2 (.inl rfl) (pU (.agg (gQ)) eV rfl (a8 6 u rfl) rfl) (fP _ _ (.sc (.int _ _)) rfl) (aR (List.nil_sublist _) u).1 (bE.agg (.cons (bE.refl _ _) (.cons (aV _) (.cons (aV _) (.cons (aV _) (.cons (aV _) .nil)))))) (bE.refl _ _) ⟨rfl,rfl⟩
 refine v0 ?_
 repeat refine vs ?_
 refine v0 (vl 0 (.agg ([nZ dd.Seq,aZ a',aZ b',aZ c',aZ v'])) eV rfl rfl rfl ?_)
 refine ve λu=>aJ 6 ([nZ dd.Seq,aZ a',aZ b',aZ c',aZ v']) u rfl rfl rfl (by repeat (first | exact rfl | refine cC (bW _ _ _) ?_ | refine cC rfl ?_)) lA rfl rfl λK5=>qk K5 rfl ?_
 refine v0 ?_
 cases m
 refine vrl λu=> ?_
 obtain⟨K6,le0⟩:=iS.fzO (n:=44) (f:=_) 1 5 ([nZ dd.Seq,.sl none 4 (List.map bR dd.Snaps),aZ b',aZ c',aZ v']) u rfl (.cons (Fz.refl _ _ _) (.cons (Fz.aw 1 eH oa u rfl (.refl _)) (.cons (Fz.refl _ _ _) (.cons (Fz.refl _ _ _) (.cons (Fz.refl _ _ _) .nil)))))
 obtain⟨K7,le1⟩:=iS.fzO (n:=44) (f:=_) 1 4 ([nZ dd.Seq,.sl none 4 (List.map bR dd.Snaps),.sl none 35 (List.map aH dd.Chunks),aZ c',aZ v']) K6 rfl (.cons (Fz.refl _ _ _) (.cons (Fz.refl _ _ _) (.cons (Fz.aw 1 cK ob K6 rfl (.refl _)) (.cons (Fz.refl _ _ _) (.cons (Fz.refl _ _ _) .nil)))))
 obtain⟨K8,le2⟩:=iS.fzO (n:=44) (f:=_) 1 3 ([nZ dd.Seq,.sl none 4 (List.map bR dd.Snaps),.sl none 35 (List.map aH dd.Chunks),.sl none 3 (List.map cL dd.Exps),aZ v']) K7 rfl (.cons (Fz.refl _ _ _) (.cons (Fz.refl _ _ _) (.cons (Fz.refl _ _ _) (.cons (Fz.aw 1 fH oc K7 rfl (.refl _)) (.cons (Fz.refl _ _ _) .nil)))))
 obtain⟨K82,le3⟩:=iS.fzO (n:=44) (f:=_) 1 2 ([nZ dd.Seq,.sl none 4 (List.map bR dd.Snaps),.sl none 35 (List.map aH dd.Chunks),.sl none 3 (List.map cL dd.Exps),.sl none 4 (List.map cZ dd.Vols)]) K8 rfl (.cons (Fz.refl _ _ _) (.cons (Fz.refl _ _ _) (.cons (Fz.refl _ _ _) (.cons (Fz.refl _ _ _) (.cons (Fz.aw 1 dY ov K8 rfl (.refl _)) .nil)))))
 exact NM.mk (iS.trans (iS.trans (iS.trans le0 le1) le2) le3) (dV.of2 (.inl rfl) (pU (.agg (aF dd)) eV rfl (a8 2 K82 rfl) rfl) (fP _ _ (.sc (.int _ _)) rfl) (aR (List.nil_sublist _) K82).1 (bE.refl _ _) (bE.refl _ _) ⟨rfl,rfl⟩)
theorem TC:aO Tryz.prog 29=true:=by kernel_rfl
open Go.Vm
theorem mN {α ρ:Type} {l:List α} (f:α→α) {F:Nat} {body:List α×Int→Option (Lp (List α×Int) ρ)} (hF:l.length < F)
    (hb:∀(cur:List α) (i:Nat) (x:α),cur.length=l.length→cur[i]? =some x→x∈l→i < l.length→body (cur,(i:Int))=some (.go (cur.set i (f x),((i+1:Nat):Int))))
    (he:∀cur:List α,cur.length=l.length→body (cur,(l.length:Int))=some (.brk (cur,(l.length:Int)))):
    aW body F (l,0)=some (.brk (l.map f,(l.length:Int))):=by
  have len:∀i,((l.take i).map f++l.drop i).length=l.length:=λi=>by simp; omega
  have:=rU (body:=body) (s0:=(l,(0:Int))) (n:=l.length) (F:=F) (λi:Nat=>((l.take i).map f++l.drop i,(i:Int))) hF (by simp) (λi hi=>by
    have hx:((l.take i).map f++l.drop i)[i]? =some l[i]:=by
      rw[List.getElem?_append_right (by simp; omega)]
      simp[Nat.min_eq_left (Nat.le_of_lt hi)]
    rw[hb _ i l[i] (len i) hx (List.getElem_mem hi) hi]
    congr 4
    rw[List.take_succ_eq_append_getElem hi,List.drop_eq_getElem_cons hi,List.set_append_right _ _ (by simp; omega),List.length_map,List.length_take,Nat.min_eq_left (Nat.le_of_lt hi),Nat.sub_self,List.set_cons_zero,List.map_append]
    simp only[List.map_cons,List.map_nil,List.append_assoc,List.cons_append,List.nil_append]) (he _ (len _))
  simpa using this
theorem zV {F:Nat} {m:bF} (hF:1000≤F) (hp:m.Parts.length≤10) (hi:∀p∈m.Parts,p.Ids.length≤40):I4 F m=some m:=by
 unfold I4 HH
 rw[dS (by simp; omega)]
 simp only[Option.bind_some,List.nil_append]
 rw[mN (l:=m.Parts) id (by omega) (λcur i x hc hx hm hi'=>by
  have:=hi x hm
  unfold sD PM
  rw[jA (by omega)]
  simp only[bS,hx,Option.bind_some,Int.ofNat_lt,hi',decide_true,if_true]
  rw[dS (by simp; omega)]
  rfl) (λcur hc=>by unfold sD; simp)]
 simp[aK]
theorem aDY {F:Nat} {c:aB} (hF:1000≤F) (h:Sm c):ME F c=some c:=by
 have hsn:=h.sn
 have hex:=h.ex
 have hvo:=h.vo
 have hch:=h.ch
 unfold ME HI HJ HK HM
 rw[dS (by simp; omega),dS (by simp; omega),dS (by simp; omega),dS (by simp; omega)]
 simp only[Option.bind_some,List.nil_append]
 rw[mN (l:=c.Snaps) id (by omega) (λcur i x hc hx hm hi=>by
  have h1:=h.sl x hm
  obtain⟨-,h2,h3⟩:=h.man x hm
  unfold sE DW
  rw[jA (by omega)]
  simp only[bS,hx,Option.bind_some,Int.ofNat_lt,hi,decide_true,if_true,zV hF h2 (λp hp=>(h3 p hp).2)]
  rw[dS (by simp; omega)]
  simp[List.set_set]) (λcur hc=>by unfold sE; simp)]
 simp only[aK]
 rw[mN (l:=c.Chunks) id (by omega) (λcur i x hc hx hm hi=>by
  have h1:=h.cl x hm
  unfold sF DW QF
  have e1:app [] x.Data=some x.Data:=by rw[dS (by simp; omega)]; rfl
  rw[jA (by omega)]
  simp only[bS,hx,Option.bind_some,Int.ofNat_lt,hi,decide_true,if_true,e1]
  rw[dS (by simp; omega)]
  simp[List.set_set]) (λcur hc=>by unfold sF; simp)]
 simp only[aK]
 rw[mN (l:=c.Exps) id (by omega) (λcur i x hc hx hm hi=>by
  have h1:=h.el x hm
  unfold sG DW
  rw[jA (by omega)]
  simp only[bS,hx,Option.bind_some,Int.ofNat_lt,hi,decide_true,if_true]
  rw[dS (by simp; omega)]
  simp) (λcur hc=>by unfold sG; simp)]
 simp[aK]
theorem aDZ {F:Nat} {l:List aA} {f:aA→Option Bool} (q:aA→Bool) (hF:1000≤F) (hl:l.length≤400) (hf:∀x∈l,f x=some (q x)):D6 F l f=some (l.filter λx=> !q x):=by
 have h119:L8 F l f=some (pA l q):=by
  unfold L8
  refine iH q (by omega) (λi x hx hm hi=> ?_) (by unfold sC; simp)
  unfold sC
  rw[jA (by omega)]
  simp only[bS,hx,hf x hm,Option.bind_some,Int.ofNat_lt,hi,decide_true,if_true]
  split <;> rfl
 unfold D6
 rw[h119]
 simp only[Option.bind_some]
 cases ha:l.any q with
 | false=>
  rw[jG ha]
  simp only[beq_self_eq_true,if_true]
  rw[List.filter_eq_self.2 λx hx=>by simpa using List.any_eq_false.1 ha x hx]
 | true=>
  obtain⟨i,x,h1,h2,h3,h4⟩:=jF ha
  rw[h1]
  have hn:((i:Int)== -1)=false:=by simp
  have hil:=(List.getElem?_eq_some_iff.1 h2).1
  rw[hn,jA (by omega)]
  simp only[Bool.false_eq_true,if_false]
  obtain⟨cur,w,e1,e2,e3,e4⟩:=rV (l:=l) (q:=q) (F:=F) (body:=λs=>nN F f s.1 s.2.1 s.2.2) (by omega) h2 h3 h4 (λcur w r x hc hw hr hx hm=>by
   unfold nN
   simp only
   rw[jA (i:=r) (by omega),jA (i:=w) (by omega)]
   have hcw:cur[w]? =some cur[w]:=List.getElem?_eq_getElem (by omega)
   simp only[bS,hx,hf x hm,Option.bind_some,hc,Int.ofNat_lt,hr,decide_true,if_true,hcw,Int.toNat_natCast]
   cases q x <;> rfl) (λcur w hc=>by unfold nN; simp[hc])
  rw[e1]
  simp only[aK]
  have g1:(decide ((0:Int)≤(w:Int)) && decide ((w:Int) < (cur.length:Int)))=true:=by simp; omega
  have g2:(decide ((0:Int)≤(w:Int)) && decide ((w:Int)≤(cur.length:Int)))=true:=by simp; omega
  simp only[grd,g1,g2,if_true,Int.toNat_natCast,e4]
theorem aD0 {F:Nat} {l:List aN} {f:aN→Option Bool} (q:aN→Bool) (hF:1000≤F) (hl:l.length≤400) (hf:∀x∈l,f x=some (q x)):D7 F l f=some (l.filter λx=> !q x):=by
 have h119:D5 F l f=some (pA l q):=by
  unfold D5
  refine iH q (by omega) (λi x hx hm hi=> ?_) (by unfold pG; simp)
  unfold pG
  rw[jA (by omega)]
  simp only[bS,hx,hf x hm,Option.bind_some,Int.ofNat_lt,hi,decide_true,if_true]
  split <;> rfl
 unfold D7
 rw[h119]
 simp only[Option.bind_some]
 cases ha:l.any q with
 | false=>
  rw[jG ha]
  simp only[beq_self_eq_true,if_true]
  rw[List.filter_eq_self.2 λx hx=>by simpa using List.any_eq_false.1 ha x hx]
 | true=>
  obtain⟨i,x,h1,h2,h3,h4⟩:=jF ha
  rw[h1]
  have hn:((i:Int)== -1)=false:=by simp
  have hil:=(List.getElem?_eq_some_iff.1 h2).1
  rw[hn,jA (by omega)]
  simp only[Bool.false_eq_true,if_false]
  obtain⟨cur,w,e1,e2,e3,e4⟩:=rV (l:=l) (q:=q) (F:=F) (body:=λs=>nO F f s.1 s.2.1 s.2.2) (by omega) h2 h3 h4 (λcur w r x hc hw hr hx hm=>by
   unfold nO
   simp only
   rw[jA (i:=r) (by omega),jA (i:=w) (by omega)]
   have hcw:cur[w]? =some cur[w]:=List.getElem?_eq_getElem (by omega)
   simp only[bS,hx,hf x hm,Option.bind_some,hc,Int.ofNat_lt,hr,decide_true,if_true,hcw,Int.toNat_natCast]
   cases q x <;> rfl) (λcur w hc=>by unfold nO; simp[hc])
  rw[e1]
  simp only[aK]
  have g1:(decide ((0:Int)≤(w:Int)) && decide ((w:Int) < (cur.length:Int)))=true:=by simp; omega
  have g2:(decide ((0:Int)≤(w:Int)) && decide ((w:Int)≤(cur.length:Int)))=true:=by simp; omega
  simp only[grd,g1,g2,if_true,Int.toNat_natCast,e4]
def lf (v:Int) (l:List bK):List bK:=l.filter λy=> !(y.Vol==v)
def YP (v:Int) (s:aG):aG:= { s with Locs:=lf v s.Locs}
def YQ (v:Int) (s:aA):aA:= { s with Locs:=lf v s.Locs}
def YR (v:Int) (s:aN):aN:= { s with Locs:=lf v s.Locs}
def MH (y:aA):Bool:= !y.Staged && ((y.Locs.length:Int)==0)
def ret (c:aB) (v:Int) (x:aP):aB:=
 { Seq:=c.Seq,Snaps:=c.Snaps.map (YP v),Chunks:=(c.Chunks.map (YQ v)).filter λy=> !MH y,Exps:=(c.Exps.map (YR v)).filter λy=> !((y.Locs.length:Int)==0),Vols:=c.Vols.set v.toNat { x with State:=3,Files:=0}}
theorem TD {F:Nat} {l:List bK} {d:aS} (hF:1000≤F) (hl:l.length≤300):xD F l d=some (lf d.Vol l):=by
 unfold xD
 rw[m83 (f:=λx0=>PJ F x0 d) (λx=>x.Vol==d.Vol) hF hl (λx _=>rfl)]
 rfl
theorem n75 {F:Nat} {c:aB} {d:aS} {x:aP} (hF:1000≤F) (h:Sm c) (h0:0≤d.Vol) (hx:c.Vols[d.Vol.toNat]? =some x):
    UB F c d=some (if x.State=2 then (0,(ret c d.Vol x).Snaps,(ret c d.Vol x).Chunks,(ret c d.Vol x).Exps,(ret c d.Vol x).Vols) else (1,c.Snaps,c.Chunks,c.Exps,c.Vols)):=by
  have hsn:=h.sn
  have hex:=h.ex
  have hvo:=h.vo
  have hch:=h.ch
  have hlt:=(List.getElem?_eq_some_iff.1 hx).1
  have hx2:(c.Vols.set d.Vol.toNat { x with State:=3})[d.Vol.toNat]? =some { x with State:=3}:=by
    rw[List.getElem?_set_self hlt]
  unfold UB
  rw[show decide (d.Vol < 0)=false from decide_eq_false (by omega),show decide ((c.Vols.length:Int)≤d.Vol)=false from decide_eq_false (by omega)]
  simp only[Bool.false_eq_true,if_false,qF _ h0,hx,hx2,Option.bind_some,aK]
  by_cases e:x.State=2
  · rw[if_neg (by simp[e]),if_pos e]
    rw[mN (l:=c.Snaps) (YP d.Vol) (by omega) (λcur i x hc hx hm hi=>by
      unfold xE
      rw[jA (by omega)]
      simp only[bS,hx,Option.bind_some,Int.ofNat_lt,hi,decide_true,if_true,TD hF (h.sl x hm)]
      rfl) (λcur hc=>by unfold xE; simp)]
    simp only[aK]
    rw[mN (l:=c.Chunks) (YQ d.Vol) (by omega) (λcur i x hc hx hm hi=>by
      unfold xF
      rw[jA (by omega)]
      simp only[bS,hx,Option.bind_some,Int.ofNat_lt,hi,decide_true,if_true,TD hF (h.cl x hm).1]
      rfl) (λcur hc=>by unfold xF; simp)]
    simp only[aK]
    rw[mN (l:=c.Exps) (YR d.Vol) (by omega) (λcur i x hc hx hm hi=>by
      unfold xG
      rw[jA (by omega)]
      simp only[bS,hx,Option.bind_some,Int.ofNat_lt,hi,decide_true,if_true,TD hF (h.el x hm)]
      rfl) (λcur hc=>by unfold xG; simp)]
    simp only[aK]
    rw[aDZ (f:=λx0=>MB F x0) MH hF (by simpa using hch) (λy _=>by
      unfold MB MH
      cases y.Staged <;> rfl),aD0 (f:=λx0=>PK F x0) (λy=>(y.Locs.length:Int)==0) hF (by rw[List.length_map]; omega) (λy _=>rfl)]
    simp only[Option.bind_some,List.set_set]
    rfl
  · rw[if_pos (by simpa using e),if_neg e]
def rel (c:aB) (v:Int) (x:aP):aB:= { c with Vols:=c.Vols.set v.toNat { x with State:=1,Epoch:=x.Epoch+1}}
theorem n76 {F:Nat} {c:aB} {d:aS} {x:aP} (h0:0≤d.Vol) (hx:c.Vols[d.Vol.toNat]? =some x) (he:0≤x.Epoch∧x.Epoch≤1048576):
    T8 F c d=some (if x.State=3 then (0,(rel c d.Vol x).Vols) else (1,c.Vols)):=by
  have hlt:=(List.getElem?_eq_some_iff.1 hx).1
  have hx2:(c.Vols.set d.Vol.toNat { x with State:=1})[d.Vol.toNat]? =some { x with State:=1}:=by
    rw[List.getElem?_set_self hlt]
  unfold T8
  rw[show decide (d.Vol < 0)=false from decide_eq_false (by omega),show decide ((c.Vols.length:Int)≤d.Vol)=false from decide_eq_false (by omega)]
  simp only[Bool.false_eq_true,if_false,qF _ h0,hx,hx2,Option.bind_some,aK]
  by_cases e:x.State=3
  · rw[if_neg (by simp[e]),if_pos e,wr (by omega) (by omega)]
    simp only[List.set_set]
    rfl
  · rw[if_pos (by simpa using e),if_neg e]
theorem YS {F:Nat} {c:aB} {d:aS} {k:Nat} {e:aB} {n:Int} (hF:1000≤F) (h:Sm c) (hg:iP c=true) (hk:jP.find? (λe=>e.1==d.Kind)=some (d.Kind,k)) (hd:gK F k c d=some (e,n)) (hs:n=0→Sm e):
    zU F c d=some (if n=0 then (if iP e=true then (e,0) else (dA,1)) else (dA,n)):=by
  unfold zU
  rw[hk]
  simp only[m33 hF h,hg,if_true,Option.bind_some,aDY hF h,hd,aK]
  by_cases e0:n=0
  · rw[if_neg (by decide),if_neg (by simp[e0]),m33 hF (hs e0),if_pos e0]
    simp only[Option.bind_some]
    cases iP e <;> rfl
  · rw[if_neg (by decide),if_pos (by simpa using e0),if_neg e0]
open Go.Vm
theorem BQ {l:List aA}:vD l↔(∀x∈l,mK x.Id)∧l.Pairwise λy x=>ky y.Id < ky x.Id:=by
 unfold vD
 refine and_congr_right λ_=> ?_
 rw[List.pairwise_iff_getElem]
 constructor
 ·intro h i j hi hj hij
  exact h i j _ _ (List.getElem?_eq_getElem hi) (List.getElem?_eq_getElem hj) hij
 ·intro h i j x y hx hy hij
  obtain⟨hi,rfl⟩:=List.getElem?_eq_some_iff.1 hx
  obtain⟨hj,rfl⟩:=List.getElem?_eq_some_iff.1 hy
  exact h i j hi hj hij
structure At (l:List aA) (d:bP) (p:Nat):Prop where
 le:p≤l.length
 lo:∀x∈l.take p,ky x.Id < ky d
 hi:∀x∈l.drop p,ky d≤ky x.Id
theorem TE {F:Nat} {l:List aA} {d:bP} (hF:1000≤F) (hr:vD l) (hd:mK d) (hl:l.length < 1000):∃p:Nat,At l d p∧uW F l d=some ((p:Int),kG l d):=by
 obtain⟨p',e'⟩:=WZ hF hr hd hl
 obtain⟨p,hp,e,h1,h2⟩:=bis (F:=F) hr hd hl F 0 l.length (by omega) (Nat.le_refl _) (by omega) (λj x _ hj=>by omega) (λj x hx hj=>by have:=(List.getElem?_eq_some_iff.1 hx).1; omega)
 have e2:∃b,uW F l d=some ((p:Int),b):=by
  unfold uW KX
  rw[show ((0:Int),(l.length:Int))=(((0:Nat):Int),(l.length:Int)) from rfl,e]
  simp only[aK]
  by_cases hlt:p < l.length
  ·have hx:l[p]? =some l[p]:=List.getElem?_eq_getElem hlt
   have hmem:=List.getElem_mem hlt
   generalize l[p]=x at hx hmem
   have gx:=hr.1 x hmem
   have e:yE F x d=some (if ky x.Id < ky d then -1 else if ky d < ky x.Id then 1 else 0):=by unfold yE; rw[LD F gx hd]; rfl
   simp only[Int.ofNat_lt,hlt,decide_true,if_true,bS,hx,Option.bind_some,e,aK]
   exact⟨_,rfl⟩
  ·have hn:¬((p:Int) < (l.length:Int)):=by omega
   simp only[hn,decide_false,Bool.false_eq_true,if_false,aK,Option.bind_some]
   exact⟨_,rfl⟩
 obtain⟨b,hb⟩:=e2
 refine⟨p,⟨hp,λx hx=> ?_,λx hx=> ?_⟩, ?_⟩
 ·obtain⟨i,hi,rfl⟩:=List.getElem_of_mem hx
  simp only[List.length_take] at hi
  rw[List.getElem_take]
  exact h1 i _ (List.getElem?_eq_getElem (by omega)) (by omega)
 ·obtain⟨i,hi,rfl⟩:=List.getElem_of_mem hx
  simp only[List.length_drop] at hi
  rw[List.getElem_drop]
  exact h2 (p+i) _ (List.getElem?_eq_getElem (by omega)) (by omega)
 ·rw[hb] at e' ⊢
  have:=Option.some.inj e'
  rw[(Prod.mk.inj this).2]
theorem BR {α:Type} {l:List α} {p:Nat} {x:α} (h:p≤l.length) (hl:l.length < 1000):oQ l (p:Int) x=some (l.take p++x::l.drop p):=by
 unfold oQ
 rw[if_pos ⟨by omega,by omega,by omega⟩]
 simp
theorem GD {l:List aA} {p:Nat} {d:bP} (hr:vD l) (ha:At l d p) (hd:mK d) (h:kG l d=true):∃x,l[p]? =some x∧x.Id=d:=by
 obtain⟨y,hy,e⟩:=List.any_eq_true.1 h
 have e:=of_decide_eq_true e
 have hy2:y∈l.take p++l.drop p:=by rw[List.take_append_drop]; exact hy
 rcases List.mem_append.1 hy2 with h1 | h1
 ·have:=ha.lo y h1
  rw[e] at this; omega
 ·obtain⟨i,hi,e2⟩:=List.getElem_of_mem h1
  simp only[List.length_drop] at hi
  rw[List.getElem_drop] at e2
  have hp:l[p]? =some l[p]:=List.getElem?_eq_getElem (by omega)
  cases i with
  | zero=>exact⟨_,hp,by rw[← e,← e2]; rfl⟩
  | succ i=>
   have h3:=hr.2 p (p+(i+1)) _ _ hp (List.getElem?_eq_getElem (by omega)) (by omega)
   have h4:=ha.hi l[p] (by
    rw[List.drop_eq_getElem_cons (by omega)]
    exact List.mem_cons_self)
   rw[e2,e] at h3
   omega
open Go.Vm
theorem zW {ρ:Type} {body:Int→Option (Lp Int ρ)} {c:Nat→Bool}:∀(G q:Nat),q < G→(∀k:Nat,k≤q→body (k:Int)=some (if decide (0 < k) && c (k - 1) then .go ((k - 1:Nat):Int) else .brk (k:Int)))→
    ∃p:Nat,p≤q∧aW body G (q:Int)=some (.brk (p:Int))∧(∀j,p≤j→j < q→c j=true)∧(0 < p→c (p - 1)=false)
  | 0,_,h,_=>by omega
  | G+1,q,h,hb=>by
    unfold aW
    rw[hb q (Nat.le_refl _)]
    cases e:decide (0 < q) && c (q - 1) with
    | false=>
      refine⟨q,Nat.le_refl _,by simp,λj h1 h2=>by omega,λh0=> ?_⟩
      simpa [h0] using e
    | true=>
      simp only[Bool.and_eq_true,decide_eq_true_eq] at e
      obtain⟨p,h1,h2,h3,h4⟩:=zW (body:=body) (c:=c) G (q - 1) (by omega) λk hk=>hb k (by omega)
      refine⟨p,by omega,by simpa using h2,λj hj1 hj2=> ?_,h4⟩
      by_cases ej:j=q - 1
      · rw[ej]; exact e.2
      · exact h3 j hj1 (by omega)
structure Pt (l:List bK) (x:bK) (p:Nat):Prop where
 le:p≤l.length
 hi:∀y∈l.drop p,nG y x=true
 lo:∀y,0 < p→l[p - 1]? =some y→nG y x=false
theorem aD1 {F:Nat} {l:List bK} {x:bK} (hF:1000≤F) (hl:l.length≤400):∃p,Pt l x p∧uI F l x=some (l.take p++x::l.drop p):=by
 obtain⟨p,h1,h2,h3,h4⟩:=zW (body:=λs=>pF F l x s) (c:=λj=>match l[j]? with | none=>false | some y=>nG y x) F l.length (by omega) (λk hk=>by
  unfold pF
  by_cases h0:0 < k
  ·have hy:l[k - 1]? =some l[k - 1]:=List.getElem?_eq_getElem (by omega)
   generalize l[k - 1]=y at hy
   rw[wV (by omega) h0]
   have hk0:(0:Int) < (k:Int):=by omega
   simp only[bS,hy,hk0,h0,decide_true,Bool.true_and,if_true,Option.bind_some]
   have e:nG y x=(if decide (x.Vol < y.Vol)=true then true else if (y.Vol==x.Vol)=true then (if decide (x.File < y.File)=true then true else if (y.File==x.File)=true then decide (x.Off < y.Off) else false) else false):=by
    rw[Bool.eq_iff_iff,HD]
    by_cases a:x.Vol < y.Vol <;> by_cases b:y.Vol=x.Vol <;> by_cases c:x.File < y.File <;> by_cases d:y.File=x.File <;> simp[a,b,c,d] <;> omega
   rw[e]
   by_cases a:x.Vol < y.Vol <;> by_cases b:y.Vol=x.Vol <;> by_cases c:x.File < y.File <;> by_cases d:y.File=x.File <;> (simp[a,b,c,d,aK] <;> (split <;> rfl))
  ·obtain rfl:k=0:=by omega
   simp[aK])
 refine⟨p,⟨h1,λy hy=> ?_,λy h0 hy=> ?_⟩, ?_⟩
 ·obtain⟨i,hi,rfl⟩:=List.getElem_of_mem hy
  simp only[List.length_drop] at hi
  have:=h3 (p+i) (by omega) (by omega)
  rw[List.getElem?_eq_getElem (show p+i < l.length by omega)] at this
  rw[List.getElem_drop]
  exact this
 ·have:=h4 h0
  simp only[hy] at this
  exact this
 ·unfold uI
  rw[h2]
  simp only[aK]
  rw[BR h1 (by omega)]
  rfl
open Go.Vm
def NR (c:aB) (y:aA):aA:=if rP c y.Id then y else { y with Staged:=false,Data:= []}
def MI (y:aA):Bool:=y.Staged || decide (0 < (y.Locs.length:Int))
def I6 (c:aB):List aA:=(c.Chunks.filter λy=>MI (NR c y)).map (NR c)
theorem YT {F:Nat} {c:aB} (hF:1000≤F) (h:Sm c):GB F c=some (I6 c):=by
 have hch:=h.ch
 unfold GB
 rw[IW (l:=c.Chunks) [] (λy=>MI (NR c y)) (NR c) (by omega) (λi x hx hm hi acc ha=>by
  unfold sA
  simp only
  rw[jA (by omega)]
  simp only[List.length_nil] at ha
  have ea:∀z:aA,app acc [z]=some (acc++ [z]):=λz=>dS (by simp; omega)
  simp only[bS,hx,Option.bind_some,Int.ofNat_lt,hi,decide_true,if_true,m44 hF (c:= { Seq:=c.Seq,Snaps:=c.Snaps,Chunks:=c.Chunks,Exps:=c.Exps,Vols:=c.Vols}) h]
  unfold NR MI
  show _=_
  rw[show rP { Seq:=c.Seq,Snaps:=c.Snaps,Chunks:=c.Chunks,Exps:=c.Exps,Vols:=c.Vols} x.Id=rP c x.Id from rfl]
  generalize rP c x.Id=ub
  obtain⟨id,st,da,lo⟩:=x
  simp only
  cases ub
  ·simp only[Bool.not_false,Bool.false_eq_true,if_true,if_false,aK,Bool.false_or]
   generalize decide (0 < (lo.length:Int))=dl
   cases dl <;> simp[aK,ea]
  ·simp only[Bool.not_true,Bool.false_eq_true,if_true,if_false,aK]
   generalize decide (0 < (lo.length:Int))=dl
   cases dl <;> cases st <;> simp[aK,ea]) (λacc=>by unfold sA; simp)]
 simp[aK,I6]
theorem PP {α:Type} {l:List α} {q:α→Bool} {i:Nat} {x:α} (hx:l[i]? =some x) (hq:q x=true) (h1:∀y∈l.take i,q y=false) (h2:∀y∈l.drop (i+1),q y=false):l.take i++l.drop (i+1)=l.filter λy=> !q y:=by
 obtain⟨hi,rfl⟩:=List.getElem?_eq_some_iff.1 hx
 have e:l.filter (λy=> !q y)=(l.take i++l[i]::l.drop (i+1)).filter λy=> !q y:=by
  rw[← List.drop_eq_getElem_cons hi,List.take_append_drop]
 rw[e,List.filter_append,List.filter_cons_of_neg (by simp[hq])]
 rw[List.filter_eq_self.2 λy hy=>by simp[h1 y hy],List.filter_eq_self.2 λy hy=>by simp[h2 y hy]]
def QX (c:aB) (n:Int):aB:= { c with Snaps:=c.Snaps.filter λs=> !(s.Seq==n)}
def TF (c:aB) (n:Int):aB:= { QX c n with Chunks:=I6 (QX c n)}
theorem sH {c:aB} (h:Sm c) (q:aG→Bool):Sm { c with Snaps:=c.Snaps.filter q}:=
 { h with
  g:=⟨h.g.1,λs hs=>h.g.2.1 s (List.mem_filter.1 hs).1,h.g.2.2⟩
  sn:=Nat.le_trans (List.length_filter_le _ _) h.sn
  sl:=λs hs=>h.sl s (List.mem_filter.1 hs).1
  man:=λs hs=>h.man s (List.mem_filter.1 hs).1}
theorem n73 {F:Nat} {c:aB} {d:aS} (hF:1000≤F) (h:Sm c) (hg:Gd c):T9 F c d=some (if c.Snaps.any (λs=>s.Seq==d.Seq) then (0,(TF c d.Seq).Snaps,(TF c d.Seq).Chunks) else (8,c.Snaps,c.Chunks)):=by
 have hsn:=h.sn
 have hi:uH F c.Snaps (λx0=>L4 F x0 d)=some (pA c.Snaps λs=>s.Seq==d.Seq):=by
  unfold uH
  refine iH (l:=c.Snaps) (λs:aG=>s.Seq==d.Seq) (by omega) (λi x hx hm hi=> ?_) (by unfold mM; simp)
  unfold mM L4
  rw[jA (by omega)]
  simp only[bS,hx,Option.bind_some,Int.ofNat_lt,hi,decide_true,if_true]
  split <;> rfl
 unfold T9
 rw[hi]
 simp only[Option.bind_some]
 cases ha:c.Snaps.any (λs=>s.Seq==d.Seq) with
 | false=>
  rw[jG ha]
  rfl
 | true=>
  obtain⟨i,x,h1,h2,h3,h4⟩:=jF ha
  have hil:=(List.getElem?_eq_some_iff.1 h2).1
  rw[h1,jA (by omega)]
  rw[if_neg (by simp)]
  have ed:I0 c.Snaps (i:Int) ((i+1:Nat):Int)=some (c.Snaps.filter λs=> !(s.Seq==d.Seq)):=by
   unfold I0
   rw[if_pos ⟨by omega,by omega,by omega⟩]
   simp only[Int.toNat_natCast]
   rw[PP h2 h3 h4 λy hy=>by
    obtain⟨j,hj,rfl⟩:=List.getElem_of_mem hy
    simp only[List.length_drop] at hj
    rw[List.getElem_drop]
    have:=List.pairwise_iff_getElem.1 hg.so i (i+1+j) hil (by omega) (by omega)
    obtain⟨_,e⟩:=List.getElem?_eq_some_iff.1 h2
    rw[e] at this
    have h3:x.Seq=d.Seq:=by simpa using h3
    simp only[beq_eq_false_iff_ne,ne_eq]
    omega]
  rw[ed]
  simp only[Option.bind_some]
  rw[YT hF (sH h _)]
  rfl
end Go.Proofs.YtbbifdfldpfphaaGreat
