import Derived.Test.YtbbifdfldpfphaaGreatK5P5
import Derived.Test.YtbbifdfldpfphaaGreatK5P3
import Derived.Test.YtbbifdfldpfphaaGreatK5P4
set_option linter.unusedSimpArgs false
set_option linter.unusedVariables false
set_option maxHeartbeats 4000000
set_option maxRecDepth 100000
namespace Go.Proofs.YtbbifdfldpfphaaGreat
open Go.Vm
def p9 (m:Nat) (p0:List aH) (p1:aH→Option Bool) (q0:Int):Option (Lp (Int) (Int)):=
 if (decide (q0 < (p0.length:Int)))=true then ((ix p0 q0).bind λx0=>(p1 x0).bind λy0=>if y0=true then (some (.ret q0)) else some (.go (IntKind.wrap .i64 (q0+1)))) else some (.brk q0)
def BD (m:Nat) (p0:List aH) (p1:aH→Option Bool):Option (Int):=
 after (aU (λs=>p9 m p0 p1 s) m 0) λr0=>some (-1)
theorem R7 {w:Nat} {p0:List aH} {p1:aH→Option Bool} {o:Int} (h:aE) {g_p0:cT} (ok_p0:bI g_p0 4 p0.length) (K0:bT h [(dO g_p0 p0)]) {p1F:Nat} {p1C:List AV} (p1B:aO Tryz.prog p1F=true) (p1H:∀x0 o h0,iD h h0→p1 x0=some o→aL Tryz.prog p1F ([.agg (bS x0)]++p1C) h0 (λr h'=>r= .sc (.bool o)∧h'=h0)) (m:BD w p0 p1=some o):
 aL Tryz.prog 103 [aZ g_p0,.fn (.func p1F) p1C] (hp h [(dO g_p0 p0)]) (λr h'=>r=nZ o∧h'=hp h [(dO g_p0 p0)]):=by
 refine uE K0 19 [.tmp 4] Tryz.func103 rfl rfl rfl rfl ?_
 unfold BD at m
 refine vs (v0 (vs (vs (v0 (bU (dQ jZ ok_p0 rfl) ?_)))))
 refine jY m (σ:=Int) (λs=> [(dO g_p0 p0)]) (λs=>.c 0 (aZ g_p0) (.c 1 (.fn (.func p1F) p1C) (.c 7 (nZ (p0.length:Int)) (.c 8 (nZ s) .nil)))) (lx (.k4 .nil)) ?_ ?_
 rintro _ q0 x m
 replace m:p9 w p0 p1 q0=some x:=m
 unfold p9 at m
 refine vs (v0 (vs (v0 ?_)))
 apply vi m <;> intro c0 m
 refine v0 (vs (v0 (vs (v0 (vs (v0 ?_))))))
 obtain⟨x1,X0,m⟩:=aC m
 refine bU (cM X0 iU ok_p0 rfl rfl) (vn (λu=>dX (fo:=0) (.agg (bS x1)) X0 eI ok_p0 uY rfl (aJ 0 u rfl) (λ_=>rfl)) ?_)
 obtain⟨_,Y0,m⟩:=aC m
 refine vn (λu=>bY (p1H _ _ _ (aT (List.nil_sublist _) u).1 Y0) rfl p1B rfl) (v0 ?_)
 apply vi m <;> intro c1 m
 refine vs (v0 (v0 ?_))
 refine gM m λm=> ?_
 obtain rfl:=eT m
 exact vr λu=>dW.of1 (.inl rfl) (fT _ _ (.sc (.int _ _)) rfl) (bE u [0] rfl).2 (bF.refl _ _) ⟨rfl,rfl⟩
 refine v0 (v0 ?_)
 exact iE m
 refine v0 ?_
 exact wW m
 rintro _ r0 m
 refine vs (v0 (v0 ?_))
 cases m
 exact vr λu=>dW.of1 (.inl rfl) (fT _ _ (.sc (.int _ _)) rfl) (bE u [0] rfl).2 (bF.refl _ _) ⟨rfl,rfl⟩
def M76 (m:Nat) (p0:aA) (p1:aR):Option (Int×(List aP)):=
 after (if (decide (p1.Vol < 0))=true then (some (.brk true)) else if (decide ((p0.Vols.length:Int)≤p1.Vol))=true then (some (.brk true)) else (ix p0.Vols p1.Vol).bind λx0=>some (.brk (x0.State !=3)):Option (Lp (Bool) (Int×(List aP)))) λj0=>if j0=true then (some (1,p0.Vols)) else (ix p0.Vols p1.Vol).bind λx1=>(ix (p0.Vols.set p1.Vol.toNat ({ x1 with State:=1})) p1.Vol).bind λx2=>(ix (p0.Vols.set p1.Vol.toNat ({ x1 with State:=1})) p1.Vol).bind λx3=>some (0,(p0.Vols.set p1.Vol.toNat ({ x1 with State:=1})).set p1.Vol.toNat ({ x3 with Epoch:=IntKind.wrap .i64 (x2.Epoch+1)}))
theorem W76 {w:Nat} {p0:aA} {p1:aR} {o:Int×(List aP)} (h:aE) {p0K:cB} {gS:cT} (ok_Snaps:bI gS 4 p0.Snaps.length) {gC:cT} (oC:bI gC 35 p0.Chunks.length) {gE:cT} (oE:bI gE 3 p0.Exps.length) {gV:cT} (oV:bI gV 4 p0.Vols.length) (K0:bT h [OC p0K p0.Seq gS gC gE gV,bD gS p0.Snaps,aV gC p0.Chunks,bV gE p0.Exps,aM gV p0.Vols]) (m:M76 w p0 p1=some o):
 aL Tryz.prog 76 [.ptr p0K 0,.agg (aD p1)] (hp h [OC p0K p0.Seq gS gC gE gV,bD gS p0.Snaps,aV gC p0.Chunks,bV gE p0.Exps,aM gV p0.Vols]) (λr h'=>∃g_Vols':cT,bI g_Vols' 4 (o.2:List aP).length∧bT h [OC p0K p0.Seq gS gC gE g_Vols',bD gS p0.Snaps,aV gC p0.Chunks,bV gE p0.Exps,aM g_Vols' o.2]∧r=nZ o.1∧h'=hp h [OC p0K p0.Seq gS gC gE g_Vols',bD gS p0.Snaps,aV gC p0.Chunks,bV gE p0.Exps,aM g_Vols' o.2]):=by
 refine uE K0 50 [.tmp 4] Tryz.func76 rfl rfl rfl rfl ?_
 unfold M76 at m
 refine vs (v0 ?_)
 refine gY rfl rfl λk2 K3=> ?_
 refine vs (vs ?_)
 refine fN m (σ:=Bool) (λs=> [(some k2,.obj 62 (aD p1)),OC p0K p0.Seq gS gC gE gV,bD gS p0.Snaps,aV gC p0.Chunks,bV gE p0.Exps,aM gV p0.Vols]) (λs=>.c 0 (.ptr p0K 0) (.c 3 (.ptr k2 0) (.c 29 (.sc (.bool s)) .nil))) (λx m=> ?_) ?_
 refine v0 (wY (by kernel_rfl) (dN fI rfl rfl (vl 0 _ cF rfl rfl rfl ?_)))
 apply vi m <;> intro b0 m
 rw[b0]
 exact gU m
 rw[b0]
 refine dN fI rfl rfl (vl 0 _ cF rfl rfl rfl (jM rfl (dN fQ rfl rfl (vl 1 (aZ gV) gH rfl rfl rfl (bU (dQ sK oV rfl) ?_)))))
 apply vi m <;> intro b1 m
 rw[b1]
 exact gU m
 rw[b1]
 refine jM rfl (dN fQ rfl rfl (vl 1 (aZ gV) gH rfl rfl rfl (dN fI rfl rfl (vl 0 _ cF rfl rfl rfl ?_))))
 obtain⟨x0,X0,m⟩:=aC m
 refine bU (cM X0 jN oV rfl rfl) (bU (cU (bI.ne oV X0) m5 rfl rfl) (vn (λu=>dX (fo:=2) (nZ x0.State) X0 dY oV cF rfl (aJ 5 u rfl) (λ_=>rfl)) ?_))
 exact gU m
 rintro _ j0 m
 refine v0 ?_
 apply vi m <;> intro c0 m
 refine vs (v0 (v0 ?_))
 cases m
 exact vr λu=>dW.of1 (.inl rfl) (fT _ _ (.sc (.int _ _)) rfl) (bE u [1,2,3,4,5] rfl).2 (bF.refl _ _) ⟨gV,oV,(bE u [1,2,3,4,5] rfl).1,rfl,rfl⟩
 refine v0 (vs (v0 ?_))
 refine vz [(1000000,some p0K,.obj 30 ([nZ p0.Seq,aZ gS,aZ gC,aZ gE,aZ gV])),(1000000,some k2,.obj 62 (aD p1))] mixed (λu=>⟨λ_=>aJ 1 u rfl,λ_=>aJ 0 u rfl,trivial⟩) λu=> ?_
 refine zP 0 rfl rfl ?_
 refine zN 1 rfl rfl ?_
 refine zF 2 rfl fQ rfl ?_
 refine zL 3 0 (aZ gV) rfl gH rfl rfl rfl ?_
 refine zF 4 rfl fI rfl ?_
 refine zL 5 1 (nZ p1.Vol) rfl cF rfl rfl rfl ?_
 obtain⟨x1,X1,m⟩:=aC m
 refine zC 6 rfl (cM X1 jN oV rfl rfl) ?_
 refine zC 7 rfl (cU (bI.ne oV X1) m5 rfl rfl) ?_
 refine zE 8 rfl (cI (fo:=2) ({ x1 with State:=1}:aP) 5 u X1 dY oV rfl rfl rfl rfl (cW.refl _ _) zT rfl rfl λK1=>⟨⟨λ_=>aJ 1 K1 rfl,λ_=>aJ 0 K1 rfl,trivial⟩, ?_⟩)
 refine zX (qk (f:=S4 37 _ _ _ _ _ _ _ _ _) K1 rfl ?_)
 refine vs (v0 ?_)
 refine vz [(1000000,some p0K,.obj 30 ([nZ p0.Seq,aZ gS,aZ gC,aZ gE,aZ gV])),(1000000,some k2,.obj 62 (aD p1)),(12,gV.t,.obj 49 (fl dC (p0.Vols.set p1.Vol.toNat ({ x1 with State:=1}):List aP) gV.sp))] mixed (λu=>⟨λ_=>aJ 1 u rfl,λ_=>aJ 0 u rfl,λ_=>aJ 5 u rfl,trivial⟩) λu=> ?_
 refine zP 0 rfl rfl ?_
 refine zN 1 rfl rfl ?_
 refine zF 2 rfl fQ rfl ?_
 refine zL 3 0 (aZ gV) rfl gH rfl rfl rfl ?_
 refine zF 4 rfl fI rfl ?_
 refine zL 5 1 (nZ p1.Vol) rfl cF rfl rfl rfl ?_
 obtain⟨x2,X2,m⟩:=aC m
 refine zC 6 rfl (cM X2 jN (bI.set oV) rfl rfl) ?_
 refine zC 7 rfl (cU (bI.ne (bI.set oV) X2) CK rfl rfl) ?_
 refine wL 8 rfl (λ_ _ hi hB=>dX (fo:=1) (nZ x2.Epoch) X2 dY (bI.set oV) cF rfl (fV.get 2 hi rfl (hB 12 (by kernel_rfl))) (λ_=>rfl)) ?_
 refine zC 9 rfl (lQ rfl rfl rfl trivial) ?_
 obtain⟨x3,X3,m⟩:=aC m
 refine zC 10 rfl (cM X3 jN (bI.set oV) rfl rfl) ?_
 refine zC 11 rfl (cU (bI.ne (bI.set oV) X3) CK rfl rfl) ?_
 refine zE 12 rfl (cI (fo:=1) ({ x3 with Epoch:=IntKind.wrap .i64 (x2.Epoch+1)}:aP) 5 u X3 dY (bI.set oV) rfl rfl rfl rfl (cW.refl _ _) zT rfl rfl λK2=>⟨⟨λ_=>aJ 1 K2 rfl,λ_=>aJ 0 K2 rfl,λe=>absurd e (by decide),trivial⟩, ?_⟩)
 refine zX (qk (f:=GD 49 _ _ _ _ _ _ _ _ _ _ _ _ _) K2 rfl ?_)
 refine vs (v0 (v0 ?_))
 cases m
 exact vr λu=>dW.of1 (.inl rfl) (fT _ _ (.sc (.int _ _)) rfl) (bE u [1,2,3,4,5] rfl).2 (bF.refl _ _) ⟨gV,(bI.set (bI.set oV)),(bE u [1,2,3,4,5] rfl).1,rfl,rfl⟩
theorem aE6:aO Tryz.prog 76=true:=by kernel_rfl
def UR (m:Nat) (p0:aH) (c0:aR):Option (Bool):=
 some (p0.Seq==c0.Seq)
theorem aE7 {w:Nat} {p0:aH} {c0:aR} {o:Bool} (h:aE) {c0K:cB} (c0H:h c0K=some (.obj 62 (aD c0))) (m:UR w p0 c0=some o):
 aL Tryz.prog 118 [.agg (bS p0),.ptr c0K 0] h (λr h'=>r= .sc (.bool o)∧h'=h):=by
 refine f8 9 [.tmp 3] Tryz.func118 rfl rfl rfl rfl ?_
 unfold UR at m
 refine v ?_
 refine gY rfl rfl λk2 K3=> ?_
 refine v (vl 0 _ cF rfl rfl rfl (vn (λu=>pE (nZ c0.Seq) cF rfl (kP u c0H) rfl) (v ?_)))
 cases m
 exact eD rfl
theorem ZH:aO Tryz.prog 118=true:=by kernel_rfl
def tI (m:Nat) (p0:aA) (q0:List aB) (q1:Int):Option (Lp ((List aB)×Int) ((List aB))):=
 if (decide (q1 < (p0.Chunks.length:Int)))=true then ((ix p0.Chunks q1).bind λx0=>(YD m ({ Seq:=p0.Seq,Snaps:=p0.Snaps,Chunks:=p0.Chunks,Exps:=p0.Exps,Vols:=p0.Vols}:aA) x0.Id).bind λy0=>after (if (!y0)=true then (some (.brk { { x0 with Staged:=false} with Data:=([]:List Int)})) else some (.brk x0):Option (Lp (aB) (Lp ((List aB)×Int) ((List aB))))) λj0=>after (if j0.Staged=true then (some (.brk true)) else some (.brk (decide (0 < (j0.Locs.length:Int)))):Option (Lp (Bool) (Lp ((List aB)×Int) ((List aB))))) λj1=>after (if j1=true then ((app q0 ([j0]:List aB)).bind λz0=>some (.brk z0)) else some (.brk q0):Option (Lp ((List aB)) (Lp ((List aB)×Int) ((List aB))))) λj2=>some (.go (j2,IntKind.wrap .i64 (q1+1)))) else some (.brk (q0,q1))
def HA (m:Nat) (p0:aA):Option ((List aB)):=
 after (aU (λs=>tI m p0 s.1 s.2) m ([],0)) λ⟨r0,r1⟩=>some r0
theorem ZI {w:Nat} {p0:aA} {o:(List aB)} (h:aE) {p0K:cB} {gS:cT} (ok_Snaps:bI gS 4 p0.Snaps.length) {gC:cT} (oC:bI gC 35 p0.Chunks.length) {gE:cT} (oE:bI gE 3 p0.Exps.length) {gV:cT} (oV:bI gV 4 p0.Vols.length) (K0:bT h [OC p0K p0.Seq gS gC gE gV,bD gS p0.Snaps,aV gC p0.Chunks,bV gE p0.Exps,aM gV p0.Vols]) (m:HA w p0=some o):
 aL Tryz.prog 120 [.ptr p0K 0] (hp h [OC p0K p0.Seq gS gC gE gV,bD gS p0.Snaps,aV gC p0.Chunks,bV gE p0.Exps,aM gV p0.Vols]) (λr h'=>∃g_Chunks':cT,bI g_Chunks' 35 (o:List aB).length∧bT h [OC p0K p0.Seq gS g_Chunks' gE gV,bD gS p0.Snaps,aV g_Chunks' o,bV gE p0.Exps,aM gV p0.Vols]∧r= .tup []∧h'=hp h [OC p0K p0.Seq gS g_Chunks' gE gV,bD gS p0.Snaps,aV g_Chunks' o,bV gE p0.Exps,aM gV p0.Vols]):=by
 refine uE K0 40 [] Tryz.func120 rfl rfl rfl rfl ?_
 unfold HA at m
 refine vs (v0 (vs (vs (v0 (jM rfl (dN dR rfl rfl (vl 0 (aZ gC) eJ rfl rfl rfl (bU (dQ iG oC rfl) (qK (FL (.obj 44 (fl aI ([]:List aB) g0.sp)) 2 (aZ g0) (f9 _)) ?_)))))))))
 refine nR m (σ:=(List aB)×Int) (τ:=cT) (λg s=> [aV g s.1,OC p0K p0.Seq gS gC gE gV,bD gS p0.Snaps,aV gC p0.Chunks,bV gE p0.Exps,aM gV p0.Vols]) (λg s=>bI g 35 (s.1:List aB).length) (λg s=>.c 0 (.ptr p0K 0) (.c 2 (aZ g) (.c 8 (aZ gC) (.c 9 (nZ (p0.Chunks.length:Int)) (.c 10 (nZ s.2) .nil))))) g0 (bI.g0 35) (lx (.k5 .nil)) ?_ ?_
 rintro ag0 ⟨q0,q1⟩ x O0 m
 replace m:tI w p0 q0 q1=some x:=m
 unfold tI at m
 refine vs (v0 (vs (v0 ?_)))
 apply vi m <;> intro c0 m
 refine v0 (vs (v0 (vs (v0 ?_))))
 obtain⟨x0,X0,m⟩:=aC m
 refine bU (cM X0 fH oC rfl rfl) (vn (λu=>dX (fo:=0) (.agg (aI x0)) X0 cO oC kQ rfl (aJ 3 u rfl) (λ_=>rfl)) ?_)
 refine ve λu=>bJ (bL jW++(FN:List AV)) u l6 rfl rfl λk174 K1=>qk K1 rfl ?_
 refine ve λu=>aK 0 (aI x0) u rfl rfl rfl rfl rI rfl rfl λK2=>qk K2 rfl ?_
 refine vs (vs (v0 (wY (by kernel_rfl) (jM rfl (vl 2 (.agg ([nZ p0.Seq,aZ gS,aZ gC,aZ gE,aZ gV])) fC rfl rfl rfl (dN nT rfl rfl (vl 0 (.agg (bL x0.Id)) fW rfl rfl rfl ?_)))))))
 obtain⟨_,Y0,m⟩:=aC m
 refine vn (λu=>bY (fG (.cons (Br.agg (.cons (Br.refl _ _) (.cons (Br.aw 3 eI ok_Snaps u rfl) (.cons (Br.aw 4 cO oC u rfl) (.cons (Br.aw 5 fL oE u rfl) (.cons (Br.aw 6 dY oV u rfl) .nil)))))) (.cons (Br.refl _ _) .nil)) rfl (W22 _ Y0)) rfl aDZ rfl) ?_
 refine fN m (σ:=aB) (λs=> [(some k174,.obj 44 (aI s)),aV ag0 q0,OC p0K p0.Seq gS gC gE gV,bD gS p0.Snaps,aV gC p0.Chunks,bV gE p0.Exps,aM gV p0.Vols]) (λs=>.c 0 (.ptr p0K 0) (.c 2 (aZ ag0) (.c 4 (.ptr k174 0) (.c 8 (aZ gC) (.c 9 (nZ (p0.Chunks.length:Int)) (.c 10 (nZ q1) .nil)))))) (λx m=> ?_) ?_
 refine v0 ?_
 apply vi m <;> intro c1 m
 refine v0 (dN oP rfl rfl ?_)
 refine ve λu=>aK 0 (aI { x0 with Staged:=false}) u rfl rfl rfl rfl V3 rfl rfl λK3=>qk K3 rfl ?_
 refine dN jS rfl rfl ?_
 refine ve λu=>xW 0 (aI { { x0 with Staged:=false} with Data:=([]:List Int)}) u rfl rfl rfl rfl (.cons (aX _) .nil) CJ rfl rfl λK4=>qk K4 rfl ?_
 exact nE m
 refine v0 ?_
 exact nE m
 rintro _ j0 m
 refine vs ?_
 refine fN m (σ:=Bool) (λs=> [(some k174,.obj 44 (aI j0)),aV ag0 q0,OC p0K p0.Seq gS gC gE gV,bD gS p0.Snaps,aV gC p0.Chunks,bV gE p0.Exps,aM gV p0.Vols]) (λs=>.c 0 (.ptr p0K 0) (.c 2 (aZ ag0) (.c 4 (.ptr k174 0) (.c 8 (aZ gC) (.c 9 (nZ (p0.Chunks.length:Int)) (.c 10 (nZ q1) (.c 30 (.sc (.bool s)) .nil))))))) (λx m=> ?_) ?_
 refine v0 (dN oP rfl rfl (vl 0 _ yC rfl rfl rfl ?_))
 apply vi m <;> intro b0 m
 rw[b0]
 exact CF m
 rw[b0]
 refine dN iV rfl rfl (vl 0 _ eL rfl rfl rfl (dE gO rfl ?_))
 exact CF m
 rintro _ j1 m
 refine pO m (σ:=(List aB)) (τ:=cT) (λg s=> [(some k174,.obj 44 (aI j0)),aV g s,OC p0K p0.Seq gS gC gE gV,bD gS p0.Snaps,aV gC p0.Chunks,bV gE p0.Exps,aM gV p0.Vols]) (λg s=>bI g 35 (s:List aB).length) (λg s=>.c 0 (.ptr p0K 0) (.c 2 (aZ g) (.c 8 (aZ gC) (.c 9 (nZ (p0.Chunks.length:Int)) (.c 10 (nZ q1) .nil))))) (λx m=> ?_) ?_
 refine v0 ?_
 apply vi m <;> intro c2 m
 refine v0 (vl 0 (.agg (aI j0)) kQ rfl rfl rfl (bU (eK (List.map aI ([j0]:List aB)) lR rfl rfl rfl rfl) ?_))
 obtain⟨z0,Z0,m⟩:=aC m
 refine ve λu=>gD (c:=aI) 1 Z0 lR rfl l6 rfl cO rfl rfl O0 u rfl λag1 O1 K5=>qk K5 rfl ?_
 exact eW m ag1 O1 (lx (.k5 .nil))
 refine v0 ?_
 exact eW m ag0 O0 (lx (.k5 .nil))
 rintro ag2 j2 O2 m
 refine v0 ?_
 exact eW m ag2 O2 (lW [1,2,3,4,5,6] rfl rfl (.k5 .nil))
 refine v0 ?_
 exact lM m ag0 O0 (lx (.k5 .nil))
 rintro ag3 ⟨r0,r1⟩ t0 m
 refine v0 (jM rfl (dN dR rfl rfl ?_))
 refine ve λu=>aK 1 ([nZ p0.Seq,aZ gS,aZ ag3,aZ gE,aZ gV]) u rfl rfl (bZ rfl) (cD (bW _ _ _) rfl) zY rfl rfl λK6=>qk K6 rfl ?_
 obtain rfl:=eT m
 exact vr λu=>dW.zero (.inr rfl) (bE u [1,2,0,4,5] rfl).2 ⟨ag3,t0,(bE u [1,2,0,4,5] rfl).1,rfl,rfl⟩
theorem R8:aO Tryz.prog 120=true:=by kernel_rfl
theorem aE8 {α:Type} {c:α→List AV} (hc:∀y,(c y).length=4) {p0 o:List α} {p1 p2:Int} (h:aE) {g:cT} (ok:bI g 4 p0.length) (K0:bT h [(g.t,.obj 60 (fl c p0 g.sp))]) (u:QG p0 p1 p2=some o):
 aL Tryz.prog 119 [aZ g,nZ p1,nZ p2] (hp h [(g.t,.obj 60 (fl c p0 g.sp))]) (λr h'=>∃g:cT,bI g 4 o.length∧bT h [(g.t,.obj 60 (fl c o g.sp))]∧r=aZ g∧h'=hp h [(g.t,.obj 60 (fl c o g.sp))]):=by
 obtain⟨i0,i1,i2,ho⟩:=J6 u
 obtain⟨gt,gn,cap,sp⟩:=g
 have hne:gt≠none:=λe=>by have:=ok.nil e; omega
 obtain⟨k,rfl⟩:∃k,gt=some k:=by cases gt with
 | none=>exact absurd rfl hne
 | some k=>exact⟨k,rfl⟩
 have hgn:gn=p0.length:=ok.eqn
 subst hgn
 have hle:p0.length≤cap:=ok.le
 have hmx:cap≤maxLen:=ok.mx
 have hlen:p0.length*4+sp.length=cap*4:=ok.len
 obtain⟨a,rfl⟩:∃a:Nat,p1=a:=⟨p1.toNat,by omega⟩
 obtain⟨b,rfl⟩:∃b:Nat,p2=b:=⟨p2.toNat,by omega⟩
 simp only[Int.toNat_natCast] at ho
 have ha:a < b:=by omega
 have hb:b≤p0.length:=by omega
 have hzl:(p0.take a++p0.drop b).length=a+(p0.length - b):=by simp; omega
 have hsp:=G9 hc (Nat.le_of_lt ha) hb sp
 have hal:(p0.take a++p0.drop b++p0.drop (a+(p0.length - b))).length=p0.length:=by simp; omega
 have htk:(p0.take a++p0.drop b++p0.drop (a+(p0.length - b))).take (a+(p0.length - b))=o:=by rw[ho,← hzl,List.take_left]
 have O2:bI ⟨some k,p0.length,cap,sp⟩ 4 (p0.take a++p0.drop b++p0.drop (a+(p0.length - b))).length:=by rw[hal]; exact ok
 have O3:bI ⟨some k,a+(p0.length - b),cap,((p0.drop (a+(p0.length - b))).map c).flatten++sp⟩ 4 (a+(p0.length - b)):=⟨rfl,nofun,by show a+(p0.length - b)≤cap; omega,hmx,by
   show (a+(p0.length - b))*4+(((p0.drop (a+(p0.length - b))).map c).flatten++sp).length=cap*4
   rw[List.length_append,jF hc,List.length_drop]; omega⟩
 refine uE K0 33 [.tmp 6] Tryz.func119 rfl rfl rfl rfl ?_
 repeat refine vs ?_
 refine v0 ?_
 repeat refine vs ?_
 refine v0 (bU (dQ jZ ok rfl) (bU (UQ (cap:=cap) i0 (by omega) (by omega) (by omega) iU rfl rfl rfl rfl) ?_))
 repeat refine vs ?_
 refine v0 (v0 (vf (by simp; omega) (v0 ?_)))
 repeat refine vs ?_
 refine v0 (bU (dQ jZ ok rfl) ?_)
 repeat refine vs ?_
 refine v0 ?_
 refine vz [] mixed (λw=>trivial) λw=> ?_
 refine zC 0 rfl (eY (.vw _ _ _) rfl) ?_
 refine zI 1 rfl rfl ?_
 refine zC 2 rfl (yZ (cap:=cap) i0 (by omega) iU rfl rfl) ?_
 refine zC 3 rfl (eY (.vw _ _ _) rfl) ?_
 refine zI 4 rfl rfl ?_
 by_cases hbl:b=p0.length
 subst hbl
 have e0:p0.length - p0.length=0:=Nat.sub_self _
 refine zC 5 rfl (ZG (m:=p0.length) iU rfl rfl) ?_
 have ee:fl c p0 sp=fl c (p0.take a++p0.drop p0.length++p0.drop (a+(p0.length - p0.length))) sp:=by
   rw[List.drop_length,List.append_nil,e0,Nat.add_zero,List.take_append_drop]
 refine zE 6 rfl (M8 wN (i:=a) rfl rfl ⟨trivial, ?_⟩)
 refine zC 7 rfl (fB (y:=.vw k (a+(p0.length - p0.length)) cap) (iC (.vw k a cap) rfl) (bF.of_eq (by rw[e0,Nat.add_zero]))) ?_
 have K1:bT h [(some k,iI.obj 60 (fl c (p0.take a++p0.drop p0.length++p0.drop (a+(p0.length - p0.length))) sp))]:=by rw[← ee]; exact w
 refine zX (qk (f:=.c 0 (.vw k (a+(p0.length - p0.length)) cap) (.c 26 _ (.c 25 _ (.c 24 _ (.c 23 _ (.c 22 _ (.c 21 _ (.c 20 _ _)))))))) K1 (by rw[← ee]) ?_)
 repeat refine vs ?_
 refine v0 (bU (dQ (g:=⟨some k,a+(p0.length - p0.length),cap,_⟩) jZ O3 rfl) (bU (R6 (cap:=cap) (by omega) (by omega) (by omega) iU rfl rfl rfl) ?_))
 refine ve λw=>A4 (g:=⟨some k,p0.length,cap,sp⟩) (i:=((a+(p0.length - p0.length):Nat):Int)) 0 w (by rw[hal]; simp; omega) hc O2 u25 u0 rfl rfl (by rw[hal]; rfl) rfl λsp' ok' hk'=>qk hk' rfl ?_
 repeat refine vs ?_
 refine v0 (v0 ?_)
 subst htk
 exact vr λw=>dW.one (.inl rfl) (bE w [0] rfl).2 (bF.refl _ _) ⟨⟨some k,a+(p0.length - p0.length),cap,sp'⟩,ok',(bE w [0] rfl).1,rfl,rfl⟩
 refine zC 5 rfl (jQ (m:=p0.length) (by omega) (by omega) iU rfl rfl) ?_
 have e2:((p0.drop b).map c).flatten=((fl c p0 sp).drop (b*4)).take (((p0.drop b).map c).flatten.length):=by
   rw[E5 hc hb]; unfold fl; rw[List.take_left]
 obtain⟨j,K1,_⟩:=jB (e':=.obj 60 (fl c (p0.take a++p0.drop b++p0.drop (a+(p0.length - b))) sp)) 0 w (show ([(some k,iI.obj 60 (fl c p0 sp))]:HL)[0]? =_ from rfl) (.inl rfl)
 refine zE 6 rfl (M7 wN (i:=a) (m:=p0.length - b) (ys:=((p0.drop b).map c).flatten) rfl (bB 0 w rfl) (by rw[e2]; rw[← e2]; have:=BC.view (m:=p0.length - b) (off:=b*4) (c:=((p0.drop b).map c).flatten.length) (bB 0 w (show ([(some k,iI.obj 60 (fl c p0 sp))]:HL)[0]? =some (some k,iI.obj 60 (fl c p0 sp)) from rfl)); rw[← e2] at this; exact this) (by rw[jF hc,List.length_drop]) (by omega) (by rw[jF hc,List.length_drop,F4 hc]; omega) ⟨trivial, ?_⟩)
 refine zC 7 rfl (iC (.vw _ _ _) rfl) ?_
 refine zX (qk (f:=.c 0 (.vw k (a+(p0.length - b)) cap) (.c 26 _ (.c 25 _ (.c 24 _ (.c 23 _ (.c 22 _ (.c 21 _ (.c 20 _ _)))))))) K1 (by rw[← j]; show upd _ _ (some (iI.obj 60 (eB (fl c p0 sp) (a*4) _)))=_; rw[hsp]) ?_)
 repeat refine vs ?_
 refine v0 (bU (dQ (g:=⟨some k,a+(p0.length - b),cap,_⟩) jZ O3 rfl) (bU (R6 (cap:=cap) (by omega) (by omega) (by omega) iU rfl rfl rfl) ?_))
 refine ve λw=>A4 (g:=⟨some k,p0.length,cap,sp⟩) (i:=((a+(p0.length - b):Nat):Int)) 0 w (by rw[hal]; simp; omega) hc O2 u25 u0 rfl rfl (by rw[hal]; rfl) rfl λsp' ok' hk'=>qk hk' rfl ?_
 repeat refine vs ?_
 refine v0 (v0 ?_)
 subst htk
 exact vr λw=>dW.one (.inl rfl) (bE w [0] rfl).2 (bF.refl _ _) ⟨⟨some k,a+(p0.length - b),cap,sp'⟩,ok',(bE w [0] rfl).1,rfl,rfl⟩
theorem ZJ:aO Tryz.prog 119=true:=by kernel_rfl
def M73 (m:Nat) (p0:aA) (p1:aR):Option (Int×(List aH)×(List aB)):=
 (BD m p0.Snaps (λx0=>UR m x0 p1)).bind λy6=>if (decide (y6 < 0))=true then (some (8,p0.Snaps,p0.Chunks)) else (QG p0.Snaps y6 (IntKind.wrap .i64 (y6+1))).bind λy0=>(HA m ({ Seq:=p0.Seq,Snaps:=y0,Chunks:=p0.Chunks,Exps:=p0.Exps,Vols:=p0.Vols}:aA)).bind λy1=>some (0,y0,y1)
theorem W73 {w:Nat} {p0:aA} {p1:aR} {o:Int×(List aH)×(List aB)} (h:aE) {p0K:cB} {gS:cT} (ok_Snaps:bI gS 4 p0.Snaps.length) {gC:cT} (oC:bI gC 35 p0.Chunks.length) {gE:cT} (oE:bI gE 3 p0.Exps.length) {gV:cT} (oV:bI gV 4 p0.Vols.length) (K0:bT h [OC p0K p0.Seq gS gC gE gV,bD gS p0.Snaps,aV gC p0.Chunks,bV gE p0.Exps,aM gV p0.Vols]) (m:M73 w p0 p1=some o):
 aL Tryz.prog 73 [.ptr p0K 0,.agg (aD p1)] (hp h [OC p0K p0.Seq gS gC gE gV,bD gS p0.Snaps,aV gC p0.Chunks,bV gE p0.Exps,aM gV p0.Vols]) (λr h'=>∃g_Snaps':cT,bI g_Snaps' 4 (o.2.1:List aH).length∧∃g_Chunks':cT,bI g_Chunks' 35 (o.2.2:List aB).length∧bT h [OC p0K p0.Seq g_Snaps' g_Chunks' gE gV,bD g_Snaps' o.2.1,aV g_Chunks' o.2.2,bV gE p0.Exps,aM gV p0.Vols]∧r=nZ o.1∧h'=hp h [OC p0K p0.Seq g_Snaps' g_Chunks' gE gV,bD g_Snaps' o.2.1,aV g_Chunks' o.2.2,bV gE p0.Exps,aM gV p0.Vols]):=by
 refine uE K0 27 [.tmp 4] Tryz.func73 rfl rfl rfl rfl ?_
 unfold M73 at m
 refine vs (v0 ?_)
 refine gY rfl rfl λk2 K3=> ?_
 refine vs (v0 (jM rfl (dN dV rfl rfl (vl 1 (aZ gS) fM rfl rfl rfl ?_))))
 obtain⟨_,Y7,m⟩:=aC m
 refine ve λu=>dB ((bC u [2,0,1,3,4,5] rfl rfl).1.trans (cV h [bD gS p0.Snaps] [(some k2,.obj 62 (aD p1)),OC p0K p0.Seq gS gC gE gV,aV gC p0.Chunks,bV gE p0.Exps,aM gV p0.Vols]).symm) (cK (R7 (hp h [(some k2,.obj 62 (aD p1)),OC p0K p0.Seq gS gC gE gV,aV gC p0.Chunks,bV gE p0.Exps,aM gV p0.Vols]) ok_Snaps (cJ [bD gS p0.Snaps] [(some k2,.obj 62 (aD p1)),OC p0K p0.Seq gS gC gE gV,aV gC p0.Chunks,bV gE p0.Exps,aM gV p0.Vols] (bC u [2,0,1,3,4,5] rfl rfl).2).2 ZH (λ_ o h0 hs ho=>aE7 _ (hs _ _ (bB 0 (cJ [bD gS p0.Snaps] [(some k2,.obj 62 (aD p1)),OC p0K p0.Seq gS gC gE gV,aV gC p0.Chunks,bV gE p0.Exps,aM gV p0.Vols] (bC u [2,0,1,3,4,5] rfl rfl).2).1 rfl)) ho) Y7) rfl EL rfl ?_)
 rintro x h' ⟨rfl,rfl⟩
 refine qk u ((cV h [bD gS p0.Snaps] [(some k2,.obj 62 (aD p1)),OC p0K p0.Seq gS gC gE gV,aV gC p0.Chunks,bV gE p0.Exps,aM gV p0.Vols]).trans (bC u [2,0,1,3,4,5] rfl rfl).1.symm) ?_
 refine vs (vs (v0 (v0 ?_)))
 apply vi m <;> intro c0 m
 refine vs (v0 (v0 ?_))
 cases m
 exact vr λu=>dW.of1 (.inl rfl) (fT _ _ (.sc (.int _ _)) rfl) (bE u [1,2,3,4,5] rfl).2 (bF.refl _ _) ⟨gS,ok_Snaps,gC,oC,(bE u [1,2,3,4,5] rfl).1,rfl,rfl⟩
 refine v0 (vs (v0 (jM rfl (dN dV rfl rfl (vl 1 (aZ gS) fM rfl rfl rfl ?_)))))
 obtain⟨y0,Y0,m⟩:=aC m
 refine ve λu=> ?_
 have ho0:=mD (A:= [bD gS p0.Snaps]) (R:= [(some k2,.obj 62 (aD p1)),OC p0K p0.Seq gS gC gE gV,aV gC p0.Chunks,bV gE p0.Exps,aM gV p0.Vols]) u [[_], [_], [_], [_], [_], [_]] rfl [2] [0,1,3,4,5] rfl rfl rfl
 refine dB ho0.1 (cK (aE8 eI _ ok_Snaps ho0.2.2 Y0) rfl ZJ rfl ?_)
 rintro x h' ⟨ag0,O0,K1,rfl,rfl⟩
 have K2:=mE (L':= [(some k2,.obj 62 (aD p1)),(hO p0K p0.Seq gS gC gE gV),bD ag0 y0,aV gC p0.Chunks,bV gE p0.Exps,aM gV p0.Vols]) ho0.2.1 K1 [[_]] [[_], [_], [_], [_], [_]] rfl rfl [1,2,0,3,4,5] rfl rfl
 refine qk K2.2 K2.1 ?_
 refine jM rfl (dN dV rfl rfl ?_)
 refine ve λu=>aK 1 ([nZ p0.Seq,aZ ag0,aZ gC,aZ gE,aZ gV]) u rfl rfl (bZ rfl) (cD (bW _ _ _) rfl) GI rfl rfl λK4=>qk K4 rfl ?_
 refine vs (v0 ?_)
 obtain⟨y1,Y1,m⟩:=aC m
 refine ve λu=>dB ((bC u [1,2,3,4,5,0] rfl rfl).1.trans (cV h [OC p0K p0.Seq ag0 gC gE gV,bD ag0 y0,aV gC p0.Chunks,bV gE p0.Exps,aM gV p0.Vols] [(some k2,.obj 62 (aD p1))]).symm) (cK (ZI (p0:=({ Seq:=p0.Seq,Snaps:=y0,Chunks:=p0.Chunks,Exps:=p0.Exps,Vols:=p0.Vols}:aA)) (hp h [(some k2,.obj 62 (aD p1))]) O0 oC oE oV (cJ [OC p0K p0.Seq ag0 gC gE gV,bD ag0 y0,aV gC p0.Chunks,bV gE p0.Exps,aM gV p0.Vols] [(some k2,.obj 62 (aD p1))] (bC u [1,2,3,4,5,0] rfl rfl).2).2 Y1) rfl R8 rfl ?_)
 rintro x h' ⟨ag1,O1,K5,rfl,rfl⟩
 have K6:=bC (L':= [(some k2,.obj 62 (aD p1)),OC p0K p0.Seq ag0 ag1 gE gV,bD ag0 y0,aV ag1 y1,bV gE p0.Exps,aM gV p0.Vols]) (dI (cJ [OC p0K p0.Seq ag0 gC gE gV,bD ag0 y0,aV gC p0.Chunks,bV gE p0.Exps,aM gV p0.Vols] [(some k2,.obj 62 (aD p1))] (bC u [1,2,3,4,5,0] rfl rfl).2).1 K5) [5,0,1,2,3,4] rfl rfl
 refine qk K6.2 ((cV h [OC p0K p0.Seq ag0 ag1 gE gV,bD ag0 y0,aV ag1 y1,bV gE p0.Exps,aM gV p0.Vols] [(some k2,.obj 62 (aD p1))]).trans K6.1) ?_
 refine vs (v0 (v0 ?_))
 cases m
 exact vr λu=>dW.of1 (.inl rfl) (fT _ _ (.sc (.int _ _)) rfl) (bE u [1,2,3,4,5] rfl).2 (bF.refl _ _) ⟨ag0,O0,ag1,O1,(bE u [1,2,3,4,5] rfl).1,rfl,rfl⟩
theorem aFA:aO Tryz.prog 73=true:=by kernel_rfl
open Go.Vm
theorem aFB {α:Type} {c:α→List AV} (hc:∀y,(c y).length=4) {p0 o:List α} {p1:Int} {x:α} (h:aE) {g:cT} (ok:bI g 4 p0.length) (K0:bT h [(g.t,.obj 81 (fl c p0 g.sp))]) (u:pM p0 p1 x=some o):
 aL Tryz.prog 187 [aZ g,nZ p1,.sl none 4 (List.map c [x])] (hp h [(g.t,.obj 81 (fl c p0 g.sp))]) (λr h'=>∃g:cT,bI g 4 o.length∧bT h [(g.t,.obj 81 (fl c o g.sp))]∧r=aZ g∧h'=hp h [(g.t,.obj 81 (fl c o g.sp))]):=by
 obtain⟨i0,i1,i2,ho⟩:=lI u
 have hv1:((([x]:List α).length:Int)==0)=false:=rfl
 refine uE K0 95 [.tmp 6] Tryz.func187 rfl rfl rfl rfl ?_
 repeat refine vs ?_
 refine v0 ?_
 repeat refine vs ?_
 refine v0 (bU (G8 i0 i1 ok jR rfl rfl) ?_)
 repeat refine vs ?_
 refine v0 (dE gO rfl ?_)
 repeat refine vs ?_
 refine v0 (v0 ?_)
 show VC _ _ _ Code.skip _ _ _ _
 refine v0 ?_
 repeat refine vs ?_
 refine v0 (bU (dQ gO ok rfl) ?_)
 repeat refine vs ?_
 refine v0 (v0 ?_)
 by_cases hi:p1=(p0.length:Int)
 refine vt (by simpa using hi) ?_
 repeat refine vs ?_
 refine v0 ?_
 refine ve λw=>gD (c:=c) 0 (CX i2) pJ rfl EJ rfl hc rfl rfl ok w rfl λg' ok' hk'=>qk hk' rfl ?_
 refine v0 ?_
 have e:o=p0++ [x]:=by subst hi; rw[ho]; simp
 subst e
 exact vr λw=>dW.one (.inl rfl) (iD.refl _) (bF.refl _ _) ⟨g',ok',w,rfl,rfl⟩
 refine vf (by simpa using hi) (v0 ?_)
 have hlt:p1.toNat < p0.length:=by omega
 obtain⟨gt,gn,cap,sp⟩:=g
 have hne:gt≠none:=λe=>by have:=ok.nil e; omega
 obtain⟨k,rfl⟩:∃k,gt=some k:=by cases gt with
 | none=>exact absurd rfl hne
 | some k=>exact⟨k,rfl⟩
 have hgn:gn=p0.length:=ok.eqn
 subst hgn
 have hle:p0.length≤cap:=ok.le
 have hmx:cap≤maxLen:=ok.mx
 have hlen:p0.length*4+sp.length=cap*4:=ok.len
 have hw:IntKind.wrap .i64 ((p0.length:Int)+(([x]:List α).length:Int))=((p0.length+1:Nat):Int):=by
   rw[IntKind.wrap_i64]; simp only[List.length_singleton]; omega
 have hw2:IntKind.wrap .i64 (IntKind.wrap .i64 ((p0.length:Int)+(([x]:List α).length:Int)) - p1)=((p0.length+1 - p1.toNat:Nat):Int):=by
   rw[hw,IntKind.wrap_i64]; omega
 have hw3:IntKind.wrap .i64 (p1+(([x]:List α).length:Int))=((p1.toNat+1:Nat):Int):=by
   rw[IntKind.wrap_i64]; simp only[List.length_singleton]; omega
 obtain⟨q1,q2,q3,q4⟩:=oA hc (i:=p1.toNat) (by omega:p1.toNat≤p0.length) sp
 generalize hA:((p0.take p1.toNat).map c).flatten=A at q1 q2 q4
 generalize hB:((p0.drop p1.toNat).map c).flatten=B at q1 q3 q4
 repeat refine vs ?_
 refine v0 (bU (G6 u42 rfl) (v0 ?_))
 by_cases hcap:cap < p0.length+1
 refine vt (by rw[hw]; exact decide_eq_true (show (cap:Int) < ((p0.length+1:Nat):Int) by omega)) ?_
 repeat refine vs ?_
 refine v0 (bU (yZ (cap:=cap) i0 (by omega) jR rfl rfl) ?_)
 refine ve λw=>G7 (cap:=cap) (cs:=fl c p0 sp) (i:=p1.toNat) (m:=p0.length+1 - p1.toNat) 0 pJ u3 EJ rfl (by decide) w rfl rfl (congrArg (λz=>AV.sc (.int .i64 z)) hw2) (by omega) (by rw[q1]; simp only[List.length_append]; omega) (by omega) λq cap' R h1 h2 h3 hk'=>qk hk' rfl ?_
 repeat refine vs ?_
 refine v0 (bU (jQ i0 (by omega) jR rfl rfl) ?_)
 have hn0:p1.toNat+(p0.length+1 - p1.toNat)=p0.length+1:=by omega
 have hn1:p1.toNat+(p0.length+1 - p1.toNat) - p1.toNat=p0.length+1 - p1.toNat:=by omega
 have e1:List.take (p1.toNat*4) (fl c p0 sp)=A:=by rw[q1,← q2,List.take_left]
 have hxl:=hc x
 have hR:4+B.length≤R.length:=by omega
 have hfl:(fl c p0 sp).length=A.length+(B.length+sp.length):=by rw[q1]; simp
 obtain⟨R1,R2,R3,hR0,hR1,hR2⟩:∃R1 R2 R3:List AV,R=R1++(R2++R3)∧R1.length=(c x).length∧R2.length=B.length:=
 ⟨R.take 4,(R.drop 4).take B.length,(R.drop 4).drop B.length,by rw[List.take_append_drop,List.take_append_drop],by rw[List.length_take,hxl]; omega,by rw[List.length_take,List.length_drop]; omega⟩
 refine ve λw=>mB 0 pJ w rfl rfl (BC.sl (ys:=List.map c [x]) (by simp) _) (by simp[hxl]; omega) (by rw[e1]; simp only[List.length_append]; simp[hxl,q2]; omega) (A++(c x++(R2++R3))) (by
 rw[e1,hR0]
 simp only[List.map_cons,List.map_nil,List.flatten_cons,List.flatten_nil,List.append_nil]
 exact fX q2 hR1) λhk'=>qk hk' rfl ?_
 repeat refine vs ?_
 refine v0 ?_
 have hv4:AV.view q ((IntKind.wrap .i64 (p1+(([x]:List α).length:Int))).toNat*4) (p1.toNat+(p0.length+1 - p1.toNat) - (IntKind.wrap .i64 (p1+(([x]:List α).length:Int))).toNat)= .view q ((p1.toNat+1)*4) (p0.length - p1.toNat):=by
   rw[hw3,Int.toNat_natCast,show p1.toNat+(p0.length+1 - p1.toNat) - (p1.toNat+1)=p0.length - p1.toNat from by omega]
 refine vz [] mixed (λw=>trivial) λw=> ?_
 refine zC 0 rfl (eY (.vw _ _ _) rfl) ?_
 refine zI 1 rfl rfl ?_
 refine zI 2 rfl rfl ?_
 refine zC 3 rfl (lQ rfl rfl rfl trivial) ?_
 refine zC 4 rfl (fB (jQ (by rw[hw3]; omega) (by rw[hw3]; omega) jR rfl rfl) (bF.of_eq hv4)) ?_
 refine zC 5 rfl (eY (.vw _ _ _) rfl) ?_
 refine zI 6 rfl rfl ?_
 refine zC 7 rfl (jQ (m:=p0.length) i0 (by omega) jR rfl rfl) ?_
 have e2:(List.drop (p1.toNat*4) (fl c p0 sp)).take ((p0.length - p1.toNat)*4)=B:=by
   rw[q1,← q2,List.drop_left,← q3,List.take_left]
 refine zE 8 rfl (mB 0 pJ w rfl rfl (cs:=B) (by rw[← e2]; exact BC.view (bB 1 w rfl)) (n1:=p0.length - p1.toNat) (m:=p0.length - p1.toNat) (by rw[q3,Nat.min_self]) (by simp only[List.length_append,hxl,q2,hR2]; omega) (fl c (p0.take p1.toNat++x::p0.drop p1.toNat) R3) (by
 rw[q4 x R3,← List.append_assoc A,← List.append_assoc A]
 exact fX (A:=A++c x) (by rw[List.length_append,hxl,q2]; omega) hR2) λK1=>⟨trivial, ?_⟩)
 refine zX (qk (f:=V1 54 _ _ _ _ _ _ _ _ _ _) K1 rfl ?_)
 repeat refine vs ?_
 refine v0 (v0 ?_)
 subst ho
 have hol:(List.take p1.toNat p0++x::List.drop p1.toNat p0).length=p0.length+1:=by simp; omega
 refine vr λw=>dW.one (.inl rfl) (bE K1 [0] rfl).2 (bF.of_eq (show AV.vw q _ cap'=aw (some q) (p0.length+1) cap' by rw[hn0]; rfl)) ⟨⟨some q,p0.length+1,cap',R3⟩,⟨hol.symm,nofun,by rw[hol]; show p0.length+1≤cap'; omega,h2,by rw[hol]; show (p0.length+1)*4+R3.length=cap'*4; simp only[hR0,List.length_append,hR1,hR2,hxl] at h3; omega⟩,(bE K1 [0] rfl).1,rfl,rfl⟩
 refine vf (by rw[hw]; exact decide_eq_false (show ¬(cap:Int) < ((p0.length+1:Nat):Int) by omega)) (v0 ?_)
 repeat refine vs ?_
 refine v0 ?_
 have hv0:AV.vw k (IntKind.wrap .i64 ((p0.length:Int)+(([x]:List α).length:Int))).toNat cap= .vw k (p0.length+1) cap:=by rw[hw,Int.toNat_natCast]
 refine bU (fB (yZ (cap:=cap) (by rw[hw]; omega) (by rw[hw]; omega) jR rfl rfl) (bF.of_eq hv0)) ?_
 repeat refine vs ?_
 refine v0 ?_
 have hv4:AV.view k ((IntKind.wrap .i64 (p1+(([x]:List α).length:Int))).toNat*4) (p0.length+1 - (IntKind.wrap .i64 (p1+(([x]:List α).length:Int))).toNat)= .view k ((p1.toNat+1)*4) (p0.length - p1.toNat):=by
   rw[hw3,Int.toNat_natCast,show p0.length+1 - (p1.toNat+1)=p0.length - p1.toNat from by omega]
 refine bU (fB (jQ (m:=p0.length+1) (by rw[hw3]; omega) (by rw[hw3]; omega) jR rfl rfl) (bF.of_eq hv4)) ?_
 have hfl:(fl c p0 sp).length=p1.toNat*4+((p0.length - p1.toNat)*4+sp.length):=by rw[q1,List.length_append,List.length_append,q2,q3]
 refine ve λw=>o5 (sz:=4) (tS:=42) (tR:=4) Tryz.func193 (by kernel_rfl) (by kernel_rfl) (by kernel_rfl) (by kernel_rfl) pJ (ys:=List.map c [x]) (by simp) (by decide) rfl rfl (bB 0 w rfl) (by rw[hfl]; omega) (qk w rfl ?_)
 refine v0 ?_
 repeat refine vs ?_
 refine v0 ?_
 refine vz [] mixed (λw=>trivial) λw=> ?_
 refine zC 0 rfl (eY (.vw _ _ _) rfl) ?_
 refine zI 1 rfl rfl ?_
 refine zI 2 rfl rfl ?_
 refine zC 3 rfl (lQ rfl rfl rfl trivial) ?_
 refine zC 4 rfl (fB (jQ (m:=p0.length+1) (by rw[hw3]; omega) (by rw[hw3]; omega) jR rfl rfl) (bF.of_eq hv4)) ?_
 refine zC 5 rfl (eY (.vw _ _ _) rfl) ?_
 refine zI 6 rfl rfl ?_
 refine zC 7 rfl (jQ (m:=p0.length+1) i0 (by omega) jR rfl rfl) ?_
 have hxl:=hc x
 have e2:(List.drop (p1.toNat*4) (fl c p0 sp)).take ((p0.length - p1.toNat)*4)=B:=by
   rw[q1,← q2,List.drop_left,← q3,List.take_left]
 have hsp:4≤sp.length:=by omega
 obtain⟨X0,Y,Z,hXY,hX0,hY⟩:∃X0 Y Z:List AV,B++sp=X0++(Y++Z)∧X0.length=4∧Y.length=B.length:=
 ⟨(B++sp).take 4,((B++sp).drop 4).take B.length,((B++sp).drop 4).drop B.length,by rw[List.take_append_drop,List.take_append_drop],by rw[List.length_take,List.length_append]; omega,by rw[List.length_take,List.length_drop,List.length_append]; omega⟩
 have hZ:Z.length+4=sp.length:=by
   have:=congrArg List.length hXY
   simp only[List.length_append] at this
   omega
 refine zE 8 rfl (mB 0 pJ w rfl rfl (cs:=B) (by rw[← e2]; exact BC.view (bB 0 w rfl)) (n1:=p0.length - p1.toNat) (m:=p0.length+1 - p1.toNat) (by rw[q3]; congr 1; omega) (by show (p1.toNat+1)*4+B.length≤(fl c p0 sp).length; rw[hfl]; omega) (A++(X0++(B++Z))) (by
 show eB (fl c p0 sp) ((p1.toNat+1)*4) B=_
 rw[q1,hXY,← List.append_assoc A,← List.append_assoc A]
 exact fX (A:=A++X0) (by rw[List.length_append,hX0,q2]; omega) hY) λK1=>⟨trivial, ?_⟩)
 refine zX (qk (f:=V1 77 _ _ _ _ _ _ _ _ _ _) K1 rfl ?_)
 repeat refine vs ?_
 refine v0 (bU (jQ (m:=p0.length+1) i0 (by omega) jR rfl rfl) ?_)
 refine ve λw=>mB 0 pJ w rfl rfl (BC.sl (ys:=List.map c [x]) (by simp) _) (by simp[hxl]; omega) (by simp only[List.map_cons,List.map_nil,List.flatten_cons,List.flatten_nil,List.append_nil,List.length_append,q2,hX0,hxl]; omega) (fl c (p0.take p1.toNat++x::p0.drop p1.toNat) Z) (by
 simp only[List.map_cons,List.map_nil,List.flatten_cons,List.flatten_nil,List.append_nil]
 rw[q4 x Z]
 exact fX q2 (by rw[hX0,hxl])) λK1=>qk K1 rfl ?_
 repeat refine vs ?_
 refine v0 (v0 ?_)
 subst ho
 have hol:(List.take p1.toNat p0++x::List.drop p1.toNat p0).length=p0.length+1:=by simp; omega
 refine vr λw=>dW.one (.inl rfl) (bE w [0] rfl).2 (bF.of_eq (show AV.vw k _ cap=aw (some k) (p0.length+1) cap by rfl)) ⟨⟨some k,p0.length+1,cap,Z⟩,⟨hol.symm,nofun,by rw[hol]; show p0.length+1≤cap; omega,hmx,by rw[hol]; show (p0.length+1)*4+Z.length=cap*4; omega⟩,(bE w [0] rfl).1,rfl,rfl⟩
theorem ZK:aO Tryz.prog 187=true:=by kernel_rfl
theorem aFC {α:Type} {c:α→List AV} (hc:∀y,(c y).length=3) {p0 o:List α} {p1:Int} {x:α} (h:aE) {g:cT} (ok:bI g 3 p0.length) (K0:bT h [(g.t,.obj 99 (fl c p0 g.sp))]) (u:pM p0 p1 x=some o):
 aL Tryz.prog 180 [aZ g,nZ p1,.sl none 3 (List.map c [x])] (hp h [(g.t,.obj 99 (fl c p0 g.sp))]) (λr h'=>∃g:cT,bI g 3 o.length∧bT h [(g.t,.obj 99 (fl c o g.sp))]∧r=aZ g∧h'=hp h [(g.t,.obj 99 (fl c o g.sp))]):=by
 obtain⟨i0,i1,i2,ho⟩:=lI u
 have hv1:((([x]:List α).length:Int)==0)=false:=rfl
 refine uE K0 95 [.tmp 6] Tryz.func180 rfl rfl rfl rfl ?_
 repeat refine vs ?_
 refine v0 ?_
 repeat refine vs ?_
 refine v0 (bU (G8 i0 i1 ok iM rfl rfl) ?_)
 repeat refine vs ?_
 refine v0 (dE pW rfl ?_)
 repeat refine vs ?_
 refine v0 (v0 ?_)
 show VC _ _ _ Code.skip _ _ _ _
 refine v0 ?_
 repeat refine vs ?_
 refine v0 (bU (dQ pW ok rfl) ?_)
 repeat refine vs ?_
 refine v0 (v0 ?_)
 by_cases hi:p1=(p0.length:Int)
 refine vt (by simpa using hi) ?_
 repeat refine vs ?_
 refine v0 ?_
 refine ve λw=>gD (c:=c) 0 (CX i2) pH rfl rL rfl hc rfl rfl ok w rfl λg' ok' hk'=>qk hk' rfl ?_
 refine v0 ?_
 have e:o=p0++ [x]:=by subst hi; rw[ho]; simp
 subst e
 exact vr λw=>dW.one (.inl rfl) (iD.refl _) (bF.refl _ _) ⟨g',ok',w,rfl,rfl⟩
 refine vf (by simpa using hi) (v0 ?_)
 have hlt:p1.toNat < p0.length:=by omega
 obtain⟨gt,gn,cap,sp⟩:=g
 have hne:gt≠none:=λe=>by have:=ok.nil e; omega
 obtain⟨k,rfl⟩:∃k,gt=some k:=by cases gt with
 | none=>exact absurd rfl hne
 | some k=>exact⟨k,rfl⟩
 have hgn:gn=p0.length:=ok.eqn
 subst hgn
 have hle:p0.length≤cap:=ok.le
 have hmx:cap≤maxLen:=ok.mx
 have hlen:p0.length*3+sp.length=cap*3:=ok.len
 have hw:IntKind.wrap .i64 ((p0.length:Int)+(([x]:List α).length:Int))=((p0.length+1:Nat):Int):=by
   rw[IntKind.wrap_i64]; simp only[List.length_singleton]; omega
 have hw2:IntKind.wrap .i64 (IntKind.wrap .i64 ((p0.length:Int)+(([x]:List α).length:Int)) - p1)=((p0.length+1 - p1.toNat:Nat):Int):=by
   rw[hw,IntKind.wrap_i64]; omega
 have hw3:IntKind.wrap .i64 (p1+(([x]:List α).length:Int))=((p1.toNat+1:Nat):Int):=by
   rw[IntKind.wrap_i64]; simp only[List.length_singleton]; omega
 obtain⟨q1,q2,q3,q4⟩:=oA hc (i:=p1.toNat) (by omega:p1.toNat≤p0.length) sp
 generalize hA:((p0.take p1.toNat).map c).flatten=A at q1 q2 q4
 generalize hB:((p0.drop p1.toNat).map c).flatten=B at q1 q3 q4
 repeat refine vs ?_
 refine v0 (bU (G6 u27 rfl) (v0 ?_))
 by_cases hcap:cap < p0.length+1
 refine vt (by rw[hw]; exact decide_eq_true (show (cap:Int) < ((p0.length+1:Nat):Int) by omega)) ?_
 repeat refine vs ?_
 refine v0 (bU (yZ (cap:=cap) i0 (by omega) iM rfl rfl) ?_)
 refine ve λw=>G7 (cap:=cap) (cs:=fl c p0 sp) (i:=p1.toNat) (m:=p0.length+1 - p1.toNat) 0 pH u3 rL rfl (by decide) w rfl rfl (congrArg (λz=>AV.sc (.int .i64 z)) hw2) (by omega) (by rw[q1]; simp only[List.length_append]; omega) (by omega) λq cap' R h1 h2 h3 hk'=>qk hk' rfl ?_
 repeat refine vs ?_
 refine v0 (bU (jQ i0 (by omega) iM rfl rfl) ?_)
 have hn0:p1.toNat+(p0.length+1 - p1.toNat)=p0.length+1:=by omega
 have hn1:p1.toNat+(p0.length+1 - p1.toNat) - p1.toNat=p0.length+1 - p1.toNat:=by omega
 have e1:List.take (p1.toNat*3) (fl c p0 sp)=A:=by rw[q1,← q2,List.take_left]
 have hxl:=hc x
 have hR:3+B.length≤R.length:=by omega
 have hfl:(fl c p0 sp).length=A.length+(B.length+sp.length):=by rw[q1]; simp
 obtain⟨R1,R2,R3,hR0,hR1,hR2⟩:∃R1 R2 R3:List AV,R=R1++(R2++R3)∧R1.length=(c x).length∧R2.length=B.length:=
 ⟨R.take 3,(R.drop 3).take B.length,(R.drop 3).drop B.length,by rw[List.take_append_drop,List.take_append_drop],by rw[List.length_take,hxl]; omega,by rw[List.length_take,List.length_drop]; omega⟩
 refine ve λw=>mB 0 pH w rfl rfl (BC.sl (ys:=List.map c [x]) (by simp) _) (by simp[hxl]; omega) (by rw[e1]; simp only[List.length_append]; simp[hxl,q2]; omega) (A++(c x++(R2++R3))) (by
 rw[e1,hR0]
 simp only[List.map_cons,List.map_nil,List.flatten_cons,List.flatten_nil,List.append_nil]
 exact fX q2 hR1) λhk'=>qk hk' rfl ?_
 repeat refine vs ?_
 refine v0 ?_
 have hv4:AV.view q ((IntKind.wrap .i64 (p1+(([x]:List α).length:Int))).toNat*3) (p1.toNat+(p0.length+1 - p1.toNat) - (IntKind.wrap .i64 (p1+(([x]:List α).length:Int))).toNat)= .view q ((p1.toNat+1)*3) (p0.length - p1.toNat):=by
   rw[hw3,Int.toNat_natCast,show p1.toNat+(p0.length+1 - p1.toNat) - (p1.toNat+1)=p0.length - p1.toNat from by omega]
 refine vz [] mixed (λw=>trivial) λw=> ?_
 refine zC 0 rfl (eY (.vw _ _ _) rfl) ?_
 refine zI 1 rfl rfl ?_
 refine zI 2 rfl rfl ?_
 refine zC 3 rfl (lQ rfl rfl rfl trivial) ?_
 refine zC 4 rfl (fB (jQ (by rw[hw3]; omega) (by rw[hw3]; omega) iM rfl rfl) (bF.of_eq hv4)) ?_
 refine zC 5 rfl (eY (.vw _ _ _) rfl) ?_
 refine zI 6 rfl rfl ?_
 refine zC 7 rfl (jQ (m:=p0.length) i0 (by omega) iM rfl rfl) ?_
 have e2:(List.drop (p1.toNat*3) (fl c p0 sp)).take ((p0.length - p1.toNat)*3)=B:=by
   rw[q1,← q2,List.drop_left,← q3,List.take_left]
 refine zE 8 rfl (mB 0 pH w rfl rfl (cs:=B) (by rw[← e2]; exact BC.view (bB 1 w rfl)) (n1:=p0.length - p1.toNat) (m:=p0.length - p1.toNat) (by rw[q3,Nat.min_self]) (by simp only[List.length_append,hxl,q2,hR2]; omega) (fl c (p0.take p1.toNat++x::p0.drop p1.toNat) R3) (by
 rw[q4 x R3,← List.append_assoc A,← List.append_assoc A]
 exact fX (A:=A++c x) (by rw[List.length_append,hxl,q2]; omega) hR2) λK1=>⟨trivial, ?_⟩)
 refine zX (qk (f:=V1 54 _ _ _ _ _ _ _ _ _ _) K1 rfl ?_)
 repeat refine vs ?_
 refine v0 (v0 ?_)
 subst ho
 have hol:(List.take p1.toNat p0++x::List.drop p1.toNat p0).length=p0.length+1:=by simp; omega
 refine vr λw=>dW.one (.inl rfl) (bE K1 [0] rfl).2 (bF.of_eq (show AV.vw q _ cap'=aw (some q) (p0.length+1) cap' by rw[hn0]; rfl)) ⟨⟨some q,p0.length+1,cap',R3⟩,⟨hol.symm,nofun,by rw[hol]; show p0.length+1≤cap'; omega,h2,by rw[hol]; show (p0.length+1)*3+R3.length=cap'*3; simp only[hR0,List.length_append,hR1,hR2,hxl] at h3; omega⟩,(bE K1 [0] rfl).1,rfl,rfl⟩
 refine vf (by rw[hw]; exact decide_eq_false (show ¬(cap:Int) < ((p0.length+1:Nat):Int) by omega)) (v0 ?_)
 repeat refine vs ?_
 refine v0 ?_
 have hv0:AV.vw k (IntKind.wrap .i64 ((p0.length:Int)+(([x]:List α).length:Int))).toNat cap= .vw k (p0.length+1) cap:=by rw[hw,Int.toNat_natCast]
 refine bU (fB (yZ (cap:=cap) (by rw[hw]; omega) (by rw[hw]; omega) iM rfl rfl) (bF.of_eq hv0)) ?_
 repeat refine vs ?_
 refine v0 ?_
 have hv4:AV.view k ((IntKind.wrap .i64 (p1+(([x]:List α).length:Int))).toNat*3) (p0.length+1 - (IntKind.wrap .i64 (p1+(([x]:List α).length:Int))).toNat)= .view k ((p1.toNat+1)*3) (p0.length - p1.toNat):=by
   rw[hw3,Int.toNat_natCast,show p0.length+1 - (p1.toNat+1)=p0.length - p1.toNat from by omega]
 refine bU (fB (jQ (m:=p0.length+1) (by rw[hw3]; omega) (by rw[hw3]; omega) iM rfl rfl) (bF.of_eq hv4)) ?_
 have hfl:(fl c p0 sp).length=p1.toNat*3+((p0.length - p1.toNat)*3+sp.length):=by rw[q1,List.length_append,List.length_append,q2,q3]
 refine ve λw=>o5 (sz:=3) (tS:=27) (tR:=4) Tryz.func188 (by kernel_rfl) (by kernel_rfl) (by kernel_rfl) (by kernel_rfl) pH (ys:=List.map c [x]) (by simp) (by decide) rfl rfl (bB 0 w rfl) (by rw[hfl]; omega) (qk w rfl ?_)
 refine v0 ?_
 repeat refine vs ?_
 refine v0 ?_
 refine vz [] mixed (λw=>trivial) λw=> ?_
 refine zC 0 rfl (eY (.vw _ _ _) rfl) ?_
 refine zI 1 rfl rfl ?_
 refine zI 2 rfl rfl ?_
 refine zC 3 rfl (lQ rfl rfl rfl trivial) ?_
 refine zC 4 rfl (fB (jQ (m:=p0.length+1) (by rw[hw3]; omega) (by rw[hw3]; omega) iM rfl rfl) (bF.of_eq hv4)) ?_
 refine zC 5 rfl (eY (.vw _ _ _) rfl) ?_
 refine zI 6 rfl rfl ?_
 refine zC 7 rfl (jQ (m:=p0.length+1) i0 (by omega) iM rfl rfl) ?_
 have hxl:=hc x
 have e2:(List.drop (p1.toNat*3) (fl c p0 sp)).take ((p0.length - p1.toNat)*3)=B:=by
   rw[q1,← q2,List.drop_left,← q3,List.take_left]
 have hsp:3≤sp.length:=by omega
 obtain⟨X0,Y,Z,hXY,hX0,hY⟩:∃X0 Y Z:List AV,B++sp=X0++(Y++Z)∧X0.length=3∧Y.length=B.length:=
 ⟨(B++sp).take 3,((B++sp).drop 3).take B.length,((B++sp).drop 3).drop B.length,by rw[List.take_append_drop,List.take_append_drop],by rw[List.length_take,List.length_append]; omega,by rw[List.length_take,List.length_drop,List.length_append]; omega⟩
 have hZ:Z.length+3=sp.length:=by
   have:=congrArg List.length hXY
   simp only[List.length_append] at this
   omega
 refine zE 8 rfl (mB 0 pH w rfl rfl (cs:=B) (by rw[← e2]; exact BC.view (bB 0 w rfl)) (n1:=p0.length - p1.toNat) (m:=p0.length+1 - p1.toNat) (by rw[q3]; congr 1; omega) (by show (p1.toNat+1)*3+B.length≤(fl c p0 sp).length; rw[hfl]; omega) (A++(X0++(B++Z))) (by
 show eB (fl c p0 sp) ((p1.toNat+1)*3) B=_
 rw[q1,hXY,← List.append_assoc A,← List.append_assoc A]
 exact fX (A:=A++X0) (by rw[List.length_append,hX0,q2]; omega) hY) λK1=>⟨trivial, ?_⟩)
 refine zX (qk (f:=V1 77 _ _ _ _ _ _ _ _ _ _) K1 rfl ?_)
 repeat refine vs ?_
 refine v0 (bU (jQ (m:=p0.length+1) i0 (by omega) iM rfl rfl) ?_)
 refine ve λw=>mB 0 pH w rfl rfl (BC.sl (ys:=List.map c [x]) (by simp) _) (by simp[hxl]; omega) (by simp only[List.map_cons,List.map_nil,List.flatten_cons,List.flatten_nil,List.append_nil,List.length_append,q2,hX0,hxl]; omega) (fl c (p0.take p1.toNat++x::p0.drop p1.toNat) Z) (by
 simp only[List.map_cons,List.map_nil,List.flatten_cons,List.flatten_nil,List.append_nil]
 rw[q4 x Z]
 exact fX q2 (by rw[hX0,hxl])) λK1=>qk K1 rfl ?_
 repeat refine vs ?_
 refine v0 (v0 ?_)
 subst ho
 have hol:(List.take p1.toNat p0++x::List.drop p1.toNat p0).length=p0.length+1:=by simp; omega
 refine vr λw=>dW.one (.inl rfl) (bE w [0] rfl).2 (bF.of_eq (show AV.vw k _ cap=aw (some k) (p0.length+1) cap by rfl)) ⟨⟨some k,p0.length+1,cap,Z⟩,⟨hol.symm,nofun,by rw[hol]; show p0.length+1≤cap; omega,hmx,by rw[hol]; show (p0.length+1)*3+Z.length=cap*3; omega⟩,(bE w [0] rfl).1,rfl,rfl⟩
theorem ZL:aO Tryz.prog 180=true:=by kernel_rfl
theorem aFD {α:Type} {c:α→List AV} (hc:∀y,(c y).length=35) {p0 o:List α} {p1:Int} {x:α} (h:aE) {g:cT} (ok:bI g 35 p0.length) (K0:bT h [(g.t,.obj 44 (fl c p0 g.sp))]) (u:pM p0 p1 x=some o):
 aL Tryz.prog 117 [aZ g,nZ p1,.sl none 35 (List.map c [x])] (hp h [(g.t,.obj 44 (fl c p0 g.sp))]) (λr h'=>∃g:cT,bI g 35 o.length∧bT h [(g.t,.obj 44 (fl c o g.sp))]∧r=aZ g∧h'=hp h [(g.t,.obj 44 (fl c o g.sp))]):=by
 obtain⟨i0,i1,i2,ho⟩:=lI u
 have hv1:((([x]:List α).length:Int)==0)=false:=rfl
 refine uE K0 95 [.tmp 6] Tryz.func117 rfl rfl rfl rfl ?_
 repeat refine vs ?_
 refine v0 ?_
 repeat refine vs ?_
 refine v0 (bU (G8 i0 i1 ok fH rfl rfl) ?_)
 repeat refine vs ?_
 refine v0 (dE iG rfl ?_)
 repeat refine vs ?_
 refine v0 (v0 ?_)
 show VC _ _ _ Code.skip _ _ _ _
 refine v0 ?_
 repeat refine vs ?_
 refine v0 (bU (dQ iG ok rfl) ?_)
 repeat refine vs ?_
 refine v0 (v0 ?_)
 by_cases hi:p1=(p0.length:Int)
 refine vt (by simpa using hi) ?_
 repeat refine vs ?_
 refine v0 ?_
 refine ve λw=>gD (c:=c) 0 (CX i2) lR rfl l6 rfl hc rfl rfl ok w rfl λg' ok' hk'=>qk hk' rfl ?_
 refine v0 ?_
 have e:o=p0++ [x]:=by subst hi; rw[ho]; simp
 subst e
 exact vr λw=>dW.one (.inl rfl) (iD.refl _) (bF.refl _ _) ⟨g',ok',w,rfl,rfl⟩
 refine vf (by simpa using hi) (v0 ?_)
 have hlt:p1.toNat < p0.length:=by omega
 obtain⟨gt,gn,cap,sp⟩:=g
 have hne:gt≠none:=λe=>by have:=ok.nil e; omega
 obtain⟨k,rfl⟩:∃k,gt=some k:=by cases gt with
 | none=>exact absurd rfl hne
 | some k=>exact⟨k,rfl⟩
 have hgn:gn=p0.length:=ok.eqn
 subst hgn
 have hle:p0.length≤cap:=ok.le
 have hmx:cap≤maxLen:=ok.mx
 have hlen:p0.length*35+sp.length=cap*35:=ok.len
 have hw:IntKind.wrap .i64 ((p0.length:Int)+(([x]:List α).length:Int))=((p0.length+1:Nat):Int):=by
   rw[IntKind.wrap_i64]; simp only[List.length_singleton]; omega
 have hw2:IntKind.wrap .i64 (IntKind.wrap .i64 ((p0.length:Int)+(([x]:List α).length:Int)) - p1)=((p0.length+1 - p1.toNat:Nat):Int):=by
   rw[hw,IntKind.wrap_i64]; omega
 have hw3:IntKind.wrap .i64 (p1+(([x]:List α).length:Int))=((p1.toNat+1:Nat):Int):=by
   rw[IntKind.wrap_i64]; simp only[List.length_singleton]; omega
 obtain⟨q1,q2,q3,q4⟩:=oA hc (i:=p1.toNat) (by omega:p1.toNat≤p0.length) sp
 generalize hA:((p0.take p1.toNat).map c).flatten=A at q1 q2 q4
 generalize hB:((p0.drop p1.toNat).map c).flatten=B at q1 q3 q4
 repeat refine vs ?_
 refine v0 (bU (G6 u26 rfl) (v0 ?_))
 by_cases hcap:cap < p0.length+1
 refine vt (by rw[hw]; exact decide_eq_true (show (cap:Int) < ((p0.length+1:Nat):Int) by omega)) ?_
 repeat refine vs ?_
 refine v0 (bU (yZ (cap:=cap) i0 (by omega) fH rfl rfl) ?_)
 refine ve λw=>G7 (cap:=cap) (cs:=fl c p0 sp) (i:=p1.toNat) (m:=p0.length+1 - p1.toNat) 0 lR u3 l6 rfl (by decide) w rfl rfl (congrArg (λz=>AV.sc (.int .i64 z)) hw2) (by omega) (by rw[q1]; simp only[List.length_append]; omega) (by omega) λq cap' R h1 h2 h3 hk'=>qk hk' rfl ?_
 repeat refine vs ?_
 refine v0 (bU (jQ i0 (by omega) fH rfl rfl) ?_)
 have hn0:p1.toNat+(p0.length+1 - p1.toNat)=p0.length+1:=by omega
 have hn1:p1.toNat+(p0.length+1 - p1.toNat) - p1.toNat=p0.length+1 - p1.toNat:=by omega
 have e1:List.take (p1.toNat*35) (fl c p0 sp)=A:=by rw[q1,← q2,List.take_left]
 have hxl:=hc x
 have hR:35+B.length≤R.length:=by omega
 have hfl:(fl c p0 sp).length=A.length+(B.length+sp.length):=by rw[q1]; simp
 obtain⟨R1,R2,R3,hR0,hR1,hR2⟩:∃R1 R2 R3:List AV,R=R1++(R2++R3)∧R1.length=(c x).length∧R2.length=B.length:=
 ⟨R.take 35,(R.drop 35).take B.length,(R.drop 35).drop B.length,by rw[List.take_append_drop,List.take_append_drop],by rw[List.length_take,hxl]; omega,by rw[List.length_take,List.length_drop]; omega⟩
 refine ve λw=>mB 0 lR w rfl rfl (BC.sl (ys:=List.map c [x]) (by simp) _) (by simp[hxl]; omega) (by rw[e1]; simp only[List.length_append]; simp[hxl,q2]; omega) (A++(c x++(R2++R3))) (by
 rw[e1,hR0]
 simp only[List.map_cons,List.map_nil,List.flatten_cons,List.flatten_nil,List.append_nil]
 exact fX q2 hR1) λhk'=>qk hk' rfl ?_
 repeat refine vs ?_
 refine v0 ?_
 have hv4:AV.view q ((IntKind.wrap .i64 (p1+(([x]:List α).length:Int))).toNat*35) (p1.toNat+(p0.length+1 - p1.toNat) - (IntKind.wrap .i64 (p1+(([x]:List α).length:Int))).toNat)= .view q ((p1.toNat+1)*35) (p0.length - p1.toNat):=by
   rw[hw3,Int.toNat_natCast,show p1.toNat+(p0.length+1 - p1.toNat) - (p1.toNat+1)=p0.length - p1.toNat from by omega]
 refine vz [] mixed (λw=>trivial) λw=> ?_
 refine zC 0 rfl (eY (.vw _ _ _) rfl) ?_
 refine zI 1 rfl rfl ?_
 refine zI 2 rfl rfl ?_
 refine zC 3 rfl (lQ rfl rfl rfl trivial) ?_
 refine zC 4 rfl (fB (jQ (by rw[hw3]; omega) (by rw[hw3]; omega) fH rfl rfl) (bF.of_eq hv4)) ?_
 refine zC 5 rfl (eY (.vw _ _ _) rfl) ?_
 refine zI 6 rfl rfl ?_
 refine zC 7 rfl (jQ (m:=p0.length) i0 (by omega) fH rfl rfl) ?_
 have e2:(List.drop (p1.toNat*35) (fl c p0 sp)).take ((p0.length - p1.toNat)*35)=B:=by
   rw[q1,← q2,List.drop_left,← q3,List.take_left]
 refine zE 8 rfl (mB 0 lR w rfl rfl (cs:=B) (by rw[← e2]; exact BC.view (bB 1 w rfl)) (n1:=p0.length - p1.toNat) (m:=p0.length - p1.toNat) (by rw[q3,Nat.min_self]) (by simp only[List.length_append,hxl,q2,hR2]; omega) (fl c (p0.take p1.toNat++x::p0.drop p1.toNat) R3) (by
 rw[q4 x R3,← List.append_assoc A,← List.append_assoc A]
 exact fX (A:=A++c x) (by rw[List.length_append,hxl,q2]; omega) hR2) λK1=>⟨trivial, ?_⟩)
 refine zX (qk (f:=V1 54 _ _ _ _ _ _ _ _ _ _) K1 rfl ?_)
 repeat refine vs ?_
 refine v0 (v0 ?_)
 subst ho
 have hol:(List.take p1.toNat p0++x::List.drop p1.toNat p0).length=p0.length+1:=by simp; omega
 refine vr λw=>dW.one (.inl rfl) (bE K1 [0] rfl).2 (bF.of_eq (show AV.vw q _ cap'=aw (some q) (p0.length+1) cap' by rw[hn0]; rfl)) ⟨⟨some q,p0.length+1,cap',R3⟩,⟨hol.symm,nofun,by rw[hol]; show p0.length+1≤cap'; omega,h2,by rw[hol]; show (p0.length+1)*35+R3.length=cap'*35; simp only[hR0,List.length_append,hR1,hR2,hxl] at h3; omega⟩,(bE K1 [0] rfl).1,rfl,rfl⟩
 refine vf (by rw[hw]; exact decide_eq_false (show ¬(cap:Int) < ((p0.length+1:Nat):Int) by omega)) (v0 ?_)
 repeat refine vs ?_
 refine v0 ?_
 have hv0:AV.vw k (IntKind.wrap .i64 ((p0.length:Int)+(([x]:List α).length:Int))).toNat cap= .vw k (p0.length+1) cap:=by rw[hw,Int.toNat_natCast]
 refine bU (fB (yZ (cap:=cap) (by rw[hw]; omega) (by rw[hw]; omega) fH rfl rfl) (bF.of_eq hv0)) ?_
 repeat refine vs ?_
 refine v0 ?_
 have hv4:AV.view k ((IntKind.wrap .i64 (p1+(([x]:List α).length:Int))).toNat*35) (p0.length+1 - (IntKind.wrap .i64 (p1+(([x]:List α).length:Int))).toNat)= .view k ((p1.toNat+1)*35) (p0.length - p1.toNat):=by
   rw[hw3,Int.toNat_natCast,show p0.length+1 - (p1.toNat+1)=p0.length - p1.toNat from by omega]
 refine bU (fB (jQ (m:=p0.length+1) (by rw[hw3]; omega) (by rw[hw3]; omega) fH rfl rfl) (bF.of_eq hv4)) ?_
 have hfl:(fl c p0 sp).length=p1.toNat*35+((p0.length - p1.toNat)*35+sp.length):=by rw[q1,List.length_append,List.length_append,q2,q3]
 refine ve λw=>o5 (sz:=35) (tS:=26) (tR:=4) Tryz.func173 (by kernel_rfl) (by kernel_rfl) (by kernel_rfl) (by kernel_rfl) lR (ys:=List.map c [x]) (by simp) (by decide) rfl rfl (bB 0 w rfl) (by rw[hfl]; omega) (qk w rfl ?_)
 refine v0 ?_
 repeat refine vs ?_
 refine v0 ?_
 refine vz [] mixed (λw=>trivial) λw=> ?_
 refine zC 0 rfl (eY (.vw _ _ _) rfl) ?_
 refine zI 1 rfl rfl ?_
 refine zI 2 rfl rfl ?_
 refine zC 3 rfl (lQ rfl rfl rfl trivial) ?_
 refine zC 4 rfl (fB (jQ (m:=p0.length+1) (by rw[hw3]; omega) (by rw[hw3]; omega) fH rfl rfl) (bF.of_eq hv4)) ?_
 refine zC 5 rfl (eY (.vw _ _ _) rfl) ?_
 refine zI 6 rfl rfl ?_
 refine zC 7 rfl (jQ (m:=p0.length+1) i0 (by omega) fH rfl rfl) ?_
 have hxl:=hc x
 have e2:(List.drop (p1.toNat*35) (fl c p0 sp)).take ((p0.length - p1.toNat)*35)=B:=by
   rw[q1,← q2,List.drop_left,← q3,List.take_left]
 have hsp:35≤sp.length:=by omega
 obtain⟨X0,Y,Z,hXY,hX0,hY⟩:∃X0 Y Z:List AV,B++sp=X0++(Y++Z)∧X0.length=35∧Y.length=B.length:=
 ⟨(B++sp).take 35,((B++sp).drop 35).take B.length,((B++sp).drop 35).drop B.length,by rw[List.take_append_drop,List.take_append_drop],by rw[List.length_take,List.length_append]; omega,by rw[List.length_take,List.length_drop,List.length_append]; omega⟩
 have hZ:Z.length+35=sp.length:=by
   have:=congrArg List.length hXY
   simp only[List.length_append] at this
   omega
 refine zE 8 rfl (mB 0 lR w rfl rfl (cs:=B) (by rw[← e2]; exact BC.view (bB 0 w rfl)) (n1:=p0.length - p1.toNat) (m:=p0.length+1 - p1.toNat) (by rw[q3]; congr 1; omega) (by show (p1.toNat+1)*35+B.length≤(fl c p0 sp).length; rw[hfl]; omega) (A++(X0++(B++Z))) (by
 show eB (fl c p0 sp) ((p1.toNat+1)*35) B=_
 rw[q1,hXY,← List.append_assoc A,← List.append_assoc A]
 exact fX (A:=A++X0) (by rw[List.length_append,hX0,q2]; omega) hY) λK1=>⟨trivial, ?_⟩)
 refine zX (qk (f:=V1 77 _ _ _ _ _ _ _ _ _ _) K1 rfl ?_)
 repeat refine vs ?_
 refine v0 (bU (jQ (m:=p0.length+1) i0 (by omega) fH rfl rfl) ?_)
 refine ve λw=>mB 0 lR w rfl rfl (BC.sl (ys:=List.map c [x]) (by simp) _) (by simp[hxl]; omega) (by simp only[List.map_cons,List.map_nil,List.flatten_cons,List.flatten_nil,List.append_nil,List.length_append,q2,hX0,hxl]; omega) (fl c (p0.take p1.toNat++x::p0.drop p1.toNat) Z) (by
 simp only[List.map_cons,List.map_nil,List.flatten_cons,List.flatten_nil,List.append_nil]
 rw[q4 x Z]
 exact fX q2 (by rw[hX0,hxl])) λK1=>qk K1 rfl ?_
 repeat refine vs ?_
 refine v0 (v0 ?_)
 subst ho
 have hol:(List.take p1.toNat p0++x::List.drop p1.toNat p0).length=p0.length+1:=by simp; omega
 refine vr λw=>dW.one (.inl rfl) (bE w [0] rfl).2 (bF.of_eq (show AV.vw k _ cap=aw (some k) (p0.length+1) cap by rfl)) ⟨⟨some k,p0.length+1,cap,Z⟩,⟨hol.symm,nofun,by rw[hol]; show p0.length+1≤cap; omega,hmx,by rw[hol]; show (p0.length+1)*35+Z.length=cap*35; omega⟩,(bE w [0] rfl).1,rfl,rfl⟩
theorem ZM:aO Tryz.prog 117=true:=by kernel_rfl
open Go.Vm
def qA (m:Nat) (p0:List a8) (p1:a8) (q0:Int):Option (Lp (Int) ((List a8))):=
 after (if (decide (0 < q0))=true then ((ix p0 (IntKind.wrap .i64 (q0 - 1))).bind λx0=>if (decide (p1.Vol < x0.Vol))=true then (some (.brk true)) else (ix p0 (IntKind.wrap .i64 (q0 - 1))).bind λx1=>if (x1.Vol==p1.Vol)=true then ((ix p0 (IntKind.wrap .i64 (q0 - 1))).bind λx2=>if (decide (p1.File < x2.File))=true then (some (.brk true)) else (ix p0 (IntKind.wrap .i64 (q0 - 1))).bind λx3=>if (x3.File==p1.File)=true then ((ix p0 (IntKind.wrap .i64 (q0 - 1))).bind λx4=>some (.brk (decide (p1.Off < x4.Off)))) else some (.brk false)) else some (.brk false)) else some (.brk false):Option (Lp (Bool) (Lp (Int) ((List a8))))) λj0=>if j0=true then (some (.go (IntKind.wrap .i64 (q0 - 1)))) else some (.brk q0)
def v8 (m:Nat) (p0:List a8) (p1:a8):Option ((List a8)):=
 after (aU (λs=>qA m p0 p1 s) m (p0.length:Int)) λr0=>(pM p0 r0 (p1:a8)).bind λy0=>some y0
theorem M9 {w:Nat} {p0:List a8} {p1:a8} {o:(List a8)} (h:aE) {g_p0:cT} (ok_p0:bI g_p0 4 p0.length) (K0:bT h [fJ g_p0 p0]) (m:v8 w p0 p1=some o):
 aL Tryz.prog 176 [aZ g_p0,.agg (aN p1)] (hp h [fJ g_p0 p0]) (λr h'=>∃g:cT,bI g 4 o.length∧bT h [(g.t,.obj 81 (fl aN o g.sp))]∧r=aZ g∧h'=hp h [(g.t,.obj 81 (fl aN o g.sp))]):=by
 refine uE K0 72 [.tmp 4] Tryz.func176 rfl rfl rfl rfl ?_
 unfold v8 at m
 refine vs (v0 (gY rfl rfl λk2 K3=>vs (v0 (bU (dQ gO ok_p0 rfl) (vs (jY m (σ:=Int) (λs=> [(some k2,.obj 81 (aN p1)),fJ g_p0 p0]) (λs=>.c 0 (aZ g_p0) (.c 3 (.ptr k2 0) (.c 5 (nZ s) .nil))) (lx (.k3 .nil)) ?_ ?_))))))
 rintro _ q0 x m
 replace m:qA w p0 p1 q0=some x:=m
 unfold qA at m
 refine vs (vs (fN m (σ:=Bool) (λs=> [(some k2,.obj 81 (aN p1)),fJ g_p0 p0]) (λs=>.c 0 (aZ g_p0) (.c 3 (.ptr k2 0) (.c 5 (nZ q0) (.c 64 (.sc (.bool s)) .nil)))) (λx m=> ?_) ?_))
 refine v0 (wY (by kernel_rfl) ?_)
 apply vi m <;> intro b0 m
 rw[b0]
 obtain⟨x0,X0,m⟩:=aC m
 refine bU (cM X0 jR ok_p0 rfl rfl) (bU (cU (bI.ne ok_p0 X0) CO rfl rfl) (vn (λu=>dX (fo:=0) (nZ x0.Vol) X0 eU ok_p0 cF rfl (aJ 1 u rfl) (λ_=>rfl)) (dN CO rfl rfl (vl 0 _ cF rfl rfl rfl ?_))))
 apply vi m <;> intro b1 m
 rw[b1]
 exact iE m
 rw[b1]
 obtain⟨x1,X1,m⟩:=aC m
 refine bU (cM X1 jR ok_p0 rfl rfl) (bU (cU (bI.ne ok_p0 X1) CO rfl rfl) (vn (λu=>dX (fo:=0) (nZ x1.Vol) X1 eU ok_p0 cF rfl (aJ 1 u rfl) (λ_=>rfl)) (dN CO rfl rfl (vl 0 _ cF rfl rfl rfl ?_))))
 apply vi m <;> intro b2 m
 rw[b2]
 obtain⟨x2,X2,m⟩:=aC m
 refine bU (cM X2 jR ok_p0 rfl rfl) (bU (cU (bI.ne ok_p0 X2) CP rfl rfl) (vn (λu=>dX (fo:=1) (nZ x2.File) X2 eU ok_p0 cF rfl (aJ 1 u rfl) (λ_=>rfl)) (dN CP rfl rfl (vl 0 _ cF rfl rfl rfl ?_))))
 apply vi m <;> intro b3 m
 rw[b3]
 exact iE m
 rw[b3]
 obtain⟨x3,X3,m⟩:=aC m
 refine bU (cM X3 jR ok_p0 rfl rfl) (bU (cU (bI.ne ok_p0 X3) CP rfl rfl) (vn (λu=>dX (fo:=1) (nZ x3.File) X3 eU ok_p0 cF rfl (aJ 1 u rfl) (λ_=>rfl)) (dN CP rfl rfl (vl 0 _ cF rfl rfl rfl ?_))))
 apply vi m <;> intro b4 m
 rw[b4]
 obtain⟨x4,X4,m⟩:=aC m
 exact bU (cM X4 jR ok_p0 rfl rfl) (bU (cU (bI.ne ok_p0 X4) L4 rfl rfl) (vn (λu=>dX (fo:=2) (nZ x4.Off) X4 eU ok_p0 cF rfl (aJ 1 u rfl) (λ_=>rfl)) (dN L4 rfl rfl (vl 0 _ cF rfl rfl rfl (iE m)))))
 rw[b4]
 exact iE m
 rw[b2]
 exact iE m
 rw[b0]
 exact iE m
 rintro _ j0 m
 refine v0 ?_
 apply vi m <;> intro c0 m
 exact v0 (v0 (v0 (gU m)))
 exact v0 (EE m)
 rintro _ r0 m
 refine vs (v0 (vl 0 (.agg (aN p1)) l8 rfl rfl rfl (bU (eK (List.map aN ([p1]:List a8)) pJ rfl rfl rfl rfl) ?_)))
 obtain⟨y0,Y0,m⟩:=aC m
 refine ve λu=> ?_
 have ho0:=mD (A:= [fJ g_p0 p0]) (R:= [(some k2,.obj 81 (aN p1))]) u [[_], [_]] rfl [1] [0] rfl rfl rfl
 refine dB ho0.1 (cK (aFB eU _ ok_p0 ho0.2.2 Y0) rfl ZK rfl ?_)
 rintro x h' ⟨ag0,O0,K1,rfl,rfl⟩
 have K2:=mE (L':= [(some k2,.obj 81 (aN p1)),fJ ag0 y0]) ho0.2.1 K1 [[_]] [[_]] rfl rfl [1,0] rfl rfl
 refine qk K2.2 K2.1 (v0 ?_)
 obtain rfl:=eT m
 exact vr λu=>dW.one (.inl rfl) (aT (h0:=h) (L':= [fJ ag0 y0]) (.cons _ (.refl _)) u).1 (bF.refl _ _) ⟨ag0,O0,(aT (h0:=h) (L':= [fJ ag0 y0]) (.cons _ (.refl _)) u).2,rfl,rfl⟩
theorem NA:aO Tryz.prog 176=true:=by kernel_rfl
open Go.Vm
def HB (m:Nat) (p0:aA) (p1:aS) (p2:a8):Option (Int×Int×A7):=
 after (if (p1.Kind==1)=true then ((wQ m p0.Chunks p1.Id).bind λy0=>if (!y0.2)=true then (some (.ret (8,p0.Seq,p0.Snaps,p0.Chunks,p0.Exps))) else (ix p0.Chunks y0.1).bind λx2=>(v8 m x2.Locs p2).bind λy1=>(ix p0.Chunks y0.1).bind λx3=>some (.brk (p0.Seq,p0.Snaps,p0.Chunks.set y0.1.toNat ({ x3 with Locs:=y1}),p0.Exps))) else after (if (p1.Kind==2)=true then ((p8 m p0.Snaps (λx0=>M5 m x0 p1)).bind λy2=>if (decide (y2 < 0))=true then (some (.ret (.ret (8,p0.Seq,p0.Snaps,p0.Chunks,p0.Exps)))) else (ix p0.Snaps y2).bind λx4=>(v8 m x4.Locs p2).bind λy3=>(ix p0.Snaps y2).bind λx5=>some (.brk (p0.Seq,p0.Snaps.set y2.toNat ({ x5 with Locs:=y3}),p0.Exps))) else after (if (p1.Kind==3)=true then ((M6 m p0.Exps p1.Seq (λx0 x1=>CY m x0 x1)).bind λy4=>after (if (!y4.2)=true then ((pM p0.Exps y4.1 (({ Seq:=p1.Seq,Of:=p1.Of,Locs:= []}:aQ):aQ)).bind λy5=>some (.brk ((max p0.Seq (IntKind.wrap .i64 (p1.Seq+1))),y5))) else some (.brk (p0.Seq,p0.Exps)):Option (Lp (Int×(List aQ)) (Lp (Int×(List aQ)) (Lp (Int×(List aH)×(List aQ)) (Lp (Int×A7) (Int×Int×A7)))))) λ⟨j0,j1⟩=>(ix j1 y4.1).bind λx6=>(v8 m x6.Locs p2).bind λy6=>(ix j1 y4.1).bind λx7=>some (.brk (j0,j1.set y4.1.toNat ({ x7 with Locs:=y6})))) else some (.brk (p0.Seq,p0.Exps)):Option (Lp (Int×(List aQ)) (Lp (Int×(List aH)×(List aQ)) (Lp (Int×A7) (Int×Int×A7))))) λ⟨j2,j3⟩=>some (.brk (j2,p0.Snaps,j3)):Option (Lp (Int×(List aH)×(List aQ)) (Lp (Int×A7) (Int×Int×A7)))) λ⟨j4,j5,j6⟩=>some (.brk (j4,j5,p0.Chunks,j6)):Option (Lp (Int×A7) (Int×Int×A7))) λ⟨j7,j8,j9,j10⟩=>some (0,j7,j8,j9,j10)
theorem aFE {w:Nat} {p0:aA} {p1:aS} {p2:a8} {o:Int×Int×A7} (h:aE) {p0K:cB} {gS:dH} (ok_Snaps:mF aH.Locs 4 4 gS (p0.Snaps:List aH)) {gC:dH} (oC:mF aB.Locs 35 4 gC (p0.Chunks:List aB)) {gE:dH} (oE:mF aQ.Locs 3 4 gE (p0.Exps:List aQ)) {gV:cT} (oV:bI gV 4 p0.Vols.length) (K0:bT h ([OC p0K p0.Seq gS.a gC.a gE.a gV,bM gS p0.Snaps,aW gC p0.Chunks,bQ gE p0.Exps,aM gV p0.Vols]++((bP gS p0.Snaps)++((a9 gC p0.Chunks)++(bR gE p0.Exps))))) (m:HB w p0 p1 p2=some o):
 aL Tryz.prog 123 [.ptr p0K 0,.agg (aY p1),.agg (aN p2)] (hp h ([OC p0K p0.Seq gS.a gC.a gE.a gV,bM gS p0.Snaps,aW gC p0.Chunks,bQ gE p0.Exps,aM gV p0.Vols]++((bP gS p0.Snaps)++((a9 gC p0.Chunks)++(bR gE p0.Exps))))) (λr h'=>∃g_Snaps':dH,mF aH.Locs 4 4 g_Snaps' (o.2.2.1:List aH)∧∃g_Chunks':dH,mF aB.Locs 35 4 g_Chunks' (o.2.2.2.1:List aB)∧∃g_Exps':dH,mF aQ.Locs 3 4 g_Exps' (o.2.2.2.2:List aQ)∧bT h ([OC p0K o.2.1 g_Snaps'.a g_Chunks'.a g_Exps'.a gV,bM g_Snaps' o.2.2.1,aW g_Chunks' o.2.2.2.1,bQ g_Exps' o.2.2.2.2,aM gV p0.Vols]++((bP g_Snaps' o.2.2.1)++((a9 g_Chunks' o.2.2.2.1)++(bR g_Exps' o.2.2.2.2))))∧r=nZ o.1∧h'=hp h ([OC p0K o.2.1 g_Snaps'.a g_Chunks'.a g_Exps'.a gV,bM g_Snaps' o.2.2.1,aW g_Chunks' o.2.2.2.1,bQ g_Exps' o.2.2.2.2,aM gV p0.Vols]++((bP g_Snaps' o.2.2.1)++((a9 g_Chunks' o.2.2.2.1)++(bR g_Exps' o.2.2.2.2))))):=by
 refine uE K0 129 [.tmp 6] Tryz.func123 rfl rfl rfl rfl ?_
 unfold HB at m
 refine vs (v0 (gY rfl rfl λk2 K3=>gY rfl rfl λk5 K6=>vs (vs (v0 (dN l4 rfl rfl (vl 1 _ cF rfl rfl rfl (v0 (vs (v0 (pO m (σ:=Int×A7) (τ:=dH×dH×dH) (λg s=>([(some k5,.obj 81 (aN p2)),(some k2,.obj 38 (aY p1)),OC p0K s.1 g.1.a g.2.1.a g.2.2.a gV,bM g.1 s.2.1,aW g.2.1 s.2.2.1,bQ g.2.2 s.2.2.2,aM gV p0.Vols]++((bP g.1 s.2.1)++((a9 g.2.1 s.2.2.1)++(bR g.2.2 s.2.2.2))))) (λg s=>mF aH.Locs 4 4 g.1 (s.2.1:List aH)∧mF aB.Locs 35 4 g.2.1 (s.2.2.1:List aB)∧mF aQ.Locs 3 4 g.2.2 (s.2.2.2:List aQ)) (λg s=>.nil) (λx m=> ?_) ?_))))))))))
 refine v0 ?_
 apply vi m <;> intro c0 m
 refine vs (v0 (wY (by kernel_rfl) (jM rfl (dN dR rfl rfl (vl 2 (aZ gC.a) eJ rfl rfl rfl (dN uV rfl rfl (vl 1 (.agg (bL p1.Id)) fW rfl rfl rfl ?_)))))))
 obtain⟨y0,Y0,m⟩:=aC m
 refine vn (λu=>bY (fG (.cons (Br.awN 4 cO eU E4 oC.k u rfl (UM [[_], [_], [_], [_], [_], [_], [_],_,_,_] rfl 8 rfl)) (.cons (Br.refl _ _) .nil)) rfl (P2 _ Y0)) rfl IA rfl) (vs (vs (v0 (v0 ?_))))
 apply vi m <;> intro c1 m
 refine vs (v0 (v0 (gM m λm=> ?_)))
 cases m
 exact vr λu=>dW.of1 (.inl rfl) (fT _ _ (.sc (.int _ _)) rfl) (tG (L':=([OC p0K p0.Seq gS.a gC.a gE.a gV,bM gS p0.Snaps,aW gC p0.Chunks,bQ gE p0.Exps,aM gV p0.Vols]++((bP gS p0.Snaps)++((a9 gC p0.Chunks)++(bR gE p0.Exps))))) u [[_], [_], [_], [_], [_], [_], [_],_,_,_] rfl [2,3,4,5,6,7,8,9] rfl rfl).2 (bF.refl _ _) ⟨gS,ok_Snaps,gC,oC,gE,oE,(tG (L':=([OC p0K p0.Seq gS.a gC.a gE.a gV,bM gS p0.Snaps,aW gC p0.Chunks,bQ gE p0.Exps,aM gV p0.Vols]++((bP gS p0.Snaps)++((a9 gC p0.Chunks)++(bR gE p0.Exps))))) u [[_], [_], [_], [_], [_], [_], [_],_,_,_] rfl [2,3,4,5,6,7,8,9] rfl rfl).1,rfl,rfl⟩
 refine v0 (v0 (vz [(1000000,some p0K,.obj 30 ([nZ p0.Seq,aZ gS.a,aZ gC.a,aZ gE.a,aZ gV])),(17,gC.a.t,.obj 44 (fl jI (zg (p0.Chunks:List aB) gC.gs) gC.a.sp)),(1000000,some k5,.obj 81 (aN p2))] mixed (λu=>⟨λ_=>aJ 2 u rfl,λ_=>aJ 4 u rfl,λ_=>aJ 0 u rfl,trivial⟩) λu=>zP 0 rfl rfl (zN 1 rfl rfl (zF 2 rfl dR rfl (zL 3 0 (aZ gC.a) rfl eJ rfl rfl rfl (zI 4 rfl rfl (zP 5 rfl rfl (zN 6 rfl rfl (zF 7 rfl dR rfl (zL 8 0 (aZ gC.a) rfl eJ rfl rfl rfl (zI 9 rfl rfl ?_)))))))))))
 obtain⟨x1,X0,m⟩:=aC m
 refine zC 10 rfl (cM (oC.k.ix X0) fH oC.k.z rfl rfl) (zC 11 rfl (cU (bI.ne oC.k.z (oC.k.ix X0)) iV rfl rfl) ?_)
 obtain⟨gv0,hg0,ga0,gn0⟩:=oC.gx X0
 refine wL 12 rfl (λ_ _ hi hB=>fB (dX (fo:=34) (awO aN 4 (gx gC.gs y0.1.toNat) x1.Locs) (oC.k.ix X0) iP oC.k.z eL rfl (fV.get 1 hi rfl (hB 17 (by kernel_rfl))) (λ_=>rfl)) (bF.of_eq (congrArg (λz=>awO aN 4 z x1.Locs) hg0))) (zL 13 2 (.agg (aN p2)) rfl l8 rfl rfl rfl ?_)
 obtain⟨y1,Y1,m⟩:=aC m
 refine zE 14 rfl ?_
 have ho0:=qO (R:=([(some k5,.obj 81 (aN p2)),(some k2,.obj 38 (aY p1)),OC p0K p0.Seq gS.a gC.a gE.a gV,bM gS p0.Snaps,aW gC p0.Chunks,bQ gE p0.Exps,aM gV p0.Vols]++((bP gS p0.Snaps)++((kM 81 aN ((nl aB.Locs (zg (p0.Chunks:List aB) gC.gs)).eraseIdx y0.1.toNat))++(bR gE p0.Exps))))) u [[_], [_], [_], [_], [_], [_], [_],_,_,_] rfl 8 rfl gn0 rfl
 have ho1:=cJ [(eF gv0 x1.Locs)] _ ho0.2
 refine dB (ho0.1.trans (cV h [(eF gv0 x1.Locs)] _).symm) (cK (M9 _ ga0 ho1.2 Y1) rfl NA rfl ?_)
 rintro x h' ⟨ag0,O0,K1,rfl,rfl⟩
 refine kW (cV h [fJ ag0 y1] _) (⟨⟨λ_=>aJ 3 (dI ho1.1 K1) rfl,λ_=>aJ 5 (dI ho1.1 K1) rfl,λ_=>aJ 1 (dI ho1.1 K1) rfl,trivial⟩, ?_⟩)
 obtain⟨x2,X1,m⟩:=aC m
 refine zC 15 rfl (cM (oC.k.ix X1) fH oC.k.z rfl rfl) (zC 16 rfl (cU (bI.ne oC.k.z (oC.k.ix X1)) iV rfl rfl) (zE 17 rfl (cI (fo:=34) (x':=(({ x2 with Locs:=y1}:aB),some ag0)) 5 (dI ho1.1 K1) (oC.k.ix X1) iP oC.k.z rfl rfl (bZ rfl) (cD (bW _ _ _) rfl) (cW.refl _ _) n5 rfl rfl ?_)))
 intro K2
 have O1:=oC.setL (x':=({ x2 with Locs:=y1}:aB)) X1 ag0 O0
 have hr0:=tF (L':=(eF ag0 y1)::(([(some k5,.obj 81 (aN p2)),(some k2,.obj 38 (aY p1)),OC p0K p0.Seq gS.a gC.a gE.a gV,bM gS p0.Snaps,(gC.a.t,.obj 44 (fl jI (((zg (p0.Chunks:List aB) gC.gs)).set y0.1.toNat (({ x2 with Locs:=y1}:aB),some ag0)) gC.a.sp)),bQ gE p0.Exps,aM gV p0.Vols]:HL)++((bP gS p0.Snaps)++((kM 81 aN ((nl aB.Locs (zg (p0.Chunks:List aB) gC.gs)).eraseIdx y0.1.toNat))++(bR gE p0.Exps))))) K2 [[_], [_], [_], [_], [_], [_], [_], [_],_,_,_] rfl [0,1,2,3,4,5,6,7,8,9,10] rfl rfl
 have hj0:=o0 (L':=([(some k5,.obj 81 (aN p2)),(some k2,.obj 38 (aY p1)),OC p0K p0.Seq gS.a ((⟨gC.a,gC.gs.set y0.1.toNat (some ag0)⟩:dH).a) gE.a gV,bM gS p0.Snaps,aW (⟨gC.a,gC.gs.set y0.1.toNat (some ag0)⟩:dH) (p0.Chunks.set y0.1.toNat ({ x2 with Locs:=y1})),bQ gE p0.Exps,aM gV p0.Vols]++((bP gS p0.Snaps)++((a9 (⟨gC.a,gC.gs.set y0.1.toNat (some ag0)⟩:dH) (p0.Chunks.set y0.1.toNat ({ x2 with Locs:=y1})))++(bR gE p0.Exps))))) [[_], [_], [_], [_], [_], [_], [_],_,_,_] rfl 8 (zs:=nl aB.Locs (zg (p0.Chunks:List aB) gC.gs)) (j:=y0.1.toNat) (aB.Locs ({ x2 with Locs:=y1}:aB),some ag0) (jP (oC.k.nlat X1)) rfl hr0.2 (by rw[← (oC.k.setL (x':=({ x2 with Locs:=y1}:aB)) X1 ag0 O0).2.2,(oC.k.setL (x':=({ x2 with Locs:=y1}:aB)) X1 ag0 O0).2.1]; rfl)
 refine kW (hr0.1.trans hj0.1) (⟨⟨λ_=>aJ 2 hj0.2 rfl,λe=>absurd e (by decide),λ_=>aJ 0 hj0.2 rfl,trivial⟩, ?_⟩)
 exact zX (qk (f:=wM 44 _ _ _ _ _ _ _ _ _ _ _ _ _ _ _ _ _ _) hj0.2 rfl (eW m (gS,(⟨gC.a,gC.gs.set y0.1.toNat (some ag0)⟩:dH),gE) ⟨ok_Snaps,O1,oE⟩ (lx .nil)))
 refine vs (v0 (pO m (σ:=Int×(List aH)×(List aQ)) (τ:=dH×dH) (λg s=>([(some k5,.obj 81 (aN p2)),(some k2,.obj 38 (aY p1)),OC p0K s.1 g.1.a gC.a g.2.a gV,bM g.1 s.2.1,aW gC p0.Chunks,bQ g.2 s.2.2,aM gV p0.Vols]++((bP g.1 s.2.1)++((a9 gC p0.Chunks)++(bR g.2 s.2.2))))) (λg s=>mF aH.Locs 4 4 g.1 (s.2.1:List aH)∧mF aQ.Locs 3 4 g.2 (s.2.2:List aQ)) (λg s=>.nil) (λx m=> ?_) ?_))
 refine v0 ?_
 apply vi m <;> intro c2 m
 refine vs (v0 (jM rfl (dN dV rfl rfl (vl 2 (aZ gS.a) fM rfl rfl rfl ?_))))
 obtain⟨y2,Y2,m⟩:=aC m
 refine ve λu=> ?_
 have ho2:=mD (A:= [bM gS p0.Snaps]) (R:=([(some k5,.obj 81 (aN p2)),(some k2,.obj 38 (aY p1)),OC p0K p0.Seq gS.a gC.a gE.a gV,aW gC p0.Chunks,bQ gE p0.Exps,aM gV p0.Vols]++((bP gS p0.Snaps)++((a9 gC p0.Chunks)++(bR gE p0.Exps))))) u [[_], [_], [_], [_], [_], [_], [_],_,_,_] rfl [3] [0,1,2,4,5,6,7,8,9] rfl rfl rfl
 refine dB ho2.1 (cK (ZB kU _ ok_Snaps.k.z ho2.2.2 ZC (λx0 o h0 hs ho=>ZD (p0:=x0.1) (og0:=x0.2) h0 (hs _ _ (bB 1 ho2.2.1 rfl)) ho) (M4 ok_Snaps.k.len Y2)) rfl EL rfl ?_)
 rintro x h' ⟨rfl,rfl⟩
 refine qk u ho2.1.symm (vs (vs (v0 (v0 ?_))))
 apply vi m <;> intro c3 m
 refine vs (v0 (v0 (gM m λm=>gM m λm=> ?_)))
 cases m
 exact vr λu=>dW.of1 (.inl rfl) (fT _ _ (.sc (.int _ _)) rfl) (tG (L':=([OC p0K p0.Seq gS.a gC.a gE.a gV,bM gS p0.Snaps,aW gC p0.Chunks,bQ gE p0.Exps,aM gV p0.Vols]++((bP gS p0.Snaps)++((a9 gC p0.Chunks)++(bR gE p0.Exps))))) u [[_], [_], [_], [_], [_], [_], [_],_,_,_] rfl [2,3,4,5,6,7,8,9] rfl rfl).2 (bF.refl _ _) ⟨gS,ok_Snaps,gC,oC,gE,oE,(tG (L':=([OC p0K p0.Seq gS.a gC.a gE.a gV,bM gS p0.Snaps,aW gC p0.Chunks,bQ gE p0.Exps,aM gV p0.Vols]++((bP gS p0.Snaps)++((a9 gC p0.Chunks)++(bR gE p0.Exps))))) u [[_], [_], [_], [_], [_], [_], [_],_,_,_] rfl [2,3,4,5,6,7,8,9] rfl rfl).1,rfl,rfl⟩
 refine v0 (v0 (vz [(1000000,some p0K,.obj 30 ([nZ p0.Seq,aZ gS.a,aZ gC.a,aZ gE.a,aZ gV])),(17,gS.a.t,.obj 60 (fl kT (zg (p0.Snaps:List aH) gS.gs) gS.a.sp)),(1000000,some k5,.obj 81 (aN p2))] mixed (λu=>⟨λ_=>aJ 2 u rfl,λ_=>aJ 3 u rfl,λ_=>aJ 0 u rfl,trivial⟩) λu=>zP 0 rfl rfl (zN 1 rfl rfl (zF 2 rfl dV rfl (zL 3 0 (aZ gS.a) rfl fM rfl rfl rfl (zI 4 rfl rfl (zP 5 rfl rfl (zN 6 rfl rfl (zF 7 rfl dV rfl (zL 8 0 (aZ gS.a) rfl fM rfl rfl rfl (zI 9 rfl rfl ?_)))))))))))
 obtain⟨x3,X2,m⟩:=aC m
 refine zC 10 rfl (cM (ok_Snaps.k.ix X2) iU ok_Snaps.k.z rfl rfl) (zC 11 rfl (cU (bI.ne ok_Snaps.k.z (ok_Snaps.k.ix X2)) jT rfl rfl) ?_)
 obtain⟨gv1,hg1,ga1,gn1⟩:=ok_Snaps.gx X2
 refine wL 12 rfl (λ_ _ hi hB=>fB (dX (fo:=3) (awO aN 4 (gx gS.gs y2.toNat) x3.Locs) (ok_Snaps.k.ix X2) kU ok_Snaps.k.z eL rfl (fV.get 1 hi rfl (hB 17 (by kernel_rfl))) (λ_=>rfl)) (bF.of_eq (congrArg (λz=>awO aN 4 z x3.Locs) hg1))) (zL 13 2 (.agg (aN p2)) rfl l8 rfl rfl rfl ?_)
 obtain⟨y3,Y3,m⟩:=aC m
 refine zE 14 rfl ?_
 have ho3:=qO (R:=([(some k5,.obj 81 (aN p2)),(some k2,.obj 38 (aY p1)),OC p0K p0.Seq gS.a gC.a gE.a gV,bM gS p0.Snaps,aW gC p0.Chunks,bQ gE p0.Exps,aM gV p0.Vols]++((kM 81 aN ((nl aH.Locs (zg (p0.Snaps:List aH) gS.gs)).eraseIdx y2.toNat))++((a9 gC p0.Chunks)++(bR gE p0.Exps))))) u [[_], [_], [_], [_], [_], [_], [_],_,_,_] rfl 7 rfl gn1 rfl
 have ho4:=cJ [(eF gv1 x3.Locs)] _ ho3.2
 refine dB (ho3.1.trans (cV h [(eF gv1 x3.Locs)] _).symm) (cK (M9 _ ga1 ho4.2 Y3) rfl NA rfl ?_)
 rintro x h' ⟨ag1,O2,K4,rfl,rfl⟩
 refine kW (cV h [fJ ag1 y3] _) (⟨⟨λ_=>aJ 3 (dI ho4.1 K4) rfl,λ_=>aJ 4 (dI ho4.1 K4) rfl,λ_=>aJ 1 (dI ho4.1 K4) rfl,trivial⟩, ?_⟩)
 obtain⟨x4,X3,m⟩:=aC m
 refine zC 15 rfl (cM (ok_Snaps.k.ix X3) iU ok_Snaps.k.z rfl rfl) (zC 16 rfl (cU (bI.ne ok_Snaps.k.z (ok_Snaps.k.ix X3)) jT rfl rfl) (zE 17 rfl (cI (fo:=3) (x':=(({ x4 with Locs:=y3}:aH),some ag1)) 4 (dI ho4.1 K4) (ok_Snaps.k.ix X3) kU ok_Snaps.k.z rfl rfl (bZ rfl) (cD (bW _ _ _) rfl) (cW.refl _ _) n5 rfl rfl ?_)))
 intro K5
 have O3:=ok_Snaps.setL (x':=({ x4 with Locs:=y3}:aH)) X3 ag1 O2
 have hr1:=tF (L':=(eF ag1 y3)::(([(some k5,.obj 81 (aN p2)),(some k2,.obj 38 (aY p1)),OC p0K p0.Seq gS.a gC.a gE.a gV,(gS.a.t,.obj 60 (fl kT (((zg (p0.Snaps:List aH) gS.gs)).set y2.toNat (({ x4 with Locs:=y3}:aH),some ag1)) gS.a.sp)),aW gC p0.Chunks,bQ gE p0.Exps,aM gV p0.Vols]:HL)++((kM 81 aN ((nl aH.Locs (zg (p0.Snaps:List aH) gS.gs)).eraseIdx y2.toNat))++((a9 gC p0.Chunks)++(bR gE p0.Exps))))) K5 [[_], [_], [_], [_], [_], [_], [_], [_],_,_,_] rfl [0,1,2,3,4,5,6,7,8,9,10] rfl rfl
 have hj1:=o0 (L':=([(some k5,.obj 81 (aN p2)),(some k2,.obj 38 (aY p1)),OC p0K p0.Seq ((⟨gS.a,gS.gs.set y2.toNat (some ag1)⟩:dH).a) gC.a gE.a gV,bM (⟨gS.a,gS.gs.set y2.toNat (some ag1)⟩:dH) (p0.Snaps.set y2.toNat ({ x4 with Locs:=y3})),aW gC p0.Chunks,bQ gE p0.Exps,aM gV p0.Vols]++((bP (⟨gS.a,gS.gs.set y2.toNat (some ag1)⟩:dH) (p0.Snaps.set y2.toNat ({ x4 with Locs:=y3})))++((a9 gC p0.Chunks)++(bR gE p0.Exps))))) [[_], [_], [_], [_], [_], [_], [_],_,_,_] rfl 7 (zs:=nl aH.Locs (zg (p0.Snaps:List aH) gS.gs)) (j:=y2.toNat) (aH.Locs ({ x4 with Locs:=y3}:aH),some ag1) (jP (ok_Snaps.k.nlat X3)) rfl hr1.2 (by rw[← (ok_Snaps.k.setL (x':=({ x4 with Locs:=y3}:aH)) X3 ag1 O2).2.2,(ok_Snaps.k.setL (x':=({ x4 with Locs:=y3}:aH)) X3 ag1 O2).2.1]; rfl)
 refine kW (hr1.1.trans hj1.1) (⟨⟨λ_=>aJ 2 hj1.2 rfl,λe=>absurd e (by decide),λ_=>aJ 0 hj1.2 rfl,trivial⟩, ?_⟩)
 exact zX (qk (f:=wM 71 _ _ _ _ _ _ _ _ _ _ _ _ _ _ _ _ _ _) hj1.2 rfl (eW m ((⟨gS.a,gS.gs.set y2.toNat (some ag1)⟩:dH),gE) ⟨O3,oE⟩ (lx .nil)))
 refine vs (v0 (pO m (σ:=Int×(List aQ)) (τ:=dH) (λg s=>([(some k5,.obj 81 (aN p2)),(some k2,.obj 38 (aY p1)),OC p0K s.1 gS.a gC.a g.a gV,bM gS p0.Snaps,aW gC p0.Chunks,bQ g s.2,aM gV p0.Vols]++((bP gS p0.Snaps)++((a9 gC p0.Chunks)++(bR g s.2))))) (λg s=>mF aQ.Locs 3 4 g (s.2:List aQ)) (λg s=>.nil) (λx m=> ?_) ?_))
 refine v0 ?_
 apply vi m <;> intro c4 m
 refine vs (v0 (wY (by kernel_rfl) (jM rfl (dN e8 rfl rfl (vl 2 (aZ gE.a) jG rfl rfl rfl (dN lD rfl rfl (vl 1 _ cF rfl rfl rfl ?_)))))))
 obtain⟨y4,Y4,m⟩:=aC m
 refine vn (λu=>bY (fG (.cons (Br.awN 5 fL eU UP oE.k u rfl (UM [[_], [_], [_], [_], [_], [_], [_],_,_,_] rfl 9 rfl)) (.cons (Br.refl _ _) (.cons (Br.refl _ _) .nil))) rfl (aE4 _ ZE (λx0 _ o h0 hs ho=>aE3 _ ho) Y4)) rfl ZF rfl) (vs (vs (v0 (pO m (σ:=Int×(List aQ)) (τ:=dH) (λg s=>([(some k5,.obj 81 (aN p2)),(some k2,.obj 38 (aY p1)),OC p0K s.1 gS.a gC.a g.a gV,bM gS p0.Snaps,aW gC p0.Chunks,bQ g s.2,aM gV p0.Vols]++((bP gS p0.Snaps)++((a9 gC p0.Chunks)++(bR g s.2))))) (λg s=>mF aQ.Locs 3 4 g (s.2:List aQ)) (λg s=>.c 0 (.ptr p0K 0) (.c 5 (.ptr k5 0) (.c 10 (nZ y4.1) .nil))) (λx m=> ?_) ?_))))
 refine v0 ?_
 apply vi m <;> intro c5 m
 refine vs (v0 (vz [(15,some p0K,.obj 30 ([nZ p0.Seq,aZ gS.a,aZ gC.a,aZ gE.a,aZ gV])),(1000000,some k2,.obj 38 (aY p1))] mixed (λu=>⟨λ_=>aJ 2 u rfl,λ_=>aJ 1 u rfl,trivial⟩) λu=>zP 0 rfl rfl (zP 1 rfl rfl (zN 2 rfl rfl (zF 3 rfl e8 rfl (zL 4 0 (aZ gE.a) rfl jG rfl rfl rfl (zI 5 rfl rfl (zF 6 rfl lD rfl (zL 7 1 (nZ p1.Seq) rfl cF rfl rfl rfl (zF 8 rfl uW rfl (zL 9 1 (nZ p1.Of) rfl cF rfl rfl rfl (zC 10 rfl (fB (y:=.agg (lJ ((({ Seq:=p1.Seq,Of:=p1.Of,Locs:= []}:aQ):aQ),some g0))) (eS ([nZ p1.Seq,nZ p1.Of,sZ]) W8 rfl) (bF.agg (.k2 (.cons (f9 _) .nil)))) (zC 11 rfl (eK (List.map lJ [((({ Seq:=p1.Seq,Of:=p1.Of,Locs:= []}:aQ):aQ),some g0)]) pH rfl rfl rfl rfl) ?_)))))))))))))
 obtain⟨y5,Y5,m⟩:=aC m
 refine zE 12 rfl ?_
 have ho5:=mD (A:= [bQ gE p0.Exps]) (R:=([(some k5,.obj 81 (aN p2)),(some k2,.obj 38 (aY p1)),OC p0K p0.Seq gS.a gC.a gE.a gV,bM gS p0.Snaps,aW gC p0.Chunks,aM gV p0.Vols]++((bP gS p0.Snaps)++((a9 gC p0.Chunks)++(bR gE p0.Exps))))) u [[_], [_], [_], [_], [_], [_], [_],_,_,_] rfl [5] [0,1,2,3,4,6,7,8,9] rfl rfl rfl
 refine dB ho5.1 (cK (aFC o6 _ oE.k.z ho5.2.2 (QE oE.k.len (some g0) Y5)) rfl ZL rfl ?_)
 rintro x h' ⟨ag2,O4,K7,rfl,rfl⟩
 have K8:=mE (L':=([(some k5,.obj 81 (aN p2)),(some k2,.obj 38 (aY p1)),(hO p0K p0.Seq gS.a gC.a gE.a gV),bM gS p0.Snaps,aW gC p0.Chunks,bQ (⟨ag2,lT gE.gs y4.1.toNat (some g0)⟩:dH) y5,aM gV p0.Vols]++((bP gS p0.Snaps)++((a9 gC p0.Chunks)++(bR gE p0.Exps))))) ho5.2.1 K7 [[_]] [[_], [_], [_], [_], [_], [_],_,_,_] rfl rfl [1,2,3,4,5,0,6,7,8,9] rfl rfl
 have K9:=QF (L':=([(some k5,.obj 81 (aN p2)),(some k2,.obj 38 (aY p1)),(hO p0K p0.Seq gS.a gC.a gE.a gV),bM gS p0.Snaps,aW gC p0.Chunks,bQ (⟨ag2,lT gE.gs y4.1.toNat (some g0)⟩:dH) y5,aM gV p0.Vols]++((bP gS p0.Snaps)++((a9 gC p0.Chunks)++(bR (⟨ag2,lT gE.gs y4.1.toNat (some g0)⟩:dH) y5))))) K8.2 [[_], [_], [_], [_], [_], [_], [_],_,_,_] rfl 9 oE.k.len (og:=some g0) rfl Y5 rfl rfl
 refine kW (K8.1.trans K9.1) (⟨⟨λ_=>aJ 2 K9.2 rfl,λ_=>aJ 1 K9.2 rfl,trivial⟩, ?_⟩)
 refine zN 13 rfl rfl (zF 14 rfl e8 rfl (zE 15 rfl (aK 2 ([nZ p0.Seq,aZ gS.a,aZ gC.a,aw (⟨ag2,lT gE.gs y4.1.toNat (some g0)⟩:dH).a.t (⟨ag2,lT gE.gs y4.1.toNat (some g0)⟩:dH).a.n (⟨ag2,lT gE.gs y4.1.toNat (some g0)⟩:dH).a.cap,aZ gV]) K9.2 rfl rfl (bZ rfl) (cD (bW _ _ _) rfl) JP rfl rfl λK10=>⟨⟨λe=>absurd e (by decide),λ_=>aJ 1 K10 rfl,trivial⟩, ?_⟩)))
 refine zX (qk (f:=aCS 100 _ _ _ _ _ _ _ _ _ _ _ _ _ _ _ _) K10 rfl (v0 (vz [(11,some p0K,.obj 30 ([nZ p0.Seq,aZ gS.a,aZ gC.a,aw (⟨ag2,lT gE.gs y4.1.toNat (some g0)⟩:dH).a.t (⟨ag2,lT gE.gs y4.1.toNat (some g0)⟩:dH).a.n (⟨ag2,lT gE.gs y4.1.toNat (some g0)⟩:dH).a.cap,aZ gV])),(1000000,some k2,.obj 38 (aY p1))] mixed (λu=>⟨λ_=>aJ 2 u rfl,λ_=>aJ 1 u rfl,trivial⟩) λu=>zP 0 rfl rfl (zP 1 rfl rfl (zN 2 rfl rfl (zF 3 rfl nS rfl (zL 4 0 (nZ p0.Seq) rfl cF rfl rfl rfl (zF 5 rfl lD rfl (zL 6 1 (nZ p1.Seq) rfl cF rfl rfl rfl (zC 7 rfl (lQ rfl rfl rfl trivial) (zC 8 rfl (WP rfl rfl) (zN 9 rfl rfl (zF 10 rfl nS rfl (zE 11 rfl (aK 2 ([nZ (max p0.Seq (IntKind.wrap .i64 (p1.Seq+1))),aZ gS.a,aZ gC.a,aw (⟨ag2,lT gE.gs y4.1.toNat (some g0)⟩:dH).a.t (⟨ag2,lT gE.gs y4.1.toNat (some g0)⟩:dH).a.n (⟨ag2,lT gE.gs y4.1.toNat (some g0)⟩:dH).a.cap,aZ gV]) u rfl rfl rfl rfl zT rfl rfl λK11=>⟨⟨λe=>absurd e (by decide),λ_=>aJ 1 K11 rfl,trivial⟩, ?_⟩)))))))))))))))
 exact zX (qk (f:=S5 111 _ _ _ _ _ _ _ _ _ _ _ _) K11 rfl (eW m (⟨ag2,lT gE.gs y4.1.toNat (some g0)⟩:dH) (oE.ins Y5 rfl O4) (lx (.k3 .nil))))
 exact v0 (eW m gE oE (lx (.k3 .nil)))
 rintro ng0 ⟨j0,j1⟩ O5 m
 refine v0 (vz [(1000000,some p0K,.obj 30 ([nZ j0,aZ gS.a,aZ gC.a,aZ ng0.a,aZ gV])),(17,ng0.a.t,.obj 99 (fl lJ (zg (j1:List aQ) ng0.gs) ng0.a.sp)),(1000000,some k5,.obj 81 (aN p2))] mixed (λu=>⟨λ_=>aJ 2 u rfl,λ_=>aJ 5 u rfl,λ_=>aJ 0 u rfl,trivial⟩) λu=>zP 0 rfl rfl (zN 1 rfl rfl (zF 2 rfl e8 rfl (zL 3 0 (aZ ng0.a) rfl jG rfl rfl rfl (zI 4 rfl rfl (zP 5 rfl rfl (zN 6 rfl rfl (zF 7 rfl e8 rfl (zL 8 0 (aZ ng0.a) rfl jG rfl rfl rfl (zI 9 rfl rfl ?_))))))))))
 obtain⟨x5,X4,m⟩:=aC m
 refine zC 10 rfl (cM (O5.k.ix X4) iM O5.k.z rfl rfl) (zC 11 rfl (cU (bI.ne O5.k.z (O5.k.ix X4)) lF rfl rfl) ?_)
 obtain⟨gv2,hg2,ga2,gn2⟩:=O5.gx X4
 refine wL 12 rfl (λ_ _ hi hB=>fB (dX (fo:=2) (awO aN 4 (gx ng0.gs y4.1.toNat) x5.Locs) (O5.k.ix X4) o6 O5.k.z eL rfl (fV.get 1 hi rfl (hB 17 (by kernel_rfl))) (λ_=>rfl)) (bF.of_eq (congrArg (λz=>awO aN 4 z x5.Locs) hg2))) (zL 13 2 (.agg (aN p2)) rfl l8 rfl rfl rfl ?_)
 obtain⟨y6,Y6,m⟩:=aC m
 refine zE 14 rfl ?_
 have ho6:=qO (R:=([(some k5,.obj 81 (aN p2)),(some k2,.obj 38 (aY p1)),OC p0K j0 gS.a gC.a ng0.a gV,bM gS p0.Snaps,aW gC p0.Chunks,bQ ng0 j1,aM gV p0.Vols]++((bP gS p0.Snaps)++((a9 gC p0.Chunks)++(kM 81 aN ((nl aQ.Locs (zg (j1:List aQ) ng0.gs)).eraseIdx y4.1.toNat)))))) u [[_], [_], [_], [_], [_], [_], [_],_,_,_] rfl 9 rfl gn2 rfl
 have ho7:=cJ [(eF gv2 x5.Locs)] _ ho6.2
 refine dB (ho6.1.trans (cV h [(eF gv2 x5.Locs)] _).symm) (cK (M9 _ ga2 ho7.2 Y6) rfl NA rfl ?_)
 rintro x h' ⟨ag3,O6,K12,rfl,rfl⟩
 refine kW (cV h [fJ ag3 y6] _) (⟨⟨λ_=>aJ 3 (dI ho7.1 K12) rfl,λ_=>aJ 6 (dI ho7.1 K12) rfl,λ_=>aJ 1 (dI ho7.1 K12) rfl,trivial⟩, ?_⟩)
 obtain⟨x6,X5,m⟩:=aC m
 refine zC 15 rfl (cM (O5.k.ix X5) iM O5.k.z rfl rfl) (zC 16 rfl (cU (bI.ne O5.k.z (O5.k.ix X5)) lF rfl rfl) (zE 17 rfl (cI (fo:=2) (x':=(({ x6 with Locs:=y6}:aQ),some ag3)) 6 (dI ho7.1 K12) (O5.k.ix X5) o6 O5.k.z rfl rfl (bZ rfl) (cD (bW _ _ _) rfl) (cW.refl _ _) n5 rfl rfl ?_)))
 intro K13
 have O7:=O5.setL (x':=({ x6 with Locs:=y6}:aQ)) X5 ag3 O6
 have hr2:=tF (L':=(eF ag3 y6)::(([(some k5,.obj 81 (aN p2)),(some k2,.obj 38 (aY p1)),OC p0K j0 gS.a gC.a ng0.a gV,bM gS p0.Snaps,aW gC p0.Chunks,(ng0.a.t,.obj 99 (fl lJ (((zg (j1:List aQ) ng0.gs)).set y4.1.toNat (({ x6 with Locs:=y6}:aQ),some ag3)) ng0.a.sp)),aM gV p0.Vols]:HL)++((bP gS p0.Snaps)++((a9 gC p0.Chunks)++(kM 81 aN ((nl aQ.Locs (zg (j1:List aQ) ng0.gs)).eraseIdx y4.1.toNat)))))) K13 [[_], [_], [_], [_], [_], [_], [_], [_],_,_,_] rfl [0,1,2,3,4,5,6,7,8,9,10] rfl rfl
 have hj2:=o0 (L':=([(some k5,.obj 81 (aN p2)),(some k2,.obj 38 (aY p1)),OC p0K j0 gS.a gC.a ((⟨ng0.a,ng0.gs.set y4.1.toNat (some ag3)⟩:dH).a) gV,bM gS p0.Snaps,aW gC p0.Chunks,bQ (⟨ng0.a,ng0.gs.set y4.1.toNat (some ag3)⟩:dH) (j1.set y4.1.toNat ({ x6 with Locs:=y6})),aM gV p0.Vols]++((bP gS p0.Snaps)++((a9 gC p0.Chunks)++(bR (⟨ng0.a,ng0.gs.set y4.1.toNat (some ag3)⟩:dH) (j1.set y4.1.toNat ({ x6 with Locs:=y6}))))))) [[_], [_], [_], [_], [_], [_], [_],_,_,_] rfl 9 (zs:=nl aQ.Locs (zg (j1:List aQ) ng0.gs)) (j:=y4.1.toNat) (aQ.Locs ({ x6 with Locs:=y6}:aQ),some ag3) (jP (O5.k.nlat X5)) rfl hr2.2 (by rw[← (O5.k.setL (x':=({ x6 with Locs:=y6}:aQ)) X5 ag3 O6).2.2,(O5.k.setL (x':=({ x6 with Locs:=y6}:aQ)) X5 ag3 O6).2.1]; rfl)
 refine kW (hr2.1.trans hj2.1) (⟨⟨λ_=>aJ 2 hj2.2 rfl,λe=>absurd e (by decide),λ_=>aJ 0 hj2.2 rfl,trivial⟩, ?_⟩)
 exact zX (qk (f:=wM 128 _ _ _ _ _ _ _ _ _ _ _ _ _ _ _ _ _ _) hj2.2 rfl (eW m (⟨ng0.a,ng0.gs.set y4.1.toNat (some ag3)⟩:dH) O7 (lx .nil)))
 exact v0 (eW m gE oE (lx .nil))
 rintro ng1 ⟨j2,j3⟩ O8 m
 exact eW m (gS,ng1) ⟨ok_Snaps,O8⟩ (lx .nil)
 rintro⟨ng2,ng3⟩ ⟨j4,j5,j6⟩ ⟨O9,O10⟩ m
 exact eW m (ng2,gC,ng3) ⟨O9,oC,O10⟩ (lx .nil)
 rintro⟨ng4,ng5,ng6⟩ ⟨j7,j8,j9,j10⟩ ⟨O11,O12,O13⟩ m
 refine vs (v0 (v0 ?_))
 cases m
 exact vr λu=>dW.of1 (.inl rfl) (fT _ _ (.sc (.int _ _)) rfl) (tG (L':=([OC p0K j7 ng4.a ng5.a ng6.a gV,bM ng4 j8,aW ng5 j9,bQ ng6 j10,aM gV p0.Vols]++((bP ng4 j8)++((a9 ng5 j9)++(bR ng6 j10))))) u [[_], [_], [_], [_], [_], [_], [_],_,_,_] rfl [2,3,4,5,6,7,8,9] rfl rfl).2 (bF.refl _ _) ⟨ng4,O11,ng5,O12,ng6,O13,(tG (L':=([OC p0K j7 ng4.a ng5.a ng6.a gV,bM ng4 j8,aW ng5 j9,bQ ng6 j10,aM gV p0.Vols]++((bP ng4 j8)++((a9 ng5 j9)++(bR ng6 j10))))) u [[_], [_], [_], [_], [_], [_], [_],_,_,_] rfl [2,3,4,5,6,7,8,9] rfl rfl).1,rfl,rfl⟩
theorem ZN:aO Tryz.prog 123=true:=by kernel_rfl
open Go.Vm
def J7 (m:Nat) (p0:aS):Option (Bool):=
 after (if (decide (p0.Kind < 1))=true then (some (.brk true)) else some (.brk (decide (3 < p0.Kind))):Option (Lp (Bool) (Bool))) λj7=>some j7
theorem aFF {u:Nat} {p0:aS} {o:Bool} (h:aE) (m:J7 u p0=some o):
 aL Tryz.prog 122 [.agg (aY p0)] h (λr h'=>r= .sc (.bool o)∧h'=h):=by
 refine f8 11 [.tmp 2] Tryz.func122 rfl rfl rfl rfl ?_
 unfold J7 at m
 refine v (gY rfl rfl λk2 K3=>vs (fN m (σ:=Bool) (λs=> [(some k2,.obj 38 (aY p0))]) (λs=>.c 2 (.sc (.bool s)) .nil) (λx m=> ?_) ?_))
 refine v (vl 0 _ cF rfl rfl rfl ?_)
 apply vi m <;> intro b8 m
 rw[b8]
 exact iX m
 rw[b8]
 exact vl 0 _ cF rfl rfl rfl (iX m)
 rintro _ j7 m
 refine v ?_
 obtain rfl:=eT m
 exact eD rfl
theorem ZO:aO Tryz.prog 122=true:=by kernel_rfl
def tJ (m:Nat) (p0:List aS) (p1:aS→Option Bool) (q0:Int):Option (Lp (Int) (Int)):=
 if (decide (q0 < (p0.length:Int)))=true then ((ix p0 q0).bind λx0=>(p1 x0).bind λy0=>if y0=true then (some (.ret q0)) else some (.go (IntKind.wrap .i64 (q0+1)))) else some (.brk q0)
def NB (m:Nat) (p0:List aS) (p1:aS→Option Bool):Option (Int):=
 after (aU (λs=>tJ m p0 p1 s) m 0) λr0=>some (-1)
theorem aFG {w:Nat} {p0:List aS} {p1:aS→Option Bool} {o:Int} (h:aE) {p1F:Nat} {p1C:List AV} (p1B:aO Tryz.prog p1F=true) (p1H:∀x0 o h0,iD h h0→p1 x0=some o→aL Tryz.prog p1F ([.agg (aY x0)]++p1C) h0 (λr h'=>r= .sc (.bool o)∧h'=h0)) (m:NB w p0 p1=some o):
 aL Tryz.prog 175 [.sl none 37 (List.map aY p0),.fn (.func p1F) p1C] h (λr h'=>r=nZ o∧h'=h):=by
 refine f8 19 [.tmp 4] Tryz.func175 rfl rfl rfl rfl ?_
 unfold NB at m
 refine v (v (dE pI rfl (jY m (σ:=Int) (λs=> []) (λs=>.c 0 (.sl none 37 (List.map aY p0)) (.c 1 (.fn (.func p1F) p1C) (.c 7 (nZ (p0.length:Int)) (.c 8 (nZ s) .nil)))) (lx (.k4 .nil)) ?_ ?_)))
 rintro _ q0 x m
 replace m:tJ w p0 p1 q0=some x:=m
 unfold tJ at m
 refine v (v ?_)
 apply vi m <;> intro c0 m
 refine v (v (v (v (vx m wO rfl rfl λx1 _ m=>va (.agg (aY x1)) GK rfl rfl ?_))))
 obtain⟨_,Y0,m⟩:=aC m
 refine vn (λu=>bY (p1H _ _ _ (aT (List.nil_sublist _) u).1 Y0) rfl p1B rfl) (v ?_)
 apply vi m <;> intro c1 m
 refine v (v (gM m λm=> ?_))
 obtain rfl:=eT m
 exact eD rfl
 exact v (v (iE m))
 exact v (wW m)
 rintro _ r0 m
 refine v (v ?_)
 cases m
 exact eD rfl
theorem ZP:aO Tryz.prog 175=true:=by kernel_rfl
def J8 (m:Nat) (p0:List aS) (p1:aS→Option Bool):Option (Bool):=
 (NB m p0 p1).bind λy3=>some (decide (0≤y3))
theorem ZQ {w:Nat} {p0:List aS} {p1:aS→Option Bool} {o:Bool} (h:aE) {p1F:Nat} {p1C:List AV} (p1B:aO Tryz.prog p1F=true) (p1H:∀x0 o h0,iD h h0→p1 x0=some o→aL Tryz.prog p1F ([.agg (aY x0)]++p1C) h0 (λr h'=>r= .sc (.bool o)∧h'=h0)) (m:J8 w p0 p1=some o):
 aL Tryz.prog 121 [.sl none 37 (List.map aY p0),.fn (.func p1F) p1C] h (λr h'=>r= .sc (.bool o)∧h'=h):=by
 refine f8 9 [.tmp 4] Tryz.func121 rfl rfl rfl rfl ?_
 unfold J8 at m
 refine v (v ?_)
 obtain⟨_,Y4,m⟩:=aC m
 refine vn (λu=>bY (aFG _ p1B (λx0 o h0 hs ho=>p1H x0 o h0 ((aT (List.nil_sublist _) u).1.trans hs) ho) Y4) rfl ZP rfl) (v ?_)
 cases m
 exact eD rfl
theorem R9:aO Tryz.prog 121=true:=by kernel_rfl
def QH (m:Nat) (p0:aH) (c0:List Int):Option (Bool):=
 some ((c0:List Int).any λz=>p0.Seq==z)
theorem aFH {w:Nat} {p0:aH} {c0:List Int} {o:Bool} (h:aE) {c0K c0M:cB} (c0H:h c0K=some (.obj 161 [.mpv c0M])) (c0G:h c0M=some (.mp (gN kI (c0:List Int)))) (m:QH w p0 c0=some o):
 aL Tryz.prog 125 [.agg (bS p0),.ptr c0K 0] h (λr h'=>r= .sc (.bool o)∧h'=h):=by
 refine f8 8 [.tmp 3] Tryz.func125 rfl rfl rfl rfl ?_
 unfold QH at m
 refine v (gY rfl rfl λk2 K3=>v (vn (λu=>pE (.mpv c0M) RM rfl (kP u c0H) rfl) (vl 0 _ cF rfl rfl rfl (vn (λu=>F2 RN zb4 (xU.int u3) rfl rfl (kP u c0G)) (v ?_)))))
 cases m
 exact eD rfl
theorem ZR:aO Tryz.prog 125=true:=by kernel_rfl
def oD (m:Nat) (p1:aH→Option Bool) (q0:List aH) (q1:Int) (q2:Int):Option (Lp ((List aH)×Int×Int) ((List aH))):=
 if (decide (q2 < (q0.length:Int)))=true then ((ix q0 q2).bind λx0=>(p1 x0).bind λy0=>after (if (!y0)=true then ((ix q0 q1).bind λ_=>some (.brk (q0.set q1.toNat (x0),IntKind.wrap .i64 (q1+1)))) else some (.brk (q0,q1)):Option (Lp ((List aH)×Int) (Lp ((List aH)×Int×Int) ((List aH))))) λ⟨j0,j1⟩=>some (.go (j0,j1,IntKind.wrap .i64 (q2+1)))) else some (.brk (q0,q1,q2))
def E6 (m:Nat) (p0:List aH) (p1:aH→Option Bool):Option ((List aH)):=
 (BD m p0 p1).bind λy3=>if (y3==(-1))=true then (some p0) else after (aU (λs=>oD m p1 s.1 s.2.1 s.2.2) m (p0,y3,IntKind.wrap .i64 (y3+1))) λ⟨r0,r1,r2⟩=>grd (decide (0≤r1) && decide (r1 < (r0.length:Int))) <| grd (decide (0≤r1) && decide (r1≤(r0.length:Int))) <| some (r0.take r1.toNat)
theorem ZS {w:Nat} {p0:List aH} {p1:aH→Option Bool} {o:(List aH)} (h:aE) {g_p0:cT} (ok_p0:bI g_p0 4 p0.length) (K0:bT h [(dO g_p0 p0)]) {p1F:Nat} {p1C:List AV} (p1B:aO Tryz.prog p1F=true) (p1H:∀x0 o h0,iD h h0→p1 x0=some o→aL Tryz.prog p1F ([.agg (bS x0)]++p1C) h0 (λr h'=>r= .sc (.bool o)∧h'=h0)) (m:E6 w p0 p1=some o):
 aL Tryz.prog 124 [aZ g_p0,.fn (.func p1F) p1C] (hp h [(dO g_p0 p0)]) (λr h'=>∃g:cT,bI g 4 o.length∧bT h [(g.t,.obj 60 (fl bS o g.sp))]∧r=aZ g∧h'=hp h [(g.t,.obj 60 (fl bS o g.sp))]):=by
 refine uE K0 42 [.tmp 4] Tryz.func124 rfl rfl rfl rfl ?_
 unfold E6 at m
 refine vs (v0 (vs (v0 ?_)))
 obtain⟨_,Y4,m⟩:=aC m
 refine ve λu=>dB ((bC u [0] rfl rfl).1.trans (cV h [(dO g_p0 p0)] []).symm) (cK (R7 (hp h []) ok_p0 (cJ [(dO g_p0 p0)] [] (bC u [0] rfl rfl).2).2 p1B (λx0 o h0 hs ho=>p1H x0 o h0 ((aT (List.nil_sublist _) (cJ [(dO g_p0 p0)] [] (bC u [0] rfl rfl).2).1).1.trans hs) ho) Y4) rfl EL rfl ?_)
 rintro x h' ⟨rfl,rfl⟩
 refine qk u ((cV h [(dO g_p0 p0)] []).trans (bC u [0] rfl rfl).1.symm) (vs (vs (v0 (v0 ?_))))
 apply vi m <;> intro c7 m
 refine vs (v0 (v0 ?_))
 obtain rfl:=eT m
 exact vr λu=>dW.one (.inl rfl) (aT (h0:=h) (L':= [(dO g_p0 p0)]) (.refl _) u).1 (bF.refl _ _) ⟨g_p0,ok_p0,(aT (h0:=h) (L':= [(dO g_p0 p0)]) (.refl _) u).2,rfl,rfl⟩
 refine v0 (vs (vs (v0 (nR m (σ:=(List aH)×Int×Int) (τ:=cT) (λg s=> [(dO g s.1)]) (λg s=>bI g 4 (s.1:List aH).length) (λg s=>.c 0 (aZ g) (.c 1 (.fn (.func p1F) p1C) (.c 5 (nZ s.2.1) (.c 6 (nZ s.2.2) .nil)))) g_p0 ok_p0 (lx (.k4 .nil)) ?_ ?_))))
 rintro ag0 ⟨q0,q1,q2⟩ x O0 m
 replace m:oD w p1 q0 q1 q2=some x:=m
 unfold oD at m
 refine vs (vs (v0 (bU (dQ jZ O0 rfl) (v0 ?_))))
 apply vi m <;> intro c0 m
 refine v0 (vs (v0 (vs (v0 ?_))))
 obtain⟨x1,X0,m⟩:=aC m
 refine bU (cM X0 iU O0 rfl rfl) (vn (λu=>dX (fo:=0) (.agg (bS x1)) X0 eI O0 uY rfl (aJ 0 u rfl) (λ_=>rfl)) (ve λu=>bJ (WB) u u0 rfl rfl λk86 K1=>qk K1 rfl (ve λu=>aK 0 (bS x1) u rfl rfl rfl rfl JT rfl rfl λK2=>qk K2 rfl (vs (v0 (vl 0 (.agg (bS x1)) uY rfl rfl rfl ?_))))))
 obtain⟨_,Y0,m⟩:=aC m
 refine vn (λu=>bY (p1H _ _ _ (aT (List.nil_sublist _) u).1 Y0) rfl p1B rfl) (pO m (σ:=(List aH)×Int) (τ:=cT) (λg s=> [(some k86,.obj 60 (bS x1)),(dO g s.1)]) (λg s=>bI g 4 (s.1:List aH).length) (λg s=>.c 0 (aZ g) (.c 1 (.fn (.func p1F) p1C) (.c 5 (nZ s.2) (.c 6 (nZ q2) .nil)))) (λx m=> ?_) ?_)
 refine v0 ?_
 apply vi m <;> intro c1 m
 refine vs (v0 (vl 0 (.agg (bS x1)) uY rfl rfl rfl ?_))
 obtain⟨_,X1,m⟩:=aC m
 exact bU (cM X1 iU O0 rfl rfl) (ve λu=>cI (fo:=0) (x1:aH) 1 u X1 eI O0 rfl rfl rfl rfl (cW.refl _ _) JT rfl rfl λK3=>qk K3 rfl (v0 (eW m ag0 (bI.set O0) (lx (.k4 .nil)))))
 exact v0 (eW m ag0 O0 (lx (.k4 .nil)))
 rintro ag1 ⟨j0,j1⟩ O1 m
 exact v0 (eW m ag1 O1 (lW [1] rfl rfl (.k4 .nil)))
 exact v0 (lM m ag0 O0 (lx (.k4 .nil)))
 rintro ag2 ⟨r0,r1,r2⟩ t0 m
 refine vs (v0 ?_)
 obtain⟨Z0,m⟩:=m0 m
 refine bU (CG Z0 iU t0 rfl rfl) (ve λu=>A4 0 u Z0 eI t0 u25 u0 rfl rfl rfl rfl λsp0 O2 K4=>qk K4 rfl (vs (v0 ?_)))
 obtain⟨Z1,m⟩:=m0 m
 refine bU (CH Z1 t0 iU rfl rfl) (v0 ?_)
 cases m
 exact vr λu=>dW.one (.inl rfl) (aT (h0:=h) (L':= [((⟨ag2.t,r1.toNat,ag2.cap,sp0⟩:cT).t,.obj 60 (fl bS (r0.take r1.toNat:List aH) (⟨ag2.t,r1.toNat,ag2.cap,sp0⟩:cT).sp))]) (.refl _) u).1 (bF.refl _ _) ⟨(⟨ag2.t,r1.toNat,ag2.cap,sp0⟩:cT),O2,(aT (h0:=h) (L':= [((⟨ag2.t,r1.toNat,ag2.cap,sp0⟩:cT).t,.obj 60 (fl bS (r0.take r1.toNat:List aH) (⟨ag2.t,r1.toNat,ag2.cap,sp0⟩:cT).sp))]) (.refl _) u).2,rfl,rfl⟩
theorem ZT:aO Tryz.prog 124=true:=by kernel_rfl
def o7 (m:Nat) (p0:aA) (p1:aR) (x0:aP) (q0:List Int) (q1:Int) (q2:List aH) (q3:List aB) (q4:List aQ) (q5:Int):Option (Lp ((List Int)×Int×(List aH)×(List aB)×(List aQ)×Int) (Int×Int×fE)):=
 if (decide (q5 < (p1.Items.length:Int)))=true then ((ix p1.Items q5).bind λx1=>(HB m ({ Seq:=q1,Snaps:=q2,Chunks:=q3,Exps:=q4,Vols:=(p0.Vols.set p1.Vol.toNat ({ x0 with State:=2})).set p1.Vol.toNat ({ ({ x0 with State:=2}:aP) with Files:=IntKind.wrap .i64 ((({ x0 with State:=2}:aP).Files)+1)})}:aA) x1 ({ Vol:=p1.Vol,File:=({ ({ x0 with State:=2}:aP) with Files:=IntKind.wrap .i64 ((({ x0 with State:=2}:aP).Files)+1)}:aP).Files,Off:=x1.Off,Len:=x1.Len}:a8)).bind λy0=>if (y0.1 !=0)=true then (some (.ret (y0.1,y0.2.1,y0.2.2.1,y0.2.2.2.1,y0.2.2.2.2,(p0.Vols.set p1.Vol.toNat ({ x0 with State:=2})).set p1.Vol.toNat ({ ({ x0 with State:=2}:aP) with Files:=IntKind.wrap .i64 ((({ x0 with State:=2}:aP).Files)+1)})))) else after (if (x1.Kind==3)=true then (some (.brk (mK (q0:List Int) x1.Of))) else some (.brk q0):Option (Lp ((List Int)) (Lp ((List Int)×Int×(List aH)×(List aB)×(List aQ)×Int) (Int×Int×fE)))) λj0=>(wQ m y0.2.2.2.1 x1.Id).bind λy1=>after (if (x1.Kind==1)=true then (if y1.2=true then (some (.brk ((({ ({ x0 with State:=2}:aP) with Files:=IntKind.wrap .i64 ((({ x0 with State:=2}:aP).Files)+1)}:aP).Pool)==0))) else some (.brk false)) else some (.brk false):Option (Lp (Bool) (Lp ((List Int)×Int×(List aH)×(List aB)×(List aQ)×Int) (Int×Int×fE)))) λj1=>after (if j1=true then ((ix y0.2.2.2.1 y1.1).bind λx2=>(ix (y0.2.2.2.1.set y1.1.toNat ({ x2 with Staged:=false})) y1.1).bind λx3=>some (.brk ((y0.2.2.2.1.set y1.1.toNat ({ x2 with Staged:=false})).set y1.1.toNat ({ x3 with Data:=([]:List Int)})))) else some (.brk y0.2.2.2.1):Option (Lp ((List aB)) (Lp ((List Int)×Int×(List aH)×(List aB)×(List aQ)×Int) (Int×Int×fE)))) λj2=>some (.go (j0,y0.2.1,y0.2.2.1,j2,y0.2.2.2.2,IntKind.wrap .i64 (q5+1)))) else some (.brk (q0,q1,q2,q3,q4,q5))
def V8 (m:Nat) (p0:aA) (p1:aR):Option (Int×Int×fE):=
 (J8 m p1.Items (λx0=>J7 m x0)).bind λy6=>after (if (decide (p1.Vol < 0))=true then (some (.brk true)) else if (decide ((p0.Vols.length:Int)≤p1.Vol))=true then (some (.brk true)) else (ix p0.Vols p1.Vol).bind λx1=>if (x1.State==3)=true then (some (.brk true)) else if (decide ((p1.Items.length:Int) < 1))=true then (some (.brk true)) else if (decide (64 < (p1.Items.length:Int)))=true then (some (.brk true)) else some (.brk (!(!y6))):Option (Lp (Bool) (Int×Int×fE))) λj0=>if j0=true then (some (1,p0.Seq,p0.Snaps,p0.Chunks,p0.Exps,p0.Vols)) else (ix p0.Vols p1.Vol).bind λx2=>after (aU (λs=>o7 m p0 p1 x2 s.1 s.2.1 s.2.2.1 s.2.2.2.1 s.2.2.2.2.1 s.2.2.2.2.2) m ([],p0.Seq,p0.Snaps,p0.Chunks,p0.Exps,0)) λ⟨r0,r1,r2,r3,r4,r5⟩=>(E6 m r2 (λx0=>QH m x0 (r0:List Int))).bind λy0=>after (if (decide ((y0.length:Int) < (r2.length:Int)))=true then ((HA m ({ Seq:=r1,Snaps:=y0,Chunks:=r3,Exps:=r4,Vols:=(p0.Vols.set p1.Vol.toNat ({ x2 with State:=2})).set p1.Vol.toNat ({ ({ x2 with State:=2}:aP) with Files:=IntKind.wrap .i64 ((({ x2 with State:=2}:aP).Files)+1)})}:aA)).bind λy1=>some (.brk y1)) else some (.brk r3):Option (Lp ((List aB)) (Int×Int×fE))) λj1=>some (0,r1,y0,j1,r4,(p0.Vols.set p1.Vol.toNat ({ x2 with State:=2})).set p1.Vol.toNat ({ ({ x2 with State:=2}:aP) with Files:=IntKind.wrap .i64 ((({ x2 with State:=2}:aP).Files)+1)}))
theorem W74 {w:Nat} {p0:aA} {p1:aR} {o:Int×Int×fE} (h:aE) {p0K:cB} {gS:dH} (ok_Snaps:mF aH.Locs 4 4 gS (p0.Snaps:List aH)) {gC:dH} (oC:mF aB.Locs 35 4 gC (p0.Chunks:List aB)) {gE:dH} (oE:mF aQ.Locs 3 4 gE (p0.Exps:List aQ)) {gV:cT} (oV:bI gV 4 p0.Vols.length) (K0:bT h ([OC p0K p0.Seq gS.a gC.a gE.a gV,bM gS p0.Snaps,aW gC p0.Chunks,bQ gE p0.Exps,aM gV p0.Vols]++((bP gS p0.Snaps)++((a9 gC p0.Chunks)++(bR gE p0.Exps))))) (m:V8 w p0 p1=some o):
 aL Tryz.prog 74 [.ptr p0K 0,.agg (aD p1)] (hp h ([OC p0K p0.Seq gS.a gC.a gE.a gV,bM gS p0.Snaps,aW gC p0.Chunks,bQ gE p0.Exps,aM gV p0.Vols]++((bP gS p0.Snaps)++((a9 gC p0.Chunks)++(bR gE p0.Exps))))) (λr h'=>∃g_Snaps':cT,bI g_Snaps' 4 (o.2.2.1:List aH).length∧∃g_Chunks':cT,bI g_Chunks' 35 (o.2.2.2.1:List aB).length∧∃g_Exps':cT,bI g_Exps' 3 (o.2.2.2.2.1:List aQ).length∧∃g_Vols':cT,bI g_Vols' 4 (o.2.2.2.2.2:List aP).length∧bT h [OC p0K o.2.1 g_Snaps' g_Chunks' g_Exps' g_Vols',bD g_Snaps' o.2.2.1,aV g_Chunks' o.2.2.2.1,bV g_Exps' o.2.2.2.2.1,aM g_Vols' o.2.2.2.2.2]∧r=nZ o.1∧h'=hp h [OC p0K o.2.1 g_Snaps' g_Chunks' g_Exps' g_Vols',bD g_Snaps' o.2.2.1,aV g_Chunks' o.2.2.2.1,bV g_Exps' o.2.2.2.2.1,aM g_Vols' o.2.2.2.2.2]):=by
 refine uE K0 168 [.tmp 4] Tryz.func74 rfl rfl rfl rfl ?_
 unfold V8 at m
 refine vs (v0 (gY rfl rfl λk2 K3=>vs (v0 (dN gR rfl rfl (vl 0 _ lC rfl rfl rfl ?_)))))
 obtain⟨_,Y7,m⟩:=aC m
 refine bU (bY (ZQ _ ZO (λx0 o h0 hs ho=>aFF _ ho) Y7) rfl R9 rfl) (vs (vs (fN m (σ:=Bool) (λs=>([(some k2,.obj 62 (aD p1)),OC p0K p0.Seq gS.a gC.a gE.a gV,bM gS p0.Snaps,aW gC p0.Chunks,bQ gE p0.Exps,aM gV p0.Vols]++((bP gS p0.Snaps)++((a9 gC p0.Chunks)++(bR gE p0.Exps))))) (λs=>.c 0 (.ptr p0K 0) (.c 3 (.ptr k2 0) (.c 58 (.sc (.bool s)) .nil))) (λx m=> ?_) ?_)))
 refine v0 (wY (by kernel_rfl) (dN fI rfl rfl (vl 0 _ cF rfl rfl rfl ?_)))
 apply vi m <;> intro b0 m
 rw[b0]
 exact gU m
 rw[b0]
 refine dN fI rfl rfl (vl 0 _ cF rfl rfl rfl (jM rfl (dN fQ rfl rfl (vl 1 (aZ gV) gH rfl rfl rfl (bU (dQ sK oV rfl) ?_)))))
 apply vi m <;> intro b1 m
 rw[b1]
 exact gU m
 rw[b1]
 refine jM rfl (dN fQ rfl rfl (vl 1 (aZ gV) gH rfl rfl rfl (dN fI rfl rfl (vl 0 _ cF rfl rfl rfl ?_))))
 obtain⟨x1,X0,m⟩:=aC m
 refine bU (cM X0 jN oV rfl rfl) (bU (cU (bI.ne oV X0) m5 rfl rfl) (vn (λu=>dX (fo:=2) (nZ x1.State) X0 dY oV cF rfl (aJ 5 u rfl) (λ_=>rfl)) ?_))
 apply vi m <;> intro b2 m
 rw[b2]
 exact gU m
 rw[b2]
 refine dN gR rfl rfl (vl 0 _ lC rfl rfl rfl (dE pI rfl ?_))
 apply vi m <;> intro b3 m
 rw[b3]
 exact gU m
 rw[b3]
 refine dN gR rfl rfl (vl 0 _ lC rfl rfl rfl (dE pI rfl ?_))
 apply vi m <;> intro b4 m
 rw[b4]
 exact gU m
 rw[b4]
 exact gU m
 rintro _ j0 m
 refine v0 ?_
 apply vi m <;> intro c0 m
 refine vs (v0 (v0 ?_))
 cases m
 exact CV (DR (L':=([(some k2,.obj 62 (aD p1)),OC p0K p0.Seq gS.a gC.a gE.a gV,bD gS.a p0.Snaps,aW gC p0.Chunks,bQ gE p0.Exps,aM gV p0.Vols]++((a9 gC p0.Chunks)++(bR gE p0.Exps)))) [[_], [_], [_], [_], [_], [_],_,_,_] rfl 2 6 eU qP ok_Snaps.k rfl rfl (by decide) rfl) (CV (DR (L':=([(some k2,.obj 62 (aD p1)),OC p0K p0.Seq gS.a gC.a gE.a gV,bD gS.a p0.Snaps,aV gC.a p0.Chunks,bQ gE p0.Exps,aM gV p0.Vols]++(bR gE p0.Exps))) [[_], [_], [_], [_], [_], [_],_,_] rfl 3 6 eU oB oC.k rfl rfl (by decide) rfl) (CV (DR (L':= [(some k2,.obj 62 (aD p1)),OC p0K p0.Seq gS.a gC.a gE.a gV,bD gS.a p0.Snaps,aV gC.a p0.Chunks,bV gE.a p0.Exps,aM gV p0.Vols]) [[_], [_], [_], [_], [_], [_],_] rfl 4 6 eU vQ oE.k rfl rfl (by decide) rfl) (vr λu=>dW.of1 (.inl rfl) (fT _ _ (.sc (.int _ _)) rfl) (bE u [1,2,3,4,5] rfl).2 (bF.refl _ _) ⟨gS.a,ok_Snaps.k.a,gC.a,oC.k.a,gE.a,oE.k.a,gV,oV,(bE u [1,2,3,4,5] rfl).1,rfl,rfl⟩)))
 refine v0 (vs (v0 (wY (by kernel_rfl) (jM rfl (dN fQ rfl rfl (vl 1 (aZ gV) gH rfl rfl rfl (dN fI rfl rfl (vl 0 _ cF rfl rfl rfl ?_))))))))
 obtain⟨x2,X1,m⟩:=aC m
 refine bU (cM X1 jN oV rfl rfl) (vs (v0 (bU (iT (bI.ne oV X1) rfl) (bU (cU (bI.ne oV X1) m5 rfl rfl) (ve λu=>cI (fo:=2) ({ x2 with State:=2}:aP) 5 u X1 dY oV rfl rfl rfl rfl (cW.refl _ _) zT rfl rfl λK1=>qk K1 rfl (vs (v0 (bU (iT (bI.ne (bI.set oV) (dG (x':=({ x2 with State:=2}:aP)) X1)) rfl) (bU (cU (bI.ne (bI.set oV) (dG (x':=({ x2 with State:=2}:aP)) X1)) pY rfl rfl) (vn (λu=>dX (fo:=3) (nZ (({ x2 with State:=2}:aP).Files)) (dG (x':=({ x2 with State:=2}:aP)) X1) dY (bI.set oV) cF rfl (aJ 5 u rfl) (λ_=>rfl)) (bU (iT (bI.ne (bI.set oV) (dG (x':=({ x2 with State:=2}:aP)) X1)) rfl) (bU (cU (bI.ne (bI.set oV) (dG (x':=({ x2 with State:=2}:aP)) X1)) pY rfl rfl) (ve λu=>cI (fo:=3) ({ ({ x2 with State:=2}:aP) with Files:=IntKind.wrap .i64 ((({ x2 with State:=2}:aP).Files)+1)}:aP) 5 u (dG (x':=({ x2 with State:=2}:aP)) X1) dY (bI.set oV) rfl rfl rfl rfl (cW.refl _ _) zT rfl rfl λK2=>qk K2 rfl (vs (v0 (ve λu=>B3 u λk36 K4=>qk K4 rfl (ve λu=>bJ ([.sc (.map none)]) u (show uC Tryz.prog 161=some [.map none] by kernel_rfl) rfl rfl λk39 K5=>qk K5 rfl (ve λu=>aK 0 ([.mpv k36]) u rfl rfl rfl rfl W9 rfl rfl λK6=>qk K6 rfl ?_))))))))))))))))))
 refine vs (vs (v0 (dN gR rfl rfl (vl 2 _ lC rfl rfl rfl (dE pI rfl (nR m (σ:=(List Int)×Int×(List aH)×(List aB)×(List aQ)×Int) (τ:=dH×dH×dH) (λg s=>([(some k39,.obj 161 ([.mpv k36])),(some k36,.mp (gN kI (s.1:List Int))),(some k2,.obj 62 (aD p1)),OC p0K s.2.1 g.1.a g.2.1.a g.2.2.a gV,bM g.1 s.2.2.1,aW g.2.1 s.2.2.2.1,bQ g.2.2 s.2.2.2.2.1,aM gV ((p0.Vols.set p1.Vol.toNat ({ x2 with State:=2})).set p1.Vol.toNat ({ ({ x2 with State:=2}:aP) with Files:=IntKind.wrap .i64 ((({ x2 with State:=2}:aP).Files)+1)}))]++((bP g.1 s.2.2.1)++((a9 g.2.1 s.2.2.2.1)++(bR g.2.2 s.2.2.2.2.1))))) (λg s=>mF aH.Locs 4 4 g.1 (s.2.2.1:List aH)∧mF aB.Locs 35 4 g.2.1 (s.2.2.2.1:List aB)∧mF aQ.Locs 3 4 g.2.2 (s.2.2.2.2.1:List aQ)) (λg s=>.c 0 (.ptr p0K 0) (.c 3 (.ptr k2 0) (.c 6 (wK gV.t (p1.Vol.toNat*4+0)) (.c 7 (.ptr k39 0) (.c 78 (.sl none 37 (List.map aY p1.Items)) (.c 79 (nZ (p1.Items.length:Int)) (.c 80 (nZ s.2.2.2.2.2) .nil))))))) (gS,gC,gE) (⟨ok_Snaps,oC,oE⟩) (lx (.k7 .nil)) ?_ ?_))))))
 rintro⟨ng0,ng1,ng2⟩ ⟨q0,q1,q2,q3,q4,q5⟩ x ⟨O0,O1,O2⟩ m
 replace m:o7 w p0 p1 x2 q0 q1 q2 q3 q4 q5=some x:=m
 unfold o7 at m
 refine vs (v0 (vs (v0 ?_)))
 apply vi m <;> intro c1 m
 refine v0 (vs (v0 (vs (v0 (vx m wO rfl rfl λx3 _ m=>va (.agg (aY x3)) GK rfl rfl (ve λu=>bJ (([nZ 0]:List AV)++bL jW++(OQ:List AV)) u TD rfl rfl λk284 K7=>qk K7 rfl (ve λu=>aK 0 (aY x3) u rfl rfl rfl rfl TB rfl rfl λK8=>qk K8 rfl (vs (v0 (vz [(1000000,some k284,.obj 38 (aY x3)),(1000000,some k2,.obj 62 (aD p1)),(1000000,gV.t,.obj 49 (fl dC ((p0.Vols.set p1.Vol.toNat ({ x2 with State:=2})).set p1.Vol.toNat ({ ({ x2 with State:=2}:aP) with Files:=IntKind.wrap .i64 ((({ x2 with State:=2}:aP).Files)+1)}):List aP) gV.sp))] mixed (λu=>⟨λ_=>aJ 0 u rfl,λ_=>aJ 3 u rfl,λ_=>aJ 8 u rfl,trivial⟩) λu=>zP 0 rfl rfl (zL 1 0 (.agg (aY x3)) rfl GK rfl rfl rfl (zF 2 rfl fI rfl (zL 3 1 (nZ p1.Vol) rfl cF rfl rfl rfl (zC 4 rfl (eY (wK _ _) rfl) (zC 5 rfl (iT (bI.ne (bI.set (bI.set oV)) (dG (x':=({ ({ x2 with State:=2}:aP) with Files:=IntKind.wrap .i64 ((({ x2 with State:=2}:aP).Files)+1)}:aP)) (dG (x':=({ x2 with State:=2}:aP)) X1))) rfl) (zC 6 rfl (cU (bI.ne (bI.set (bI.set oV)) (dG (x':=({ ({ x2 with State:=2}:aP) with Files:=IntKind.wrap .i64 ((({ x2 with State:=2}:aP).Files)+1)}:aP)) (dG (x':=({ x2 with State:=2}:aP)) X1))) pY rfl rfl) (wL 7 rfl (λ_ _ hi hB=>dX (fo:=3) (nZ (({ ({ x2 with State:=2}:aP) with Files:=IntKind.wrap .i64 ((({ x2 with State:=2}:aP).Files)+1)}:aP).Files)) (dG (x':=({ ({ x2 with State:=2}:aP) with Files:=IntKind.wrap .i64 ((({ x2 with State:=2}:aP).Files)+1)}:aP)) (dG (x':=({ x2 with State:=2}:aP)) X1)) dY (bI.set (bI.set oV)) cF rfl (fV.get 2 hi rfl (hB 1000000 (by kernel_rfl))) (λ_=>rfl)) ?_)))))))))))))))))
 refine zF 8 rfl GL rfl (zL 9 0 (nZ x3.Off) rfl cF rfl rfl rfl (zF 10 rfl GM rfl (zL 11 0 (nZ x3.Len) rfl cF rfl rfl rfl (zC 12 rfl (eS (aN ({ Vol:=p1.Vol,File:=({ ({ x2 with State:=2}:aP) with Files:=IntKind.wrap .i64 ((({ x2 with State:=2}:aP).Files)+1)}:aP).Files,Off:=x3.Off,Len:=x3.Len}:a8)) JV rfl) ?_))))
 obtain⟨y0,Y0,m⟩:=aC m
 refine zE 13 rfl ?_
 have ho0:=mD (A:=([OC p0K q1 ng0.a ng1.a ng2.a gV,bM ng0 q2,aW ng1 q3,bQ ng2 q4,aM gV ((p0.Vols.set p1.Vol.toNat ({ x2 with State:=2})).set p1.Vol.toNat ({ ({ x2 with State:=2}:aP) with Files:=IntKind.wrap .i64 ((({ x2 with State:=2}:aP).Files)+1)}))]++((bP ng0 q2)++((a9 ng1 q3)++(bR ng2 q4))))) (R:= [(some k284,.obj 38 (aY x3)),(some k39,.obj 161 ([.mpv k36])),(some k36,.mp (gN kI (q0:List Int))),(some k2,.obj 62 (aD p1))]) u [[_], [_], [_], [_], [_], [_], [_], [_], [_],_,_,_] rfl [4,5,6,7,8,9,10,11] [0,1,2,3] rfl rfl rfl
 refine dB ho0.1 (cK (aFE (p0:=({ Seq:=q1,Snaps:=q2,Chunks:=q3,Exps:=q4,Vols:=(p0.Vols.set p1.Vol.toNat ({ x2 with State:=2})).set p1.Vol.toNat ({ ({ x2 with State:=2}:aP) with Files:=IntKind.wrap .i64 ((({ x2 with State:=2}:aP).Files)+1)})}:aA)) _ (O0) (O1) (O2) ((bI.set (bI.set oV))) ho0.2.2 Y0) rfl ZN rfl ?_)
 rintro x h' ⟨ng3,O3,ng4,O4,ng5,O5,K9,rfl,rfl⟩
 have K10:=mE (L':=([(some k284,.obj 38 (aY x3)),(some k39,.obj 161 ([.mpv k36])),(some k36,.mp (gN kI (q0:List Int))),(some k2,.obj 62 (aD p1)),OC p0K y0.2.1 ng3.a ng4.a ng5.a gV,bM ng3 y0.2.2.1,aW ng4 y0.2.2.2.1,bQ ng5 y0.2.2.2.2,aM gV ((p0.Vols.set p1.Vol.toNat ({ x2 with State:=2})).set p1.Vol.toNat ({ ({ x2 with State:=2}:aP) with Files:=IntKind.wrap .i64 ((({ x2 with State:=2}:aP).Files)+1)}))]++((bP ng3 y0.2.2.1)++((a9 ng4 y0.2.2.2.1)++(bR ng5 y0.2.2.2.2))))) ho0.2.1 K9 [[_], [_], [_], [_], [_],_,_,_] [[_], [_], [_], [_]] rfl rfl [8,9,10,11,0,1,2,3,4,5,6,7] rfl rfl
 refine kW K10.1 (⟨⟨λ_=>aJ 0 K10.2 rfl,λ_=>aJ 3 K10.2 rfl,λ_=>aJ 8 K10.2 rfl,trivial⟩, ?_⟩)
 refine zC 14 rfl (iC (.sc (.int _ _)) rfl) (zX (qk (f:=.c 10 _ (S7 97 _ _ _ _ _ _ _ _ _ _ _ _ _ _ _)) K10.2 rfl (vs (vs (v0 (v0 ?_))))))
 apply vi m <;> intro c2 m
 refine vs (v0 (v0 (gM m λm=> ?_)))
 cases m
 refine CV (DR (L':=([(some k284,.obj 38 (aY x3)),(some k39,.obj 161 ([.mpv k36])),(some k36,.mp (gN kI (q0:List Int))),(some k2,.obj 62 (aD p1)),OC p0K y0.2.1 ng3.a ng4.a ng5.a gV,bD ng3.a y0.2.2.1,aW ng4 y0.2.2.2.1,bQ ng5 y0.2.2.2.2,aM gV ((p0.Vols.set p1.Vol.toNat ({ x2 with State:=2})).set p1.Vol.toNat ({ ({ x2 with State:=2}:aP) with Files:=IntKind.wrap .i64 ((({ x2 with State:=2}:aP).Files)+1)}))]++((a9 ng4 y0.2.2.2.1)++(bR ng5 y0.2.2.2.2)))) [[_], [_], [_], [_], [_], [_], [_], [_], [_],_,_,_] rfl 5 9 eU qP O3.k rfl rfl (by decide) rfl) (CV (DR (L':=([(some k284,.obj 38 (aY x3)),(some k39,.obj 161 ([.mpv k36])),(some k36,.mp (gN kI (q0:List Int))),(some k2,.obj 62 (aD p1)),OC p0K y0.2.1 ng3.a ng4.a ng5.a gV,bD ng3.a y0.2.2.1,aV ng4.a y0.2.2.2.1,bQ ng5 y0.2.2.2.2,aM gV ((p0.Vols.set p1.Vol.toNat ({ x2 with State:=2})).set p1.Vol.toNat ({ ({ x2 with State:=2}:aP) with Files:=IntKind.wrap .i64 ((({ x2 with State:=2}:aP).Files)+1)}))]++(bR ng5 y0.2.2.2.2))) [[_], [_], [_], [_], [_], [_], [_], [_], [_],_,_] rfl 6 9 eU oB O4.k rfl rfl (by decide) rfl) (CV (DR (L':= [(some k284,.obj 38 (aY x3)),(some k39,.obj 161 ([.mpv k36])),(some k36,.mp (gN kI (q0:List Int))),(some k2,.obj 62 (aD p1)),OC p0K y0.2.1 ng3.a ng4.a ng5.a gV,bD ng3.a y0.2.2.1,aV ng4.a y0.2.2.2.1,bV ng5.a y0.2.2.2.2,aM gV ((p0.Vols.set p1.Vol.toNat ({ x2 with State:=2})).set p1.Vol.toNat ({ ({ x2 with State:=2}:aP) with Files:=IntKind.wrap .i64 ((({ x2 with State:=2}:aP).Files)+1)}))]) [[_], [_], [_], [_], [_], [_], [_], [_], [_],_] rfl 7 9 eU vQ O5.k rfl rfl (by decide) rfl) ?_))
 exact vr λu=>dW.of1 (.inl rfl) (fT _ _ (.sc (.int _ _)) rfl) (bE u [4,5,6,7,8] rfl).2 (bF.refl _ _) ⟨ng3.a,O3.k.a,ng4.a,O4.k.a,ng5.a,O5.k.a,gV,(bI.set (bI.set oV)),(bE u [4,5,6,7,8] rfl).1,rfl,rfl⟩
 refine v0 (vs (vs (v0 (dN l4 rfl rfl (vl 0 _ cF rfl rfl rfl (fN m (σ:=(List Int)) (λs=>([(some k284,.obj 38 (aY x3)),(some k39,.obj 161 ([.mpv k36])),(some k36,.mp (gN kI (s:List Int))),(some k2,.obj 62 (aD p1)),OC p0K y0.2.1 ng3.a ng4.a ng5.a gV,bM ng3 y0.2.2.1,aW ng4 y0.2.2.2.1,bQ ng5 y0.2.2.2.2,aM gV ((p0.Vols.set p1.Vol.toNat ({ x2 with State:=2})).set p1.Vol.toNat ({ ({ x2 with State:=2}:aP) with Files:=IntKind.wrap .i64 ((({ x2 with State:=2}:aP).Files)+1)}))]++((bP ng3 y0.2.2.1)++((a9 ng4 y0.2.2.2.1)++(bR ng5 y0.2.2.2.2))))) (λs=>.c 0 (.ptr p0K 0) (.c 3 (.ptr k2 0) (.c 6 (wK gV.t (p1.Vol.toNat*4+0)) (.c 7 (.ptr k39 0) (.c 9 (.ptr k284 0) (.c 78 (.sl none 37 (List.map aY p1.Items)) (.c 79 (nZ (p1.Items.length:Int)) (.c 80 (nZ q5) .nil)))))))) (λx m=> ?_) ?_))))))
 refine v0 ?_
 apply vi m <;> intro c3 m
 exact v0 (vl 1 _ RM rfl rfl rfl (dN uW rfl rfl (vl 0 _ cF rfl rfl rfl (ve λu=>LL 2 u RN (xU.int u3) rfl rfl rfl rfl λK11=>qk K11 rfl (GG m)))))
 exact v0 (GG m)
 rintro _ j1 m
 refine vs (v0 (wY (by kernel_rfl) (jM rfl (dN dR rfl rfl (vl 4 (aZ ng4.a) eJ rfl rfl rfl (dN uV rfl rfl (vl 0 (.agg (bL x3.Id)) fW rfl rfl rfl ?_)))))))
 obtain⟨y1,Y1,m⟩:=aC m
 refine vn (λu=>bY (fG (.cons (Br.awN 6 cO eU E4 O4.k u rfl (UM [[_], [_], [_], [_], [_], [_], [_], [_], [_],_,_,_] rfl 10 rfl)) (.cons (Br.refl _ _) .nil)) rfl (P2 _ Y1)) rfl IA rfl) (vs (fN m (σ:=Bool) (λs=>([(some k284,.obj 38 (aY x3)),(some k39,.obj 161 ([.mpv k36])),(some k36,.mp (gN kI (j1:List Int))),(some k2,.obj 62 (aD p1)),OC p0K y0.2.1 ng3.a ng4.a ng5.a gV,bM ng3 y0.2.2.1,aW ng4 y0.2.2.2.1,bQ ng5 y0.2.2.2.2,aM gV ((p0.Vols.set p1.Vol.toNat ({ x2 with State:=2})).set p1.Vol.toNat ({ ({ x2 with State:=2}:aP) with Files:=IntKind.wrap .i64 ((({ x2 with State:=2}:aP).Files)+1)}))]++((bP ng3 y0.2.2.1)++((a9 ng4 y0.2.2.2.1)++(bR ng5 y0.2.2.2.2))))) (λs=>.c 0 (.ptr p0K 0) (.c 3 (.ptr k2 0) (.c 6 (wK gV.t (p1.Vol.toNat*4+0)) (.c 7 (.ptr k39 0) (.c 11 (nZ y1.1) (.c 78 (.sl none 37 (List.map aY p1.Items)) (.c 79 (nZ (p1.Items.length:Int)) (.c 80 (nZ q5) (.c 129 (.sc (.bool s)) .nil))))))))) (λx m=> ?_) ?_))
 refine v0 (dN l4 rfl rfl (vl 0 _ cF rfl rfl rfl ?_))
 apply vi m <;> intro b5 m
 rw[b5]
 apply vi m <;> intro b6 m
 rw[b6]
 exact bU (iT (bI.ne (bI.set (bI.set oV)) (dG (x':=({ ({ x2 with State:=2}:aP) with Files:=IntKind.wrap .i64 ((({ x2 with State:=2}:aP).Files)+1)}:aP)) (dG (x':=({ x2 with State:=2}:aP)) X1))) rfl) (bU (cU (bI.ne (bI.set (bI.set oV)) (dG (x':=({ ({ x2 with State:=2}:aP) with Files:=IntKind.wrap .i64 ((({ x2 with State:=2}:aP).Files)+1)}:aP)) (dG (x':=({ x2 with State:=2}:aP)) X1))) LT rfl rfl) (vn (λu=>dX (fo:=0) (nZ (({ ({ x2 with State:=2}:aP) with Files:=IntKind.wrap .i64 ((({ x2 with State:=2}:aP).Files)+1)}:aP).Pool)) (dG (x':=({ ({ x2 with State:=2}:aP) with Files:=IntKind.wrap .i64 ((({ x2 with State:=2}:aP).Files)+1)}:aP)) (dG (x':=({ x2 with State:=2}:aP)) X1)) dY (bI.set (bI.set oV)) cF rfl (aJ 8 u rfl) (λ_=>rfl)) (gq9 m)))
 rw[b6]
 exact gq9 m
 rw[b5]
 exact gq9 m
 rintro _ j2 m
 refine pO m (σ:=(List aB)) (τ:=dH) (λg s=>([(some k284,.obj 38 (aY x3)),(some k39,.obj 161 ([.mpv k36])),(some k36,.mp (gN kI (j1:List Int))),(some k2,.obj 62 (aD p1)),OC p0K y0.2.1 ng3.a g.a ng5.a gV,bM ng3 y0.2.2.1,aW g s,bQ ng5 y0.2.2.2.2,aM gV ((p0.Vols.set p1.Vol.toNat ({ x2 with State:=2})).set p1.Vol.toNat ({ ({ x2 with State:=2}:aP) with Files:=IntKind.wrap .i64 ((({ x2 with State:=2}:aP).Files)+1)}))]++((bP ng3 y0.2.2.1)++((a9 g s)++(bR ng5 y0.2.2.2.2))))) (λg s=>mF aB.Locs 35 4 g (s:List aB)) (λg s=>.c 0 (.ptr p0K 0) (.c 3 (.ptr k2 0) (.c 6 (wK gV.t (p1.Vol.toNat*4+0)) (.c 7 (.ptr k39 0) (.c 78 (.sl none 37 (List.map aY p1.Items)) (.c 79 (nZ (p1.Items.length:Int)) (.c 80 (nZ q5) .nil))))))) (λx m=> ?_) ?_
 refine v0 ?_
 apply vi m <;> intro c4 m
 refine v0 (vz [(1000000,some p0K,.obj 30 ([nZ y0.2.1,aZ ng3.a,aZ ng4.a,aZ ng5.a,aZ gV]))] mixed (λu=>⟨λ_=>aJ 4 u rfl,trivial⟩) λu=>zP 0 rfl rfl (zN 1 rfl rfl (zF 2 rfl dR rfl (zL 3 0 (aZ ng4.a) rfl eJ rfl rfl rfl (zI 4 rfl rfl (zP 5 rfl rfl (zN 6 rfl rfl (zF 7 rfl dR rfl (zL 8 0 (aZ ng4.a) rfl eJ rfl rfl rfl (zI 9 rfl rfl ?_))))))))))
 obtain⟨x4,X2,m⟩:=aC m
 refine zC 10 rfl (cM (O4.k.ix X2) fH O4.k.z rfl rfl) (zC 11 rfl (cU (bI.ne O4.k.z (O4.k.ix X2)) oP rfl rfl) (zE 12 rfl (cI (fo:=32) (x':=(({ x4 with Staged:=false}:aB),(gx ng4.gs y1.1.toNat))) 6 u (O4.k.ix X2) iP O4.k.z rfl rfl rfl rfl (cW.refl _ _) V3 rfl rfl ?_)))
 intro K12
 have hs0:tE aB.Locs 35 4 ng4 (y0.2.2.2.1:List aB):=O4.k
 have hn0:hp h _=hp h ([(some k284,.obj 38 (aY x3)),(some k39,.obj 161 ([.mpv k36])),(some k36,.mp (gN kI (j1:List Int))),(some k2,.obj 62 (aD p1)),OC p0K y0.2.1 ng3.a ng4.a ng5.a gV,bM ng3 y0.2.2.1,aW ng4 (y0.2.2.2.1.set y1.1.toNat ({ x4 with Staged:=false})),bQ ng5 y0.2.2.2.2,aM gV ((p0.Vols.set p1.Vol.toNat ({ x2 with State:=2})).set p1.Vol.toNat ({ ({ x2 with State:=2}:aP) with Files:=IntKind.wrap .i64 ((({ x2 with State:=2}:aP).Files)+1)}))]++((bP ng3 y0.2.2.1)++((a9 ng4 (y0.2.2.2.1.set y1.1.toNat ({ x4 with Staged:=false})))++(bR ng5 y0.2.2.2.2))))∧bT h ([(some k284,.obj 38 (aY x3)),(some k39,.obj 161 ([.mpv k36])),(some k36,.mp (gN kI (j1:List Int))),(some k2,.obj 62 (aD p1)),OC p0K y0.2.1 ng3.a ng4.a ng5.a gV,bM ng3 y0.2.2.1,aW ng4 (y0.2.2.2.1.set y1.1.toNat ({ x4 with Staged:=false})),bQ ng5 y0.2.2.2.2,aM gV ((p0.Vols.set p1.Vol.toNat ({ x2 with State:=2})).set p1.Vol.toNat ({ ({ x2 with State:=2}:aP) with Files:=IntKind.wrap .i64 ((({ x2 with State:=2}:aP).Files)+1)}))]++((bP ng3 y0.2.2.1)++((a9 ng4 (y0.2.2.2.1.set y1.1.toNat ({ x4 with Staged:=false})))++(bR ng5 y0.2.2.2.2)))):=eqN (L:=_) K12 (by unfold aW; (try unfold a9); rw[(hs0.set (x':=({ x4 with Staged:=false}:aB)) X2 rfl).2.2,← (hs0.set (x':=({ x4 with Staged:=false}:aB)) X2 rfl).2.1]; first | done | rfl)
 refine kW hn0.1 (⟨⟨λ_=>aJ 4 hn0.2 rfl,trivial⟩, ?_⟩)
 obtain⟨x5,X3,m⟩:=aC m
 refine zC 13 rfl (cM ((O4.set (x':=({ x4 with Staged:=false}:aB)) X2 rfl).k.ix X3) fH ((O4.set (x':=({ x4 with Staged:=false}:aB)) X2 rfl).k.z) rfl rfl) (zC 14 rfl (cU (bI.ne ((O4.set (x':=({ x4 with Staged:=false}:aB)) X2 rfl).k.z) ((O4.set (x':=({ x4 with Staged:=false}:aB)) X2 rfl).k.ix X3)) jS rfl rfl) (zE 15 rfl (cI (fo:=33) (x':=(({ x5 with Data:=([]:List Int)}:aB),(gx ng4.gs y1.1.toNat))) 6 hn0.2 ((O4.set (x':=({ x4 with Staged:=false}:aB)) X2 rfl).k.ix X3) iP ((O4.set (x':=({ x4 with Staged:=false}:aB)) X2 rfl).k.z) rfl rfl rfl rfl (.cons (aX _) .nil) CJ rfl rfl ?_)))
 intro K13
 have hs1:tE aB.Locs 35 4 ng4 (y0.2.2.2.1.set y1.1.toNat ({ x4 with Staged:=false}):List aB):=(O4.set (x':=({ x4 with Staged:=false}:aB)) X2 rfl).k
 have hn1:hp h _=hp h ([(some k284,.obj 38 (aY x3)),(some k39,.obj 161 ([.mpv k36])),(some k36,.mp (gN kI (j1:List Int))),(some k2,.obj 62 (aD p1)),OC p0K y0.2.1 ng3.a ng4.a ng5.a gV,bM ng3 y0.2.2.1,aW ng4 ((y0.2.2.2.1.set y1.1.toNat ({ x4 with Staged:=false})).set y1.1.toNat ({ x5 with Data:=([]:List Int)})),bQ ng5 y0.2.2.2.2,aM gV ((p0.Vols.set p1.Vol.toNat ({ x2 with State:=2})).set p1.Vol.toNat ({ ({ x2 with State:=2}:aP) with Files:=IntKind.wrap .i64 ((({ x2 with State:=2}:aP).Files)+1)}))]++((bP ng3 y0.2.2.1)++((a9 ng4 ((y0.2.2.2.1.set y1.1.toNat ({ x4 with Staged:=false})).set y1.1.toNat ({ x5 with Data:=([]:List Int)})))++(bR ng5 y0.2.2.2.2))))∧bT h ([(some k284,.obj 38 (aY x3)),(some k39,.obj 161 ([.mpv k36])),(some k36,.mp (gN kI (j1:List Int))),(some k2,.obj 62 (aD p1)),OC p0K y0.2.1 ng3.a ng4.a ng5.a gV,bM ng3 y0.2.2.1,aW ng4 ((y0.2.2.2.1.set y1.1.toNat ({ x4 with Staged:=false})).set y1.1.toNat ({ x5 with Data:=([]:List Int)})),bQ ng5 y0.2.2.2.2,aM gV ((p0.Vols.set p1.Vol.toNat ({ x2 with State:=2})).set p1.Vol.toNat ({ ({ x2 with State:=2}:aP) with Files:=IntKind.wrap .i64 ((({ x2 with State:=2}:aP).Files)+1)}))]++((bP ng3 y0.2.2.1)++((a9 ng4 ((y0.2.2.2.1.set y1.1.toNat ({ x4 with Staged:=false})).set y1.1.toNat ({ x5 with Data:=([]:List Int)})))++(bR ng5 y0.2.2.2.2)))):=eqN (L:=_) K13 (by unfold aW; (try unfold a9); rw[(hs1.set (x':=({ x5 with Data:=([]:List Int)}:aB)) X3 rfl).2.2,← (hs1.set (x':=({ x5 with Data:=([]:List Int)}:aB)) X3 rfl).2.1]; first | done | rfl)
 refine kW hn1.1 (⟨⟨λ_=>aJ 4 hn1.2 rfl,trivial⟩, ?_⟩)
 exact zX (qk (f:=S7 143 _ _ _ _ _ _ _ _ _ _ _ _ _ _ _) hn1.2 rfl (eW m ng4 ((O4.set (x':=({ x4 with Staged:=false}:aB)) X2 rfl).set (x':=({ x5 with Data:=([]:List Int)}:aB)) X3 rfl) (lx (.k7 .nil))))
 exact v0 (eW m ng4 O4 (lx (.k7 .nil)))
 rintro ng6 j3 O6 m
 exact v0 (eW m (ng3,ng6,ng5) ⟨O3,O6,O5⟩ (lxB [[_], [_], [_], [_], [_], [_], [_], [_], [_],_,_,_] rfl [1,2,3,4,5,6,7,8,9,10,11] rfl rfl (.k7 .nil)))
 exact v0 (lM m (ng0,ng1,ng2) ⟨O0,O1,O2⟩ (lx (.k7 .nil)))
 rintro⟨ng7,ng8,ng9⟩ ⟨r0,r1,r2,r3,r4,r5⟩ ⟨t0,t1,t2⟩ m
 refine vs (v0 (jM rfl (dN dV rfl rfl (vl 3 (aZ ng7.a) fM rfl rfl rfl (bU (dQ jZ t0.k.a rfl) (vs (qK (DR (L':=([(some k39,.obj 161 ([.mpv k36])),(some k36,.mp (gN kI (r0:List Int))),(some k2,.obj 62 (aD p1)),OC p0K r1 ng7.a ng8.a ng9.a gV,bD ng7.a r2,aW ng8 r3,bQ ng9 r4,aM gV ((p0.Vols.set p1.Vol.toNat ({ x2 with State:=2})).set p1.Vol.toNat ({ ({ x2 with State:=2}:aP) with Files:=IntKind.wrap .i64 ((({ x2 with State:=2}:aP).Files)+1)}))]++((a9 ng8 r3)++(bR ng9 r4)))) [[_], [_], [_], [_], [_], [_], [_], [_],_,_,_] rfl 4 8 eU qP t0.k rfl rfl (by decide) rfl) (qK (DR (L':=([(some k39,.obj 161 ([.mpv k36])),(some k36,.mp (gN kI (r0:List Int))),(some k2,.obj 62 (aD p1)),OC p0K r1 ng7.a ng8.a ng9.a gV,bD ng7.a r2,aV ng8.a r3,bQ ng9 r4,aM gV ((p0.Vols.set p1.Vol.toNat ({ x2 with State:=2})).set p1.Vol.toNat ({ ({ x2 with State:=2}:aP) with Files:=IntKind.wrap .i64 ((({ x2 with State:=2}:aP).Files)+1)}))]++(bR ng9 r4))) [[_], [_], [_], [_], [_], [_], [_], [_],_,_] rfl 5 8 eU oB t1.k rfl rfl (by decide) rfl) (qK (DR (L':= [(some k39,.obj 161 ([.mpv k36])),(some k36,.mp (gN kI (r0:List Int))),(some k2,.obj 62 (aD p1)),OC p0K r1 ng7.a ng8.a ng9.a gV,bD ng7.a r2,aV ng8.a r3,bV ng9.a r4,aM gV ((p0.Vols.set p1.Vol.toNat ({ x2 with State:=2})).set p1.Vol.toNat ({ ({ x2 with State:=2}:aP) with Files:=IntKind.wrap .i64 ((({ x2 with State:=2}:aP).Files)+1)}))]) [[_], [_], [_], [_], [_], [_], [_], [_],_] rfl 6 8 eU vQ t2.k rfl rfl (by decide) rfl) (v0 (jM rfl (dN dV rfl rfl (vl 3 (aZ ng7.a) fM rfl rfl rfl ?_)))))))))))))
 obtain⟨y2,Y2,m⟩:=aC m
 refine ve λu=>dB ((bC u [4,0,1,2,3,5,6,7] rfl rfl).1.trans (cV h [bD ng7.a r2] [(some k39,.obj 161 ([.mpv k36])),(some k36,.mp (gN kI (r0:List Int))),(some k2,.obj 62 (aD p1)),OC p0K r1 ng7.a ng8.a ng9.a gV,aV ng8.a r3,bV ng9.a r4,aM gV ((p0.Vols.set p1.Vol.toNat ({ x2 with State:=2})).set p1.Vol.toNat ({ ({ x2 with State:=2}:aP) with Files:=IntKind.wrap .i64 ((({ x2 with State:=2}:aP).Files)+1)}))]).symm) (cK (ZS (hp h [(some k39,.obj 161 ([.mpv k36])),(some k36,.mp (gN kI (r0:List Int))),(some k2,.obj 62 (aD p1)),OC p0K r1 ng7.a ng8.a ng9.a gV,aV ng8.a r3,bV ng9.a r4,aM gV ((p0.Vols.set p1.Vol.toNat ({ x2 with State:=2})).set p1.Vol.toNat ({ ({ x2 with State:=2}:aP) with Files:=IntKind.wrap .i64 ((({ x2 with State:=2}:aP).Files)+1)}))]) t0.k.a (cJ [bD ng7.a r2] [(some k39,.obj 161 ([.mpv k36])),(some k36,.mp (gN kI (r0:List Int))),(some k2,.obj 62 (aD p1)),OC p0K r1 ng7.a ng8.a ng9.a gV,aV ng8.a r3,bV ng9.a r4,aM gV ((p0.Vols.set p1.Vol.toNat ({ x2 with State:=2})).set p1.Vol.toNat ({ ({ x2 with State:=2}:aP) with Files:=IntKind.wrap .i64 ((({ x2 with State:=2}:aP).Files)+1)}))] (bC u [4,0,1,2,3,5,6,7] rfl rfl).2).2 ZR (λx0 o h0 hs ho=>aFH _ (hs _ _ (bB 0 (cJ [bD ng7.a r2] [(some k39,.obj 161 ([.mpv k36])),(some k36,.mp (gN kI (r0:List Int))),(some k2,.obj 62 (aD p1)),OC p0K r1 ng7.a ng8.a ng9.a gV,aV ng8.a r3,bV ng9.a r4,aM gV ((p0.Vols.set p1.Vol.toNat ({ x2 with State:=2})).set p1.Vol.toNat ({ ({ x2 with State:=2}:aP) with Files:=IntKind.wrap .i64 ((({ x2 with State:=2}:aP).Files)+1)}))] (bC u [4,0,1,2,3,5,6,7] rfl rfl).2).1 rfl)) (hs _ _ (bB 1 (cJ [bD ng7.a r2] [(some k39,.obj 161 ([.mpv k36])),(some k36,.mp (gN kI (r0:List Int))),(some k2,.obj 62 (aD p1)),OC p0K r1 ng7.a ng8.a ng9.a gV,aV ng8.a r3,bV ng9.a r4,aM gV ((p0.Vols.set p1.Vol.toNat ({ x2 with State:=2})).set p1.Vol.toNat ({ ({ x2 with State:=2}:aP) with Files:=IntKind.wrap .i64 ((({ x2 with State:=2}:aP).Files)+1)}))] (bC u [4,0,1,2,3,5,6,7] rfl rfl).2).1 rfl)) ho) Y2) rfl ZT rfl ?_)
 rintro x h' ⟨ag0,O7,K14,rfl,rfl⟩
 have K15:=bC (L':= [(some k39,.obj 161 ([.mpv k36])),(some k36,.mp (gN kI (r0:List Int))),(some k2,.obj 62 (aD p1)),(hO p0K r1 ng7.a ng8.a ng9.a gV),bD ag0 y2,aV ng8.a r3,bV ng9.a r4,aM gV ((p0.Vols.set p1.Vol.toNat ({ x2 with State:=2})).set p1.Vol.toNat ({ ({ x2 with State:=2}:aP) with Files:=IntKind.wrap .i64 ((({ x2 with State:=2}:aP).Files)+1)}))]) (dI (cJ [bD ng7.a r2] [(some k39,.obj 161 ([.mpv k36])),(some k36,.mp (gN kI (r0:List Int))),(some k2,.obj 62 (aD p1)),OC p0K r1 ng7.a ng8.a ng9.a gV,aV ng8.a r3,bV ng9.a r4,aM gV ((p0.Vols.set p1.Vol.toNat ({ x2 with State:=2})).set p1.Vol.toNat ({ ({ x2 with State:=2}:aP) with Files:=IntKind.wrap .i64 ((({ x2 with State:=2}:aP).Files)+1)}))] (bC u [4,0,1,2,3,5,6,7] rfl rfl).2).1 K14) [1,2,3,4,0,5,6,7] rfl rfl
 refine qk K15.2 ((cV h [bD ag0 y2] [(some k39,.obj 161 ([.mpv k36])),(some k36,.mp (gN kI (r0:List Int))),(some k2,.obj 62 (aD p1)),OC p0K r1 ng7.a ng8.a ng9.a gV,aV ng8.a r3,bV ng9.a r4,aM gV ((p0.Vols.set p1.Vol.toNat ({ x2 with State:=2})).set p1.Vol.toNat ({ ({ x2 with State:=2}:aP) with Files:=IntKind.wrap .i64 ((({ x2 with State:=2}:aP).Files)+1)}))]).trans K15.1) (jM rfl (dN dV rfl rfl (ve λu=>aK 3 ([nZ r1,aZ ag0,aZ ng8.a,aZ ng9.a,aZ gV]) u rfl rfl (bZ rfl) (cD (bW _ _ _) rfl) GI rfl rfl λK16=>qk K16 rfl (vs (vs (v0 (jM rfl (dN dV rfl rfl (vl 3 (aZ ag0) fM rfl rfl rfl (bU (dQ jZ O7 rfl) (pO m (σ:=(List aB)) (τ:=cT) (λg s=> [(some k39,.obj 161 ([.mpv k36])),(some k36,.mp (gN kI (r0:List Int))),(some k2,.obj 62 (aD p1)),OC p0K r1 ag0 g ng9.a gV,bD ag0 y2,aV g s,bV ng9.a r4,aM gV ((p0.Vols.set p1.Vol.toNat ({ x2 with State:=2})).set p1.Vol.toNat ({ ({ x2 with State:=2}:aP) with Files:=IntKind.wrap .i64 ((({ x2 with State:=2}:aP).Files)+1)}))]) (λg s=>bI g 35 (s:List aB).length) (λg s=>.nil) (λx m=> ?_) ?_)))))))))))
 refine v0 ?_
 apply vi m <;> intro c5 m
 refine v0 ?_
 obtain⟨y3,Y3,m⟩:=aC m
 refine ve λu=>dB ((bC u [3,4,5,6,7,0,1,2] rfl rfl).1.trans (cV h [OC p0K r1 ag0 ng8.a ng9.a gV,bD ag0 y2,aV ng8.a r3,bV ng9.a r4,aM gV ((p0.Vols.set p1.Vol.toNat ({ x2 with State:=2})).set p1.Vol.toNat ({ ({ x2 with State:=2}:aP) with Files:=IntKind.wrap .i64 ((({ x2 with State:=2}:aP).Files)+1)}))] [(some k39,.obj 161 ([.mpv k36])),(some k36,.mp (gN kI (r0:List Int))),(some k2,.obj 62 (aD p1))]).symm) (cK (ZI (p0:=({ Seq:=r1,Snaps:=y2,Chunks:=r3,Exps:=r4,Vols:=(p0.Vols.set p1.Vol.toNat ({ x2 with State:=2})).set p1.Vol.toNat ({ ({ x2 with State:=2}:aP) with Files:=IntKind.wrap .i64 ((({ x2 with State:=2}:aP).Files)+1)})}:aA)) (hp h [(some k39,.obj 161 ([.mpv k36])),(some k36,.mp (gN kI (r0:List Int))),(some k2,.obj 62 (aD p1))]) O7 t1.k.a t2.k.a (bI.set (bI.set oV)) (cJ [OC p0K r1 ag0 ng8.a ng9.a gV,bD ag0 y2,aV ng8.a r3,bV ng9.a r4,aM gV ((p0.Vols.set p1.Vol.toNat ({ x2 with State:=2})).set p1.Vol.toNat ({ ({ x2 with State:=2}:aP) with Files:=IntKind.wrap .i64 ((({ x2 with State:=2}:aP).Files)+1)}))] [(some k39,.obj 161 ([.mpv k36])),(some k36,.mp (gN kI (r0:List Int))),(some k2,.obj 62 (aD p1))] (bC u [3,4,5,6,7,0,1,2] rfl rfl).2).2 Y3) rfl R8 rfl ?_)
 rintro x h' ⟨ag1,O8,K17,rfl,rfl⟩
 have K18:=bC (L':= [(some k39,.obj 161 ([.mpv k36])),(some k36,.mp (gN kI (r0:List Int))),(some k2,.obj 62 (aD p1)),OC p0K r1 ag0 ag1 ng9.a gV,bD ag0 y2,aV ag1 y3,bV ng9.a r4,aM gV ((p0.Vols.set p1.Vol.toNat ({ x2 with State:=2})).set p1.Vol.toNat ({ ({ x2 with State:=2}:aP) with Files:=IntKind.wrap .i64 ((({ x2 with State:=2}:aP).Files)+1)}))]) (dI (cJ [OC p0K r1 ag0 ng8.a ng9.a gV,bD ag0 y2,aV ng8.a r3,bV ng9.a r4,aM gV ((p0.Vols.set p1.Vol.toNat ({ x2 with State:=2})).set p1.Vol.toNat ({ ({ x2 with State:=2}:aP) with Files:=IntKind.wrap .i64 ((({ x2 with State:=2}:aP).Files)+1)}))] [(some k39,.obj 161 ([.mpv k36])),(some k36,.mp (gN kI (r0:List Int))),(some k2,.obj 62 (aD p1))] (bC u [3,4,5,6,7,0,1,2] rfl rfl).2).1 K17) [5,6,7,0,1,2,3,4] rfl rfl
 exact qk K18.2 ((cV h [OC p0K r1 ag0 ag1 ng9.a gV,bD ag0 y2,aV ag1 y3,bV ng9.a r4,aM gV ((p0.Vols.set p1.Vol.toNat ({ x2 with State:=2})).set p1.Vol.toNat ({ ({ x2 with State:=2}:aP) with Files:=IntKind.wrap .i64 ((({ x2 with State:=2}:aP).Files)+1)}))] [(some k39,.obj 161 ([.mpv k36])),(some k36,.mp (gN kI (r0:List Int))),(some k2,.obj 62 (aD p1))]).trans K18.1) (eW m ag1 O8 (lx .nil))
 exact v0 (eW m ng8.a t1.k.a (lx .nil))
 rintro ag2 j4 O9 m
 refine vs (v0 (v0 ?_))
 cases m
 exact vr λu=>dW.of1 (.inl rfl) (fT _ _ (.sc (.int _ _)) rfl) (bE u [3,4,5,6,7] rfl).2 (bF.refl _ _) ⟨ag0,O7,ag2,O9,ng9.a,t2.k.a,gV,(bI.set (bI.set oV)),(bE u [3,4,5,6,7] rfl).1,rfl,rfl⟩
theorem aFI:aO Tryz.prog 74=true:=by kernel_rfl
end Go.Proofs.YtbbifdfldpfphaaGreat
