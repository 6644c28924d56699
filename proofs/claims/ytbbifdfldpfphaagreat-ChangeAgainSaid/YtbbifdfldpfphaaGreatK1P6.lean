import Derived.Test.YtbbifdfldpfphaaGreatK1P5
import Derived.Test.YtbbifdfldpfphaaGreatK1P3
import Derived.Test.YtbbifdfldpfphaaGreatK1P4
set_option linter.unusedSimpArgs false
set_option linter.unusedVariables false
set_option maxHeartbeats 4000000
set_option maxRecDepth 100000
namespace Go.Proofs.YtbbifdfldpfphaaGreat
open Go.Vm
def mM (m:Nat) (p0:List aG) (p1:aG→Option Bool) (q0:Int):Option (Lp (Int) (Int)):=
 if (decide (q0 < (p0.length:Int)))=true then ((ix p0 q0).bind λx0=>(p1 x0).bind λy0=>if y0=true then (some (.ret q0)) else some (.go (IntKind.wrap .i64 (q0+1)))) else some (.brk q0)
def uH (m:Nat) (p0:List aG) (p1:aG→Option Bool):Option (Int):=
 after (aW (λs=>mM m p0 p1 s) m 0) λr0=>some (-1)
theorem QR {w:Nat} {p0:List aG} {p1:aG→Option Bool} {o:Int} (h:aE) {g_p0:cQ} (ok_p0:bG g_p0 4 p0.length) (K0:bT h [(dN g_p0 p0)]) {p1F:Nat} {p1C:List AV} (p1B:aO Tryz.prog p1F=true) (p1H:∀x0 o h0,hH h h0→p1 x0=some o→aL Tryz.prog p1F ([.agg (bR x0)]++p1C) h0 (λr h'=>r= .sc (.bool o)∧h'=h0)) (m:uH w p0 p1=some o):
 aL Tryz.prog 103 [aZ g_p0,.fn (.func p1F) p1C] (hp h [(dN g_p0 p0)]) (λr h'=>r=nZ o∧h'=hp h [(dN g_p0 p0)]):=by
 refine sN K0 19 [.tmp 4] Tryz.func103 rfl rfl rfl rfl ?_
 unfold uH at m
 refine vs (v0 (vs (vs (v0 (bU (dP jU ok_p0 rfl) ?_)))))
 refine jT m (σ:=Int) (λs=> [(dN g_p0 p0)]) (λs=>.c 0 (aZ g_p0) (.c 1 (.fn (.func p1F) p1C) (.c 7 (nZ (p0.length:Int)) (.c 8 (nZ s) .nil)))) (lx (.k4 .nil)) ?_ ?_
 rintro _ q0 x m
 replace m:mM w p0 p1 q0=some x:=m
 unfold mM at m
 refine vs (v0 (vs (v0 ?_)))
 apply vi m <;> intro c0 m
 refine v0 (vs (v0 (vs (v0 (vs (v0 ?_))))))
 obtain⟨x1,X0,m⟩:=aC m
 refine bU (cJ X0 iN ok_p0 rfl rfl) (vn (λu=>dW (fo:=0) (.agg (bR x1)) X0 eH ok_p0 tH rfl (aI 0 u rfl) (λ_=>rfl)) ?_)
 obtain⟨_,Y0,m⟩:=aC m
 refine vn (λu=>bY (p1H _ _ _ (aR (List.nil_sublist _) u).1 Y0) rfl p1B rfl) (v0 ?_)
 apply vi m <;> intro c1 m
 refine vs (v0 (v0 ?_))
 refine gO m λm=> ?_
 obtain rfl:=eY m
 exact vr λu=>dV.of1 (.inl rfl) (fP _ _ (.sc (.int _ _)) rfl) (bD u [0] rfl).2 (bE.refl _ _) ⟨rfl,rfl⟩
 refine v0 (v0 ?_)
 exact hD m
 refine v0 ?_
 exact u0 m
 rintro _ r0 m
 refine vs (v0 (v0 ?_))
 cases m
 exact vr λu=>dV.of1 (.inl rfl) (fP _ _ (.sc (.int _ _)) rfl) (bD u [0] rfl).2 (bE.refl _ _) ⟨rfl,rfl⟩
def T8 (m:Nat) (p0:aB) (p1:aS):Option (Int×(List aP)):=
 after (if (decide (p1.Vol < 0))=true then (some (.brk true)) else if (decide ((p0.Vols.length:Int)≤p1.Vol))=true then (some (.brk true)) else (ix p0.Vols p1.Vol).bind λx0=>some (.brk (x0.State !=3)):Option (Lp (Bool) (Int×(List aP)))) λj0=>if j0=true then (some (1,p0.Vols)) else (ix p0.Vols p1.Vol).bind λx1=>(ix (p0.Vols.set p1.Vol.toNat ({ x1 with State:=1})) p1.Vol).bind λx2=>(ix (p0.Vols.set p1.Vol.toNat ({ x1 with State:=1})) p1.Vol).bind λx3=>some (0,(p0.Vols.set p1.Vol.toNat ({ x1 with State:=1})).set p1.Vol.toNat ({ x3 with Epoch:=IntKind.wrap .i64 (x2.Epoch+1)}))
theorem W76 {w:Nat} {p0:aB} {p1:aS} {o:Int×(List aP)} (h:aE) {p0K:cB} {gS:cQ} (ok_Snaps:bG gS 4 p0.Snaps.length) {gC:cQ} (oC:bG gC 35 p0.Chunks.length) {gE:cQ} (oE:bG gE 3 p0.Exps.length) {gV:cQ} (oV:bG gV 4 p0.Vols.length) (K0:bT h [OC p0K p0.Seq gS gC gE gV,bB gS p0.Snaps,aT gC p0.Chunks,bV gE p0.Exps,aM gV p0.Vols]) (m:T8 w p0 p1=some o):
 aL Tryz.prog 76 [.ptr p0K 0,.agg (aD p1)] (hp h [OC p0K p0.Seq gS gC gE gV,bB gS p0.Snaps,aT gC p0.Chunks,bV gE p0.Exps,aM gV p0.Vols]) (λr h'=>∃g_Vols':cQ,bG g_Vols' 4 (o.2:List aP).length∧bT h [OC p0K p0.Seq gS gC gE g_Vols',bB gS p0.Snaps,aT gC p0.Chunks,bV gE p0.Exps,aM g_Vols' o.2]∧r=nZ o.1∧h'=hp h [OC p0K p0.Seq gS gC gE g_Vols',bB gS p0.Snaps,aT gC p0.Chunks,bV gE p0.Exps,aM g_Vols' o.2]):=by
 refine sN K0 50 [.tmp 4] Tryz.func76 rfl rfl rfl rfl ?_
 unfold T8 at m
 refine vs (v0 ?_)
 refine gZ rfl rfl λk2 K3=> ?_
 refine vs (vs ?_)
 refine fR m (σ:=Bool) (λs=> [(some k2,.obj 62 (aD p1)),OC p0K p0.Seq gS gC gE gV,bB gS p0.Snaps,aT gC p0.Chunks,bV gE p0.Exps,aM gV p0.Vols]) (λs=>.c 0 (.ptr p0K 0) (.c 3 (.ptr k2 0) (.c 29 (.sc (.bool s)) .nil))) (λx m=> ?_) ?_
 refine v0 (u7 (by kernel_rfl) (dM fD rfl rfl (vl 0 _ cE rfl rfl rfl ?_)))
 apply vi m <;> intro b0 m
 rw[b0]
 exact gW m
 rw[b0]
 refine dM fD rfl rfl (vl 0 _ cE rfl rfl rfl (jD rfl (dM fN rfl rfl (vl 1 (aZ gV) gH rfl rfl rfl (bU (dP o6 oV rfl) ?_)))))
 apply vi m <;> intro b1 m
 rw[b1]
 exact gW m
 rw[b1]
 refine jD rfl (dM fN rfl rfl (vl 1 (aZ gV) gH rfl rfl rfl (dM fD rfl rfl (vl 0 _ cE rfl rfl rfl ?_))))
 obtain⟨x0,X0,m⟩:=aC m
 refine bU (cJ X0 kZ oV rfl rfl) (bU (cR (bG.ne oV X0) mI rfl rfl) (vn (λu=>dW (fo:=2) (nZ x0.State) X0 dY oV cE rfl (aI 5 u rfl) (λ_=>rfl)) ?_))
 exact gW m
 rintro _ j0 m
 refine v0 ?_
 apply vi m <;> intro c0 m
 refine vs (v0 (v0 ?_))
 cases m
 exact vr λu=>dV.of1 (.inl rfl) (fP _ _ (.sc (.int _ _)) rfl) (bD u [1,2,3,4,5] rfl).2 (bE.refl _ _) ⟨gV,oV,(bD u [1,2,3,4,5] rfl).1,rfl,rfl⟩
 refine v0 (vs (v0 ?_))
 refine vz [(1000000,some p0K,.obj 30 ([nZ p0.Seq,aZ gS,aZ gC,aZ gE,aZ gV])),(1000000,some k2,.obj 62 (aD p1))] mixed (λu=>⟨λ_=>aI 1 u rfl,λ_=>aI 0 u rfl,trivial⟩) λu=> ?_
 refine zP 0 rfl rfl ?_
 refine zN 1 rfl rfl ?_
 refine zF 2 rfl fN rfl ?_
 refine zL 3 0 (aZ gV) rfl gH rfl rfl rfl ?_
 refine zF 4 rfl fD rfl ?_
 refine zL 5 1 (nZ p1.Vol) rfl cE rfl rfl rfl ?_
 obtain⟨x1,X1,m⟩:=aC m
 refine zC 6 rfl (cJ X1 kZ oV rfl rfl) ?_
 refine zC 7 rfl (cR (bG.ne oV X1) mI rfl rfl) ?_
 refine zE 8 rfl (cG (fo:=2) ({ x1 with State:=1}:aP) 5 u X1 dY oV rfl rfl rfl rfl (cT.refl _ _) xW rfl rfl λK1=>⟨⟨λ_=>aI 1 K1 rfl,λ_=>aI 0 K1 rfl,trivial⟩, ?_⟩)
 refine zX (qk (f:=RO 37 _ _ _ _ _ _ _ _ _) K1 rfl ?_)
 refine vs (v0 ?_)
 refine vz [(1000000,some p0K,.obj 30 ([nZ p0.Seq,aZ gS,aZ gC,aZ gE,aZ gV])),(1000000,some k2,.obj 62 (aD p1)),(12,gV.t,.obj 49 (fl cZ (p0.Vols.set p1.Vol.toNat ({ x1 with State:=1}):List aP) gV.sp))] mixed (λu=>⟨λ_=>aI 1 u rfl,λ_=>aI 0 u rfl,λ_=>aI 5 u rfl,trivial⟩) λu=> ?_
 refine zP 0 rfl rfl ?_
 refine zN 1 rfl rfl ?_
 refine zF 2 rfl fN rfl ?_
 refine zL 3 0 (aZ gV) rfl gH rfl rfl rfl ?_
 refine zF 4 rfl fD rfl ?_
 refine zL 5 1 (nZ p1.Vol) rfl cE rfl rfl rfl ?_
 obtain⟨x2,X2,m⟩:=aC m
 refine zC 6 rfl (cJ X2 kZ (bG.set oV) rfl rfl) ?_
 refine zC 7 rfl (cR (bG.ne (bG.set oV) X2) BB rfl rfl) ?_
 refine uS 8 rfl (λ_ _ hi hB=>dW (fo:=1) (nZ x2.Epoch) X2 dY (bG.set oV) cE rfl (fW.get 2 hi rfl (hB 12 (by kernel_rfl))) (λ_=>rfl)) ?_
 refine zC 9 rfl (kX rfl rfl rfl trivial) ?_
 obtain⟨x3,X3,m⟩:=aC m
 refine zC 10 rfl (cJ X3 kZ (bG.set oV) rfl rfl) ?_
 refine zC 11 rfl (cR (bG.ne (bG.set oV) X3) BB rfl rfl) ?_
 refine zE 12 rfl (cG (fo:=1) ({ x3 with Epoch:=IntKind.wrap .i64 (x2.Epoch+1)}:aP) 5 u X3 dY (bG.set oV) rfl rfl rfl rfl (cT.refl _ _) xW rfl rfl λK2=>⟨⟨λ_=>aI 1 K2 rfl,λ_=>aI 0 K2 rfl,λe=>absurd e (by decide),trivial⟩, ?_⟩)
 refine zX (qk (f:=IF 49 _ _ _ _ _ _ _ _ _ _ _ _ _) K2 rfl ?_)
 refine vs (v0 (v0 ?_))
 cases m
 exact vr λu=>dV.of1 (.inl rfl) (fP _ _ (.sc (.int _ _)) rfl) (bD u [1,2,3,4,5] rfl).2 (bE.refl _ _) ⟨gV,(bG.set (bG.set oV)),(bD u [1,2,3,4,5] rfl).1,rfl,rfl⟩
theorem aDA:aO Tryz.prog 76=true:=by kernel_rfl
def L4 (m:Nat) (p0:aG) (c0:aS):Option (Bool):=
 some (p0.Seq==c0.Seq)
theorem aDB {w:Nat} {p0:aG} {c0:aS} {o:Bool} (h:aE) {c0K:cB} (c0H:h c0K=some (.obj 62 (aD c0))) (m:L4 w p0 c0=some o):
 aL Tryz.prog 118 [.agg (bR p0),.ptr c0K 0] h (λr h'=>r= .sc (.bool o)∧h'=h):=by
 refine fY 9 [.tmp 3] Tryz.func118 rfl rfl rfl rfl ?_
 unfold L4 at m
 refine v ?_
 refine gZ rfl rfl λk2 K3=> ?_
 refine v (vl 0 _ cE rfl rfl rfl (vn (λu=>oH (nZ c0.Seq) cE rfl (jZ u c0H) rfl) (v ?_)))
 cases m
 exact eK rfl
theorem XE:aO Tryz.prog 118=true:=by kernel_rfl
def sA (m:Nat) (p0:aB) (q0:List aA) (q1:Int):Option (Lp ((List aA)×Int) ((List aA))):=
 if (decide (q1 < (p0.Chunks.length:Int)))=true then ((ix p0.Chunks q1).bind λx0=>(WK m ({ Seq:=p0.Seq,Snaps:=p0.Snaps,Chunks:=p0.Chunks,Exps:=p0.Exps,Vols:=p0.Vols}:aB) x0.Id).bind λy0=>after (if (!y0)=true then (some (.brk { { x0 with Staged:=false} with Data:=([]:List Int)})) else some (.brk x0):Option (Lp (aA) (Lp ((List aA)×Int) ((List aA))))) λj0=>after (if j0.Staged=true then (some (.brk true)) else some (.brk (decide (0 < (j0.Locs.length:Int)))):Option (Lp (Bool) (Lp ((List aA)×Int) ((List aA))))) λj1=>after (if j1=true then ((app q0 ([j0]:List aA)).bind λz0=>some (.brk z0)) else some (.brk q0):Option (Lp ((List aA)) (Lp ((List aA)×Int) ((List aA))))) λj2=>some (.go (j2,IntKind.wrap .i64 (q1+1)))) else some (.brk (q0,q1))
def GB (m:Nat) (p0:aB):Option ((List aA)):=
 after (aW (λs=>sA m p0 s.1 s.2) m ([],0)) λ⟨r0,r1⟩=>some r0
theorem XF {w:Nat} {p0:aB} {o:(List aA)} (h:aE) {p0K:cB} {gS:cQ} (ok_Snaps:bG gS 4 p0.Snaps.length) {gC:cQ} (oC:bG gC 35 p0.Chunks.length) {gE:cQ} (oE:bG gE 3 p0.Exps.length) {gV:cQ} (oV:bG gV 4 p0.Vols.length) (K0:bT h [OC p0K p0.Seq gS gC gE gV,bB gS p0.Snaps,aT gC p0.Chunks,bV gE p0.Exps,aM gV p0.Vols]) (m:GB w p0=some o):
 aL Tryz.prog 120 [.ptr p0K 0] (hp h [OC p0K p0.Seq gS gC gE gV,bB gS p0.Snaps,aT gC p0.Chunks,bV gE p0.Exps,aM gV p0.Vols]) (λr h'=>∃g_Chunks':cQ,bG g_Chunks' 35 (o:List aA).length∧bT h [OC p0K p0.Seq gS g_Chunks' gE gV,bB gS p0.Snaps,aT g_Chunks' o,bV gE p0.Exps,aM gV p0.Vols]∧r= .tup []∧h'=hp h [OC p0K p0.Seq gS g_Chunks' gE gV,bB gS p0.Snaps,aT g_Chunks' o,bV gE p0.Exps,aM gV p0.Vols]):=by
 refine sN K0 40 [] Tryz.func120 rfl rfl rfl rfl ?_
 unfold GB at m
 refine vs (v0 (vs (vs (v0 (jD rfl (dM dX rfl rfl (vl 0 (aZ gC) eU rfl rfl rfl (bU (dP jE oC rfl) (pJ (EN (.obj 44 (fl aH ([]:List aA) g0.sp)) 2 (aZ g0) (fU _)) ?_)))))))))
 refine m5 m (σ:=(List aA)×Int) (τ:=cQ) (λg s=> [aT g s.1,OC p0K p0.Seq gS gC gE gV,bB gS p0.Snaps,aT gC p0.Chunks,bV gE p0.Exps,aM gV p0.Vols]) (λg s=>bG g 35 (s.1:List aA).length) (λg s=>.c 0 (.ptr p0K 0) (.c 2 (aZ g) (.c 8 (aZ gC) (.c 9 (nZ (p0.Chunks.length:Int)) (.c 10 (nZ s.2) .nil))))) g0 (bG.g0 35) (lx (.k5 .nil)) ?_ ?_
 rintro ag0 ⟨q0,q1⟩ x O0 m
 replace m:sA w p0 q0 q1=some x:=m
 unfold sA at m
 refine vs (v0 (vs (v0 ?_)))
 apply vi m <;> intro c0 m
 refine v0 (vs (v0 (vs (v0 ?_))))
 obtain⟨x0,X0,m⟩:=aC m
 refine bU (cJ X0 fI oC rfl rfl) (vn (λu=>dW (fo:=0) (.agg (aH x0)) X0 cK oC mH rfl (aI 3 u rfl) (λ_=>rfl)) ?_)
 refine ve λu=>bI (bM jR++(JK:List AV)) u m7 rfl rfl λk174 K1=>qk K1 rfl ?_
 refine ve λu=>aJ 0 (aH x0) u rfl rfl rfl rfl wN rfl rfl λK2=>qk K2 rfl ?_
 refine vs (vs (v0 (u7 (by kernel_rfl) (jD rfl (vl 2 (.agg ([nZ p0.Seq,aZ gS,aZ gC,aZ gE,aZ gV])) eV rfl rfl rfl (dM nU rfl rfl (vl 0 (.agg (bM x0.Id)) fZ rfl rfl rfl ?_)))))))
 obtain⟨_,Y0,m⟩:=aC m
 refine vn (λu=>bY (fC (.cons (Br.agg (.cons (Br.refl _ _) (.cons (Br.aw 3 eH ok_Snaps u rfl) (.cons (Br.aw 4 cK oC u rfl) (.cons (Br.aw 5 fH oE u rfl) (.cons (Br.aw 6 dY oV u rfl) .nil)))))) (.cons (Br.refl _ _) .nil)) rfl (W22 _ Y0)) rfl aB8 rfl) ?_
 refine fR m (σ:=aA) (λs=> [(some k174,.obj 44 (aH s)),aT ag0 q0,OC p0K p0.Seq gS gC gE gV,bB gS p0.Snaps,aT gC p0.Chunks,bV gE p0.Exps,aM gV p0.Vols]) (λs=>.c 0 (.ptr p0K 0) (.c 2 (aZ ag0) (.c 4 (.ptr k174 0) (.c 8 (aZ gC) (.c 9 (nZ (p0.Chunks.length:Int)) (.c 10 (nZ q1) .nil)))))) (λx m=> ?_) ?_
 refine v0 ?_
 apply vi m <;> intro c1 m
 refine v0 (dM nV rfl rfl ?_)
 refine ve λu=>aJ 0 (aH { x0 with Staged:=false}) u rfl rfl rfl rfl T5 rfl rfl λK3=>qk K3 rfl ?_
 refine dM jK rfl rfl ?_
 refine ve λu=>wH 0 (aH { { x0 with Staged:=false} with Data:=([]:List Int)}) u rfl rfl rfl rfl (.cons (aV _) .nil) BA rfl rfl λK4=>qk K4 rfl ?_
 exact qB m
 refine v0 ?_
 exact qB m
 rintro _ j0 m
 refine vs ?_
 refine fR m (σ:=Bool) (λs=> [(some k174,.obj 44 (aH j0)),aT ag0 q0,OC p0K p0.Seq gS gC gE gV,bB gS p0.Snaps,aT gC p0.Chunks,bV gE p0.Exps,aM gV p0.Vols]) (λs=>.c 0 (.ptr p0K 0) (.c 2 (aZ ag0) (.c 4 (.ptr k174 0) (.c 8 (aZ gC) (.c 9 (nZ (p0.Chunks.length:Int)) (.c 10 (nZ q1) (.c 30 (.sc (.bool s)) .nil))))))) (λx m=> ?_) ?_
 refine v0 (dM nV rfl rfl (vl 0 _ DH rfl rfl rfl ?_))
 apply vi m <;> intro b0 m
 rw[b0]
 exact A6 m
 rw[b0]
 refine dM iO rfl rfl (vl 0 _ fJ rfl rfl rfl (dL jJ rfl ?_))
 exact A6 m
 rintro _ j1 m
 refine oU m (σ:=(List aA)) (τ:=cQ) (λg s=> [(some k174,.obj 44 (aH j0)),aT g s,OC p0K p0.Seq gS gC gE gV,bB gS p0.Snaps,aT gC p0.Chunks,bV gE p0.Exps,aM gV p0.Vols]) (λg s=>bG g 35 (s:List aA).length) (λg s=>.c 0 (.ptr p0K 0) (.c 2 (aZ g) (.c 8 (aZ gC) (.c 9 (nZ (p0.Chunks.length:Int)) (.c 10 (nZ q1) .nil))))) (λx m=> ?_) ?_
 refine v0 ?_
 apply vi m <;> intro c2 m
 refine v0 (vl 0 (.agg (aH j0)) mH rfl rfl rfl (bU (eI (List.map aH ([j0]:List aA)) kY rfl rfl rfl rfl) ?_))
 obtain⟨z0,Z0,m⟩:=aC m
 refine ve λu=>fX (c:=aH) 1 Z0 kY rfl m7 rfl cK rfl rfl O0 u rfl λag1 O1 K5=>qk K5 rfl ?_
 exact eR m ag1 O1 (lx (.k5 .nil))
 refine v0 ?_
 exact eR m ag0 O0 (lx (.k5 .nil))
 rintro ag2 j2 O2 m
 refine v0 ?_
 exact eR m ag2 O2 (l4 [1,2,3,4,5,6] rfl rfl (.k5 .nil))
 refine v0 ?_
 exact kT m ag0 O0 (lx (.k5 .nil))
 rintro ag3 ⟨r0,r1⟩ t0 m
 refine v0 (jD rfl (dM dX rfl rfl ?_))
 refine ve λu=>aJ 1 ([nZ p0.Seq,aZ gS,aZ ag3,aZ gE,aZ gV]) u rfl rfl (bZ rfl) (cC (bW _ _ _) rfl) yA rfl rfl λK6=>qk K6 rfl ?_
 obtain rfl:=eY m
 exact vr λu=>dV.zero (.inr rfl) (bD u [1,2,0,4,5] rfl).2 ⟨ag3,t0,(bD u [1,2,0,4,5] rfl).1,rfl,rfl⟩
theorem QS:aO Tryz.prog 120=true:=by kernel_rfl
theorem aDC {α:Type} {c:α→List AV} (hc:∀y,(c y).length=4) {p0 o:List α} {p1 p2:Int} (h:aE) {g:cQ} (ok:bG g 4 p0.length) (K0:bT h [(g.t,.obj 60 (fl c p0 g.sp))]) (u:I0 p0 p1 p2=some o):
 aL Tryz.prog 119 [aZ g,nZ p1,nZ p2] (hp h [(g.t,.obj 60 (fl c p0 g.sp))]) (λr h'=>∃g:cQ,bG g 4 o.length∧bT h [(g.t,.obj 60 (fl c o g.sp))]∧r=aZ g∧h'=hp h [(g.t,.obj 60 (fl c o g.sp))]):=by
 obtain⟨i0,i1,i2,ho⟩:=I1 u
 obtain⟨gt,gn,cap,sp⟩:=g
 have hne:gt≠none:=λe=>by have:=ok.nil e; omega
 obtain⟨k,rfl⟩:∃k,gt=some k:=by cases gt with
 | none=>exact absurd rfl hne
 | some k=>exact⟨k,rfl⟩
 have hgn:gn=p0.length:=ok.eqn
 subst hgn
 have hle:p0.length≤cap:=ok.le
 have hmx:cap≤maxLen:=ok.mx
 have hlen:p0.length*4+sp.length=cap*4:=ok.len
 obtain⟨a,rfl⟩:∃a:Nat,p1=a:=⟨p1.toNat,by omega⟩
 obtain⟨b,rfl⟩:∃b:Nat,p2=b:=⟨p2.toNat,by omega⟩
 simp only[Int.toNat_natCast] at ho
 have ha:a < b:=by omega
 have hb:b≤p0.length:=by omega
 have hzl:(p0.take a++p0.drop b).length=a+(p0.length - b):=by simp; omega
 have hsp:=GA hc (Nat.le_of_lt ha) hb sp
 have hal:(p0.take a++p0.drop b++p0.drop (a+(p0.length - b))).length=p0.length:=by simp; omega
 have htk:(p0.take a++p0.drop b++p0.drop (a+(p0.length - b))).take (a+(p0.length - b))=o:=by rw[ho,← hzl,List.take_left]
 have O2:bG ⟨some k,p0.length,cap,sp⟩ 4 (p0.take a++p0.drop b++p0.drop (a+(p0.length - b))).length:=by rw[hal]; exact ok
 have O3:bG ⟨some k,a+(p0.length - b),cap,((p0.drop (a+(p0.length - b))).map c).flatten++sp⟩ 4 (a+(p0.length - b)):=⟨rfl,nofun,by show a+(p0.length - b)≤cap; omega,hmx,by
   show (a+(p0.length - b))*4+(((p0.drop (a+(p0.length - b))).map c).flatten++sp).length=cap*4
   rw[List.length_append,i7 hc,List.length_drop]; omega⟩
 refine sN K0 33 [.tmp 6] Tryz.func119 rfl rfl rfl rfl ?_
 repeat refine vs ?_
 refine v0 ?_
 repeat refine vs ?_
 refine v0 (bU (dP jU ok rfl) (bU (TA (cap:=cap) i0 (by omega) (by omega) (by omega) iN rfl rfl rfl rfl) ?_))
 repeat refine vs ?_
 refine v0 (v0 (vf (by simp; omega) (v0 ?_)))
 repeat refine vs ?_
 refine v0 (bU (dP jU ok rfl) ?_)
 repeat refine vs ?_
 refine v0 ?_
 refine vz [] mixed (λw=>trivial) λw=> ?_
 refine zC 0 rfl (eT (.vw _ _ _) rfl) ?_
 refine zI 1 rfl rfl ?_
 refine zC 2 rfl (xC (cap:=cap) i0 (by omega) iN rfl rfl) ?_
 refine zC 3 rfl (eT (.vw _ _ _) rfl) ?_
 refine zI 4 rfl rfl ?_
 by_cases hbl:b=p0.length
 subst hbl
 have e0:p0.length - p0.length=0:=Nat.sub_self _
 refine zC 5 rfl (XD (m:=p0.length) iN rfl rfl) ?_
 have ee:fl c p0 sp=fl c (p0.take a++p0.drop p0.length++p0.drop (a+(p0.length - p0.length))) sp:=by
   rw[List.drop_length,List.append_nil,e0,Nat.add_zero,List.take_append_drop]
 refine zE 6 rfl (L2 uU (i:=a) rfl rfl ⟨trivial, ?_⟩)
 refine zC 7 rfl (eZ (y:=.vw k (a+(p0.length - p0.length)) cap) (hU (.vw k a cap) rfl) (bE.of_eq (by rw[e0,Nat.add_zero]))) ?_
 have K1:bT h [(some k,h9.obj 60 (fl c (p0.take a++p0.drop p0.length++p0.drop (a+(p0.length - p0.length))) sp))]:=by rw[← ee]; exact w
 refine zX (qk (f:=.c 0 (.vw k (a+(p0.length - p0.length)) cap) (.c 26 _ (.c 25 _ (.c 24 _ (.c 23 _ (.c 22 _ (.c 21 _ (.c 20 _ _)))))))) K1 (by rw[← ee]) ?_)
 repeat refine vs ?_
 refine v0 (bU (dP (g:=⟨some k,a+(p0.length - p0.length),cap,_⟩) jU O3 rfl) (bU (QP (cap:=cap) (by omega) (by omega) (by omega) iN rfl rfl rfl) ?_))
 refine ve λw=>zH (g:=⟨some k,p0.length,cap,sp⟩) (i:=((a+(p0.length - p0.length):Nat):Int)) 0 w (by rw[hal]; simp; omega) hc O2 u25 tJ rfl rfl (by rw[hal]; rfl) rfl λsp' ok' hk'=>qk hk' rfl ?_
 repeat refine vs ?_
 refine v0 (v0 ?_)
 subst htk
 exact vr λw=>dV.one (.inl rfl) (bD w [0] rfl).2 (bE.refl _ _) ⟨⟨some k,a+(p0.length - p0.length),cap,sp'⟩,ok',(bD w [0] rfl).1,rfl,rfl⟩
 refine zC 5 rfl (jI (m:=p0.length) (by omega) (by omega) iN rfl rfl) ?_
 have e2:((p0.drop b).map c).flatten=((fl c p0 sp).drop (b*4)).take (((p0.drop b).map c).flatten.length):=by
   rw[D3 hc hb]; unfold fl; rw[List.take_left]
 obtain⟨j,K1,_⟩:=iX (e':=.obj 60 (fl c (p0.take a++p0.drop b++p0.drop (a+(p0.length - b))) sp)) 0 w (show ([(some k,h9.obj 60 (fl c p0 sp))]:HL)[0]? =_ from rfl) (.inl rfl)
 refine zE 6 rfl (L0 uU (i:=a) (m:=p0.length - b) (ys:=((p0.drop b).map c).flatten) rfl (a8 0 w rfl) (by rw[e2]; rw[← e2]; have:=zT.view (m:=p0.length - b) (off:=b*4) (c:=((p0.drop b).map c).flatten.length) (a8 0 w (show ([(some k,h9.obj 60 (fl c p0 sp))]:HL)[0]? =some (some k,h9.obj 60 (fl c p0 sp)) from rfl)); rw[← e2] at this; exact this) (by rw[i7 hc,List.length_drop]) (by omega) (by rw[i7 hc,List.length_drop,E6 hc]; omega) ⟨trivial, ?_⟩)
 refine zC 7 rfl (hU (.vw _ _ _) rfl) ?_
 refine zX (qk (f:=.c 0 (.vw k (a+(p0.length - b)) cap) (.c 26 _ (.c 25 _ (.c 24 _ (.c 23 _ (.c 22 _ (.c 21 _ (.c 20 _ _)))))))) K1 (by rw[← j]; show upd _ _ (some (h9.obj 60 (eB (fl c p0 sp) (a*4) _)))=_; rw[hsp]) ?_)
 repeat refine vs ?_
 refine v0 (bU (dP (g:=⟨some k,a+(p0.length - b),cap,_⟩) jU O3 rfl) (bU (QP (cap:=cap) (by omega) (by omega) (by omega) iN rfl rfl rfl) ?_))
 refine ve λw=>zH (g:=⟨some k,p0.length,cap,sp⟩) (i:=((a+(p0.length - b):Nat):Int)) 0 w (by rw[hal]; simp; omega) hc O2 u25 tJ rfl rfl (by rw[hal]; rfl) rfl λsp' ok' hk'=>qk hk' rfl ?_
 repeat refine vs ?_
 refine v0 (v0 ?_)
 subst htk
 exact vr λw=>dV.one (.inl rfl) (bD w [0] rfl).2 (bE.refl _ _) ⟨⟨some k,a+(p0.length - b),cap,sp'⟩,ok',(bD w [0] rfl).1,rfl,rfl⟩
theorem XG:aO Tryz.prog 119=true:=by kernel_rfl
def T9 (m:Nat) (p0:aB) (p1:aS):Option (Int×(List aG)×(List aA)):=
 (uH m p0.Snaps (λx0=>L4 m x0 p1)).bind λy6=>if (decide (y6 < 0))=true then (some (8,p0.Snaps,p0.Chunks)) else (I0 p0.Snaps y6 (IntKind.wrap .i64 (y6+1))).bind λy0=>(GB m ({ Seq:=p0.Seq,Snaps:=y0,Chunks:=p0.Chunks,Exps:=p0.Exps,Vols:=p0.Vols}:aB)).bind λy1=>some (0,y0,y1)
theorem W73 {w:Nat} {p0:aB} {p1:aS} {o:Int×(List aG)×(List aA)} (h:aE) {p0K:cB} {gS:cQ} (ok_Snaps:bG gS 4 p0.Snaps.length) {gC:cQ} (oC:bG gC 35 p0.Chunks.length) {gE:cQ} (oE:bG gE 3 p0.Exps.length) {gV:cQ} (oV:bG gV 4 p0.Vols.length) (K0:bT h [OC p0K p0.Seq gS gC gE gV,bB gS p0.Snaps,aT gC p0.Chunks,bV gE p0.Exps,aM gV p0.Vols]) (m:T9 w p0 p1=some o):
 aL Tryz.prog 73 [.ptr p0K 0,.agg (aD p1)] (hp h [OC p0K p0.Seq gS gC gE gV,bB gS p0.Snaps,aT gC p0.Chunks,bV gE p0.Exps,aM gV p0.Vols]) (λr h'=>∃g_Snaps':cQ,bG g_Snaps' 4 (o.2.1:List aG).length∧∃g_Chunks':cQ,bG g_Chunks' 35 (o.2.2:List aA).length∧bT h [OC p0K p0.Seq g_Snaps' g_Chunks' gE gV,bB g_Snaps' o.2.1,aT g_Chunks' o.2.2,bV gE p0.Exps,aM gV p0.Vols]∧r=nZ o.1∧h'=hp h [OC p0K p0.Seq g_Snaps' g_Chunks' gE gV,bB g_Snaps' o.2.1,aT g_Chunks' o.2.2,bV gE p0.Exps,aM gV p0.Vols]):=by
 refine sN K0 27 [.tmp 4] Tryz.func73 rfl rfl rfl rfl ?_
 unfold T9 at m
 refine vs (v0 ?_)
 refine gZ rfl rfl λk2 K3=> ?_
 refine vs (v0 (jD rfl (dM dU rfl rfl (vl 1 (aZ gS) fM rfl rfl rfl ?_))))
 obtain⟨_,Y7,m⟩:=aC m
 refine ve λu=>cY ((a9 u [2,0,1,3,4,5] rfl rfl).1.trans (cS h [bB gS p0.Snaps] [(some k2,.obj 62 (aD p1)),OC p0K p0.Seq gS gC gE gV,aT gC p0.Chunks,bV gE p0.Exps,aM gV p0.Vols]).symm) (cI (QR (hp h [(some k2,.obj 62 (aD p1)),OC p0K p0.Seq gS gC gE gV,aT gC p0.Chunks,bV gE p0.Exps,aM gV p0.Vols]) ok_Snaps (cH [bB gS p0.Snaps] [(some k2,.obj 62 (aD p1)),OC p0K p0.Seq gS gC gE gV,aT gC p0.Chunks,bV gE p0.Exps,aM gV p0.Vols] (a9 u [2,0,1,3,4,5] rfl rfl).2).2 XE (λ_ o h0 hs ho=>aDB _ (hs _ _ (a8 0 (cH [bB gS p0.Snaps] [(some k2,.obj 62 (aD p1)),OC p0K p0.Seq gS gC gE gV,aT gC p0.Chunks,bV gE p0.Exps,aM gV p0.Vols] (a9 u [2,0,1,3,4,5] rfl rfl).2).1 rfl)) ho) Y7) rfl DK rfl ?_)
 rintro x h' ⟨rfl,rfl⟩
 refine qk u ((cS h [bB gS p0.Snaps] [(some k2,.obj 62 (aD p1)),OC p0K p0.Seq gS gC gE gV,aT gC p0.Chunks,bV gE p0.Exps,aM gV p0.Vols]).trans (a9 u [2,0,1,3,4,5] rfl rfl).1.symm) ?_
 refine vs (vs (v0 (v0 ?_)))
 apply vi m <;> intro c0 m
 refine vs (v0 (v0 ?_))
 cases m
 exact vr λu=>dV.of1 (.inl rfl) (fP _ _ (.sc (.int _ _)) rfl) (bD u [1,2,3,4,5] rfl).2 (bE.refl _ _) ⟨gS,ok_Snaps,gC,oC,(bD u [1,2,3,4,5] rfl).1,rfl,rfl⟩
 refine v0 (vs (v0 (jD rfl (dM dU rfl rfl (vl 1 (aZ gS) fM rfl rfl rfl ?_)))))
 obtain⟨y0,Y0,m⟩:=aC m
 refine ve λu=> ?_
 have ho0:=lN (A:= [bB gS p0.Snaps]) (R:= [(some k2,.obj 62 (aD p1)),OC p0K p0.Seq gS gC gE gV,aT gC p0.Chunks,bV gE p0.Exps,aM gV p0.Vols]) u [[_], [_], [_], [_], [_], [_]] rfl [2] [0,1,3,4,5] rfl rfl rfl
 refine cY ho0.1 (cI (aDC eH _ ok_Snaps ho0.2.2 Y0) rfl XG rfl ?_)
 rintro x h' ⟨ag0,O0,K1,rfl,rfl⟩
 have K2:=lO (L':= [(some k2,.obj 62 (aD p1)),(hO p0K p0.Seq gS gC gE gV),bB ag0 y0,aT gC p0.Chunks,bV gE p0.Exps,aM gV p0.Vols]) ho0.2.1 K1 [[_]] [[_], [_], [_], [_], [_]] rfl rfl [1,2,0,3,4,5] rfl rfl
 refine qk K2.2 K2.1 ?_
 refine jD rfl (dM dU rfl rfl ?_)
 refine ve λu=>aJ 1 ([nZ p0.Seq,aZ ag0,aZ gC,aZ gE,aZ gV]) u rfl rfl (bZ rfl) (cC (bW _ _ _) rfl) FH rfl rfl λK4=>qk K4 rfl ?_
 refine vs (v0 ?_)
 obtain⟨y1,Y1,m⟩:=aC m
 refine ve λu=>cY ((a9 u [1,2,3,4,5,0] rfl rfl).1.trans (cS h [OC p0K p0.Seq ag0 gC gE gV,bB ag0 y0,aT gC p0.Chunks,bV gE p0.Exps,aM gV p0.Vols] [(some k2,.obj 62 (aD p1))]).symm) (cI (XF (p0:=({ Seq:=p0.Seq,Snaps:=y0,Chunks:=p0.Chunks,Exps:=p0.Exps,Vols:=p0.Vols}:aB)) (hp h [(some k2,.obj 62 (aD p1))]) O0 oC oE oV (cH [OC p0K p0.Seq ag0 gC gE gV,bB ag0 y0,aT gC p0.Chunks,bV gE p0.Exps,aM gV p0.Vols] [(some k2,.obj 62 (aD p1))] (a9 u [1,2,3,4,5,0] rfl rfl).2).2 Y1) rfl QS rfl ?_)
 rintro x h' ⟨ag1,O1,K5,rfl,rfl⟩
 have K6:=a9 (L':= [(some k2,.obj 62 (aD p1)),OC p0K p0.Seq ag0 ag1 gE gV,bB ag0 y0,aT ag1 y1,bV gE p0.Exps,aM gV p0.Vols]) (dF (cH [OC p0K p0.Seq ag0 gC gE gV,bB ag0 y0,aT gC p0.Chunks,bV gE p0.Exps,aM gV p0.Vols] [(some k2,.obj 62 (aD p1))] (a9 u [1,2,3,4,5,0] rfl rfl).2).1 K5) [5,0,1,2,3,4] rfl rfl
 refine qk K6.2 ((cS h [OC p0K p0.Seq ag0 ag1 gE gV,bB ag0 y0,aT ag1 y1,bV gE p0.Exps,aM gV p0.Vols] [(some k2,.obj 62 (aD p1))]).trans K6.1) ?_
 refine vs (v0 (v0 ?_))
 cases m
 exact vr λu=>dV.of1 (.inl rfl) (fP _ _ (.sc (.int _ _)) rfl) (bD u [1,2,3,4,5] rfl).2 (bE.refl _ _) ⟨ag0,O0,ag1,O1,(bD u [1,2,3,4,5] rfl).1,rfl,rfl⟩
theorem aDD:aO Tryz.prog 73=true:=by kernel_rfl
open Go.Vm
theorem aDE {α:Type} {c:α→List AV} (hc:∀y,(c y).length=4) {p0 o:List α} {p1:Int} {x:α} (h:aE) {g:cQ} (ok:bG g 4 p0.length) (K0:bT h [(g.t,.obj 81 (fl c p0 g.sp))]) (u:oQ p0 p1 x=some o):
 aL Tryz.prog 187 [aZ g,nZ p1,.sl none 4 (List.map c [x])] (hp h [(g.t,.obj 81 (fl c p0 g.sp))]) (λr h'=>∃g:cQ,bG g 4 o.length∧bT h [(g.t,.obj 81 (fl c o g.sp))]∧r=aZ g∧h'=hp h [(g.t,.obj 81 (fl c o g.sp))]):=by
 obtain⟨i0,i1,i2,ho⟩:=kP u
 have hv1:((([x]:List α).length:Int)==0)=false:=rfl
 refine sN K0 95 [.tmp 6] Tryz.func187 rfl rfl rfl rfl ?_
 repeat refine vs ?_
 refine v0 ?_
 repeat refine vs ?_
 refine v0 (bU (F9 i0 i1 ok jV rfl rfl) ?_)
 repeat refine vs ?_
 refine v0 (dL jJ rfl ?_)
 repeat refine vs ?_
 refine v0 (v0 ?_)
 show VC _ _ _ Code.skip _ _ _ _
 refine v0 ?_
 repeat refine vs ?_
 refine v0 (bU (dP jJ ok rfl) ?_)
 repeat refine vs ?_
 refine v0 (v0 ?_)
 by_cases hi:p1=(p0.length:Int)
 refine vt (by simpa using hi) ?_
 repeat refine vs ?_
 refine v0 ?_
 refine ve λw=>fX (c:=c) 0 (BO i2) oO rfl DI rfl hc rfl rfl ok w rfl λg' ok' hk'=>qk hk' rfl ?_
 refine v0 ?_
 have e:o=p0++ [x]:=by subst hi; rw[ho]; simp
 subst e
 exact vr λw=>dV.one (.inl rfl) (hH.refl _) (bE.refl _ _) ⟨g',ok',w,rfl,rfl⟩
 refine vf (by simpa using hi) (v0 ?_)
 have hlt:p1.toNat < p0.length:=by omega
 obtain⟨gt,gn,cap,sp⟩:=g
 have hne:gt≠none:=λe=>by have:=ok.nil e; omega
 obtain⟨k,rfl⟩:∃k,gt=some k:=by cases gt with
 | none=>exact absurd rfl hne
 | some k=>exact⟨k,rfl⟩
 have hgn:gn=p0.length:=ok.eqn
 subst hgn
 have hle:p0.length≤cap:=ok.le
 have hmx:cap≤maxLen:=ok.mx
 have hlen:p0.length*4+sp.length=cap*4:=ok.len
 have hw:IntKind.wrap .i64 ((p0.length:Int)+(([x]:List α).length:Int))=((p0.length+1:Nat):Int):=by
   rw[IntKind.wrap_i64]; simp only[List.length_singleton]; omega
 have hw2:IntKind.wrap .i64 (IntKind.wrap .i64 ((p0.length:Int)+(([x]:List α).length:Int)) - p1)=((p0.length+1 - p1.toNat:Nat):Int):=by
   rw[hw,IntKind.wrap_i64]; omega
 have hw3:IntKind.wrap .i64 (p1+(([x]:List α).length:Int))=((p1.toNat+1:Nat):Int):=by
   rw[IntKind.wrap_i64]; simp only[List.length_singleton]; omega
 obtain⟨q1,q2,q3,q4⟩:=nK hc (i:=p1.toNat) (by omega:p1.toNat≤p0.length) sp
 generalize hA:((p0.take p1.toNat).map c).flatten=A at q1 q2 q4
 generalize hB:((p0.drop p1.toNat).map c).flatten=B at q1 q3 q4
 repeat refine vs ?_
 refine v0 (bU (F7 u42 rfl) (v0 ?_))
 by_cases hcap:cap < p0.length+1
 refine vt (by rw[hw]; exact decide_eq_true (show (cap:Int) < ((p0.length+1:Nat):Int) by omega)) ?_
 repeat refine vs ?_
 refine v0 (bU (xC (cap:=cap) i0 (by omega) jV rfl rfl) ?_)
 refine ve λw=>F8 (cap:=cap) (cs:=fl c p0 sp) (i:=p1.toNat) (m:=p0.length+1 - p1.toNat) 0 oO u3 DI rfl (by decide) w rfl rfl (congrArg (λz=>AV.sc (.int .i64 z)) hw2) (by omega) (by rw[q1]; simp only[List.length_append]; omega) (by omega) λq cap' R h1 h2 h3 hk'=>qk hk' rfl ?_
 repeat refine vs ?_
 refine v0 (bU (jI i0 (by omega) jV rfl rfl) ?_)
 have hn0:p1.toNat+(p0.length+1 - p1.toNat)=p0.length+1:=by omega
 have hn1:p1.toNat+(p0.length+1 - p1.toNat) - p1.toNat=p0.length+1 - p1.toNat:=by omega
 have e1:List.take (p1.toNat*4) (fl c p0 sp)=A:=by rw[q1,← q2,List.take_left]
 have hxl:=hc x
 have hR:4+B.length≤R.length:=by omega
 have hfl:(fl c p0 sp).length=A.length+(B.length+sp.length):=by rw[q1]; simp
 obtain⟨R1,R2,R3,hR0,hR1,hR2⟩:∃R1 R2 R3:List AV,R=R1++(R2++R3)∧R1.length=(c x).length∧R2.length=B.length:=
 ⟨R.take 4,(R.drop 4).take B.length,(R.drop 4).drop B.length,by rw[List.take_append_drop,List.take_append_drop],by rw[List.length_take,hxl]; omega,by rw[List.length_take,List.length_drop]; omega⟩
 refine ve λw=>lL 0 oO w rfl rfl (zT.sl (ys:=List.map c [x]) (by simp) _) (by simp[hxl]; omega) (by rw[e1]; simp only[List.length_append]; simp[hxl,q2]; omega) (A++(c x++(R2++R3))) (by
 rw[e1,hR0]
 simp only[List.map_cons,List.map_nil,List.flatten_cons,List.flatten_nil,List.append_nil]
 exact fS q2 hR1) λhk'=>qk hk' rfl ?_
 repeat refine vs ?_
 refine v0 ?_
 have hv4:AV.view q ((IntKind.wrap .i64 (p1+(([x]:List α).length:Int))).toNat*4) (p1.toNat+(p0.length+1 - p1.toNat) - (IntKind.wrap .i64 (p1+(([x]:List α).length:Int))).toNat)= .view q ((p1.toNat+1)*4) (p0.length - p1.toNat):=by
   rw[hw3,Int.toNat_natCast,show p1.toNat+(p0.length+1 - p1.toNat) - (p1.toNat+1)=p0.length - p1.toNat from by omega]
 refine vz [] mixed (λw=>trivial) λw=> ?_
 refine zC 0 rfl (eT (.vw _ _ _) rfl) ?_
 refine zI 1 rfl rfl ?_
 refine zI 2 rfl rfl ?_
 refine zC 3 rfl (kX rfl rfl rfl trivial) ?_
 refine zC 4 rfl (eZ (jI (by rw[hw3]; omega) (by rw[hw3]; omega) jV rfl rfl) (bE.of_eq hv4)) ?_
 refine zC 5 rfl (eT (.vw _ _ _) rfl) ?_
 refine zI 6 rfl rfl ?_
 refine zC 7 rfl (jI (m:=p0.length) i0 (by omega) jV rfl rfl) ?_
 have e2:(List.drop (p1.toNat*4) (fl c p0 sp)).take ((p0.length - p1.toNat)*4)=B:=by
   rw[q1,← q2,List.drop_left,← q3,List.take_left]
 refine zE 8 rfl (lL 0 oO w rfl rfl (cs:=B) (by rw[← e2]; exact zT.view (a8 1 w rfl)) (n1:=p0.length - p1.toNat) (m:=p0.length - p1.toNat) (by rw[q3,Nat.min_self]) (by simp only[List.length_append,hxl,q2,hR2]; omega) (fl c (p0.take p1.toNat++x::p0.drop p1.toNat) R3) (by
 rw[q4 x R3,← List.append_assoc A,← List.append_assoc A]
 exact fS (A:=A++c x) (by rw[List.length_append,hxl,q2]; omega) hR2) λK1=>⟨trivial, ?_⟩)
 refine zX (qk (f:=T4 54 _ _ _ _ _ _ _ _ _ _) K1 rfl ?_)
 repeat refine vs ?_
 refine v0 (v0 ?_)
 subst ho
 have hol:(List.take p1.toNat p0++x::List.drop p1.toNat p0).length=p0.length+1:=by simp; omega
 refine vr λw=>dV.one (.inl rfl) (bD K1 [0] rfl).2 (bE.of_eq (show AV.vw q _ cap'=aw (some q) (p0.length+1) cap' by rw[hn0]; rfl)) ⟨⟨some q,p0.length+1,cap',R3⟩,⟨hol.symm,nofun,by rw[hol]; show p0.length+1≤cap'; omega,h2,by rw[hol]; show (p0.length+1)*4+R3.length=cap'*4; simp only[hR0,List.length_append,hR1,hR2,hxl] at h3; omega⟩,(bD K1 [0] rfl).1,rfl,rfl⟩
 refine vf (by rw[hw]; exact decide_eq_false (show ¬(cap:Int) < ((p0.length+1:Nat):Int) by omega)) (v0 ?_)
 repeat refine vs ?_
 refine v0 ?_
 have hv0:AV.vw k (IntKind.wrap .i64 ((p0.length:Int)+(([x]:List α).length:Int))).toNat cap= .vw k (p0.length+1) cap:=by rw[hw,Int.toNat_natCast]
 refine bU (eZ (xC (cap:=cap) (by rw[hw]; omega) (by rw[hw]; omega) jV rfl rfl) (bE.of_eq hv0)) ?_
 repeat refine vs ?_
 refine v0 ?_
 have hv4:AV.view k ((IntKind.wrap .i64 (p1+(([x]:List α).length:Int))).toNat*4) (p0.length+1 - (IntKind.wrap .i64 (p1+(([x]:List α).length:Int))).toNat)= .view k ((p1.toNat+1)*4) (p0.length - p1.toNat):=by
   rw[hw3,Int.toNat_natCast,show p0.length+1 - (p1.toNat+1)=p0.length - p1.toNat from by omega]
 refine bU (eZ (jI (m:=p0.length+1) (by rw[hw3]; omega) (by rw[hw3]; omega) jV rfl rfl) (bE.of_eq hv4)) ?_
 have hfl:(fl c p0 sp).length=p1.toNat*4+((p0.length - p1.toNat)*4+sp.length):=by rw[q1,List.length_append,List.length_append,q2,q3]
 refine ve λw=>n8 (sz:=4) (tS:=42) (tR:=4) Tryz.func193 (by kernel_rfl) (by kernel_rfl) (by kernel_rfl) (by kernel_rfl) oO (ys:=List.map c [x]) (by simp) (by decide) rfl rfl (a8 0 w rfl) (by rw[hfl]; omega) (qk w rfl ?_)
 refine v0 ?_
 repeat refine vs ?_
 refine v0 ?_
 refine vz [] mixed (λw=>trivial) λw=> ?_
 refine zC 0 rfl (eT (.vw _ _ _) rfl) ?_
 refine zI 1 rfl rfl ?_
 refine zI 2 rfl rfl ?_
 refine zC 3 rfl (kX rfl rfl rfl trivial) ?_
 refine zC 4 rfl (eZ (jI (m:=p0.length+1) (by rw[hw3]; omega) (by rw[hw3]; omega) jV rfl rfl) (bE.of_eq hv4)) ?_
 refine zC 5 rfl (eT (.vw _ _ _) rfl) ?_
 refine zI 6 rfl rfl ?_
 refine zC 7 rfl (jI (m:=p0.length+1) i0 (by omega) jV rfl rfl) ?_
 have hxl:=hc x
 have e2:(List.drop (p1.toNat*4) (fl c p0 sp)).take ((p0.length - p1.toNat)*4)=B:=by
   rw[q1,← q2,List.drop_left,← q3,List.take_left]
 have hsp:4≤sp.length:=by omega
 obtain⟨X0,Y,Z,hXY,hX0,hY⟩:∃X0 Y Z:List AV,B++sp=X0++(Y++Z)∧X0.length=4∧Y.length=B.length:=
 ⟨(B++sp).take 4,((B++sp).drop 4).take B.length,((B++sp).drop 4).drop B.length,by rw[List.take_append_drop,List.take_append_drop],by rw[List.length_take,List.length_append]; omega,by rw[List.length_take,List.length_drop,List.length_append]; omega⟩
 have hZ:Z.length+4=sp.length:=by
   have:=congrArg List.length hXY
   simp only[List.length_append] at this
   omega
 refine zE 8 rfl (lL 0 oO w rfl rfl (cs:=B) (by rw[← e2]; exact zT.view (a8 0 w rfl)) (n1:=p0.length - p1.toNat) (m:=p0.length+1 - p1.toNat) (by rw[q3]; congr 1; omega) (by show (p1.toNat+1)*4+B.length≤(fl c p0 sp).length; rw[hfl]; omega) (A++(X0++(B++Z))) (by
 show eB (fl c p0 sp) ((p1.toNat+1)*4) B=_
 rw[q1,hXY,← List.append_assoc A,← List.append_assoc A]
 exact fS (A:=A++X0) (by rw[List.length_append,hX0,q2]; omega) hY) λK1=>⟨trivial, ?_⟩)
 refine zX (qk (f:=T4 77 _ _ _ _ _ _ _ _ _ _) K1 rfl ?_)
 repeat refine vs ?_
 refine v0 (bU (jI (m:=p0.length+1) i0 (by omega) jV rfl rfl) ?_)
 refine ve λw=>lL 0 oO w rfl rfl (zT.sl (ys:=List.map c [x]) (by simp) _) (by simp[hxl]; omega) (by simp only[List.map_cons,List.map_nil,List.flatten_cons,List.flatten_nil,List.append_nil,List.length_append,q2,hX0,hxl]; omega) (fl c (p0.take p1.toNat++x::p0.drop p1.toNat) Z) (by
 simp only[List.map_cons,List.map_nil,List.flatten_cons,List.flatten_nil,List.append_nil]
 rw[q4 x Z]
 exact fS q2 (by rw[hX0,hxl])) λK1=>qk K1 rfl ?_
 repeat refine vs ?_
 refine v0 (v0 ?_)
 subst ho
 have hol:(List.take p1.toNat p0++x::List.drop p1.toNat p0).length=p0.length+1:=by simp; omega
 refine vr λw=>dV.one (.inl rfl) (bD w [0] rfl).2 (bE.of_eq (show AV.vw k _ cap=aw (some k) (p0.length+1) cap by rfl)) ⟨⟨some k,p0.length+1,cap,Z⟩,⟨hol.symm,nofun,by rw[hol]; show p0.length+1≤cap; omega,hmx,by rw[hol]; show (p0.length+1)*4+Z.length=cap*4; omega⟩,(bD w [0] rfl).1,rfl,rfl⟩
theorem XH:aO Tryz.prog 187=true:=by kernel_rfl
theorem aDF {α:Type} {c:α→List AV} (hc:∀y,(c y).length=3) {p0 o:List α} {p1:Int} {x:α} (h:aE) {g:cQ} (ok:bG g 3 p0.length) (K0:bT h [(g.t,.obj 99 (fl c p0 g.sp))]) (u:oQ p0 p1 x=some o):
 aL Tryz.prog 180 [aZ g,nZ p1,.sl none 3 (List.map c [x])] (hp h [(g.t,.obj 99 (fl c p0 g.sp))]) (λr h'=>∃g:cQ,bG g 3 o.length∧bT h [(g.t,.obj 99 (fl c o g.sp))]∧r=aZ g∧h'=hp h [(g.t,.obj 99 (fl c o g.sp))]):=by
 obtain⟨i0,i1,i2,ho⟩:=kP u
 have hv1:((([x]:List α).length:Int)==0)=false:=rfl
 refine sN K0 95 [.tmp 6] Tryz.func180 rfl rfl rfl rfl ?_
 repeat refine vs ?_
 refine v0 ?_
 repeat refine vs ?_
 refine v0 (bU (F9 i0 i1 ok iE rfl rfl) ?_)
 repeat refine vs ?_
 refine v0 (dL o5 rfl ?_)
 repeat refine vs ?_
 refine v0 (v0 ?_)
 show VC _ _ _ Code.skip _ _ _ _
 refine v0 ?_
 repeat refine vs ?_
 refine v0 (bU (dP o5 ok rfl) ?_)
 repeat refine vs ?_
 refine v0 (v0 ?_)
 by_cases hi:p1=(p0.length:Int)
 refine vt (by simpa using hi) ?_
 repeat refine vs ?_
 refine v0 ?_
 refine ve λw=>fX (c:=c) 0 (BO i2) oL rfl qE rfl hc rfl rfl ok w rfl λg' ok' hk'=>qk hk' rfl ?_
 refine v0 ?_
 have e:o=p0++ [x]:=by subst hi; rw[ho]; simp
 subst e
 exact vr λw=>dV.one (.inl rfl) (hH.refl _) (bE.refl _ _) ⟨g',ok',w,rfl,rfl⟩
 refine vf (by simpa using hi) (v0 ?_)
 have hlt:p1.toNat < p0.length:=by omega
 obtain⟨gt,gn,cap,sp⟩:=g
 have hne:gt≠none:=λe=>by have:=ok.nil e; omega
 obtain⟨k,rfl⟩:∃k,gt=some k:=by cases gt with
 | none=>exact absurd rfl hne
 | some k=>exact⟨k,rfl⟩
 have hgn:gn=p0.length:=ok.eqn
 subst hgn
 have hle:p0.length≤cap:=ok.le
 have hmx:cap≤maxLen:=ok.mx
 have hlen:p0.length*3+sp.length=cap*3:=ok.len
 have hw:IntKind.wrap .i64 ((p0.length:Int)+(([x]:List α).length:Int))=((p0.length+1:Nat):Int):=by
   rw[IntKind.wrap_i64]; simp only[List.length_singleton]; omega
 have hw2:IntKind.wrap .i64 (IntKind.wrap .i64 ((p0.length:Int)+(([x]:List α).length:Int)) - p1)=((p0.length+1 - p1.toNat:Nat):Int):=by
   rw[hw,IntKind.wrap_i64]; omega
 have hw3:IntKind.wrap .i64 (p1+(([x]:List α).length:Int))=((p1.toNat+1:Nat):Int):=by
   rw[IntKind.wrap_i64]; simp only[List.length_singleton]; omega
 obtain⟨q1,q2,q3,q4⟩:=nK hc (i:=p1.toNat) (by omega:p1.toNat≤p0.length) sp
 generalize hA:((p0.take p1.toNat).map c).flatten=A at q1 q2 q4
 generalize hB:((p0.drop p1.toNat).map c).flatten=B at q1 q3 q4
 repeat refine vs ?_
 refine v0 (bU (F7 u27 rfl) (v0 ?_))
 by_cases hcap:cap < p0.length+1
 refine vt (by rw[hw]; exact decide_eq_true (show (cap:Int) < ((p0.length+1:Nat):Int) by omega)) ?_
 repeat refine vs ?_
 refine v0 (bU (xC (cap:=cap) i0 (by omega) iE rfl rfl) ?_)
 refine ve λw=>F8 (cap:=cap) (cs:=fl c p0 sp) (i:=p1.toNat) (m:=p0.length+1 - p1.toNat) 0 oL u3 qE rfl (by decide) w rfl rfl (congrArg (λz=>AV.sc (.int .i64 z)) hw2) (by omega) (by rw[q1]; simp only[List.length_append]; omega) (by omega) λq cap' R h1 h2 h3 hk'=>qk hk' rfl ?_
 repeat refine vs ?_
 refine v0 (bU (jI i0 (by omega) iE rfl rfl) ?_)
 have hn0:p1.toNat+(p0.length+1 - p1.toNat)=p0.length+1:=by omega
 have hn1:p1.toNat+(p0.length+1 - p1.toNat) - p1.toNat=p0.length+1 - p1.toNat:=by omega
 have e1:List.take (p1.toNat*3) (fl c p0 sp)=A:=by rw[q1,← q2,List.take_left]
 have hxl:=hc x
 have hR:3+B.length≤R.length:=by omega
 have hfl:(fl c p0 sp).length=A.length+(B.length+sp.length):=by rw[q1]; simp
 obtain⟨R1,R2,R3,hR0,hR1,hR2⟩:∃R1 R2 R3:List AV,R=R1++(R2++R3)∧R1.length=(c x).length∧R2.length=B.length:=
 ⟨R.take 3,(R.drop 3).take B.length,(R.drop 3).drop B.length,by rw[List.take_append_drop,List.take_append_drop],by rw[List.length_take,hxl]; omega,by rw[List.length_take,List.length_drop]; omega⟩
 refine ve λw=>lL 0 oL w rfl rfl (zT.sl (ys:=List.map c [x]) (by simp) _) (by simp[hxl]; omega) (by rw[e1]; simp only[List.length_append]; simp[hxl,q2]; omega) (A++(c x++(R2++R3))) (by
 rw[e1,hR0]
 simp only[List.map_cons,List.map_nil,List.flatten_cons,List.flatten_nil,List.append_nil]
 exact fS q2 hR1) λhk'=>qk hk' rfl ?_
 repeat refine vs ?_
 refine v0 ?_
 have hv4:AV.view q ((IntKind.wrap .i64 (p1+(([x]:List α).length:Int))).toNat*3) (p1.toNat+(p0.length+1 - p1.toNat) - (IntKind.wrap .i64 (p1+(([x]:List α).length:Int))).toNat)= .view q ((p1.toNat+1)*3) (p0.length - p1.toNat):=by
   rw[hw3,Int.toNat_natCast,show p1.toNat+(p0.length+1 - p1.toNat) - (p1.toNat+1)=p0.length - p1.toNat from by omega]
 refine vz [] mixed (λw=>trivial) λw=> ?_
 refine zC 0 rfl (eT (.vw _ _ _) rfl) ?_
 refine zI 1 rfl rfl ?_
 refine zI 2 rfl rfl ?_
 refine zC 3 rfl (kX rfl rfl rfl trivial) ?_
 refine zC 4 rfl (eZ (jI (by rw[hw3]; omega) (by rw[hw3]; omega) iE rfl rfl) (bE.of_eq hv4)) ?_
 refine zC 5 rfl (eT (.vw _ _ _) rfl) ?_
 refine zI 6 rfl rfl ?_
 refine zC 7 rfl (jI (m:=p0.length) i0 (by omega) iE rfl rfl) ?_
 have e2:(List.drop (p1.toNat*3) (fl c p0 sp)).take ((p0.length - p1.toNat)*3)=B:=by
   rw[q1,← q2,List.drop_left,← q3,List.take_left]
 refine zE 8 rfl (lL 0 oL w rfl rfl (cs:=B) (by rw[← e2]; exact zT.view (a8 1 w rfl)) (n1:=p0.length - p1.toNat) (m:=p0.length - p1.toNat) (by rw[q3,Nat.min_self]) (by simp only[List.length_append,hxl,q2,hR2]; omega) (fl c (p0.take p1.toNat++x::p0.drop p1.toNat) R3) (by
 rw[q4 x R3,← List.append_assoc A,← List.append_assoc A]
 exact fS (A:=A++c x) (by rw[List.length_append,hxl,q2]; omega) hR2) λK1=>⟨trivial, ?_⟩)
 refine zX (qk (f:=T4 54 _ _ _ _ _ _ _ _ _ _) K1 rfl ?_)
 repeat refine vs ?_
 refine v0 (v0 ?_)
 subst ho
 have hol:(List.take p1.toNat p0++x::List.drop p1.toNat p0).length=p0.length+1:=by simp; omega
 refine vr λw=>dV.one (.inl rfl) (bD K1 [0] rfl).2 (bE.of_eq (show AV.vw q _ cap'=aw (some q) (p0.length+1) cap' by rw[hn0]; rfl)) ⟨⟨some q,p0.length+1,cap',R3⟩,⟨hol.symm,nofun,by rw[hol]; show p0.length+1≤cap'; omega,h2,by rw[hol]; show (p0.length+1)*3+R3.length=cap'*3; simp only[hR0,List.length_append,hR1,hR2,hxl] at h3; omega⟩,(bD K1 [0] rfl).1,rfl,rfl⟩
 refine vf (by rw[hw]; exact decide_eq_false (show ¬(cap:Int) < ((p0.length+1:Nat):Int) by omega)) (v0 ?_)
 repeat refine vs ?_
 refine v0 ?_
 have hv0:AV.vw k (IntKind.wrap .i64 ((p0.length:Int)+(([x]:List α).length:Int))).toNat cap= .vw k (p0.length+1) cap:=by rw[hw,Int.toNat_natCast]
 refine bU (eZ (xC (cap:=cap) (by rw[hw]; omega) (by rw[hw]; omega) iE rfl rfl) (bE.of_eq hv0)) ?_
 repeat refine vs ?_
 refine v0 ?_
 have hv4:AV.view k ((IntKind.wrap .i64 (p1+(([x]:List α).length:Int))).toNat*3) (p0.length+1 - (IntKind.wrap .i64 (p1+(([x]:List α).length:Int))).toNat)= .view k ((p1.toNat+1)*3) (p0.length - p1.toNat):=by
   rw[hw3,Int.toNat_natCast,show p0.length+1 - (p1.toNat+1)=p0.length - p1.toNat from by omega]
 refine bU (eZ (jI (m:=p0.length+1) (by rw[hw3]; omega) (by rw[hw3]; omega) iE rfl rfl) (bE.of_eq hv4)) ?_
 have hfl:(fl c p0 sp).length=p1.toNat*3+((p0.length - p1.toNat)*3+sp.length):=by rw[q1,List.length_append,List.length_append,q2,q3]
 refine ve λw=>n8 (sz:=3) (tS:=27) (tR:=4) Tryz.func188 (by kernel_rfl) (by kernel_rfl) (by kernel_rfl) (by kernel_rfl) oL (ys:=List.map c [x]) (by simp) (by decide) rfl rfl (a8 0 w rfl) (by rw[hfl]; omega) (qk w rfl ?_)
 refine v0 ?_
 repeat refine vs ?_
 refine v0 ?_
 refine vz [] mixed (λw=>trivial) λw=> ?_
 refine zC 0 rfl (eT (.vw _ _ _) rfl) ?_
 refine zI 1 rfl rfl ?_
 refine zI 2 rfl rfl ?_
 refine zC 3 rfl (kX rfl rfl rfl trivial) ?_
 refine zC 4 rfl (eZ (jI (m:=p0.length+1) (by rw[hw3]; omega) (by rw[hw3]; omega) iE rfl rfl) (bE.of_eq hv4)) ?_
 refine zC 5 rfl (eT (.vw _ _ _) rfl) ?_
 refine zI 6 rfl rfl ?_
 refine zC 7 rfl (jI (m:=p0.length+1) i0 (by omega) iE rfl rfl) ?_
 have hxl:=hc x
 have e2:(List.drop (p1.toNat*3) (fl c p0 sp)).take ((p0.length - p1.toNat)*3)=B:=by
   rw[q1,← q2,List.drop_left,← q3,List.take_left]
 have hsp:3≤sp.length:=by omega
 obtain⟨X0,Y,Z,hXY,hX0,hY⟩:∃X0 Y Z:List AV,B++sp=X0++(Y++Z)∧X0.length=3∧Y.length=B.length:=
 ⟨(B++sp).take 3,((B++sp).drop 3).take B.length,((B++sp).drop 3).drop B.length,by rw[List.take_append_drop,List.take_append_drop],by rw[List.length_take,List.length_append]; omega,by rw[List.length_take,List.length_drop,List.length_append]; omega⟩
 have hZ:Z.length+3=sp.length:=by
   have:=congrArg List.length hXY
   simp only[List.length_append] at this
   omega
 refine zE 8 rfl (lL 0 oL w rfl rfl (cs:=B) (by rw[← e2]; exact zT.view (a8 0 w rfl)) (n1:=p0.length - p1.toNat) (m:=p0.length+1 - p1.toNat) (by rw[q3]; congr 1; omega) (by show (p1.toNat+1)*3+B.length≤(fl c p0 sp).length; rw[hfl]; omega) (A++(X0++(B++Z))) (by
 show eB (fl c p0 sp) ((p1.toNat+1)*3) B=_
 rw[q1,hXY,← List.append_assoc A,← List.append_assoc A]
 exact fS (A:=A++X0) (by rw[List.length_append,hX0,q2]; omega) hY) λK1=>⟨trivial, ?_⟩)
 refine zX (qk (f:=T4 77 _ _ _ _ _ _ _ _ _ _) K1 rfl ?_)
 repeat refine vs ?_
 refine v0 (bU (jI (m:=p0.length+1) i0 (by omega) iE rfl rfl) ?_)
 refine ve λw=>lL 0 oL w rfl rfl (zT.sl (ys:=List.map c [x]) (by simp) _) (by simp[hxl]; omega) (by simp only[List.map_cons,List.map_nil,List.flatten_cons,List.flatten_nil,List.append_nil,List.length_append,q2,hX0,hxl]; omega) (fl c (p0.take p1.toNat++x::p0.drop p1.toNat) Z) (by
 simp only[List.map_cons,List.map_nil,List.flatten_cons,List.flatten_nil,List.append_nil]
 rw[q4 x Z]
 exact fS q2 (by rw[hX0,hxl])) λK1=>qk K1 rfl ?_
 repeat refine vs ?_
 refine v0 (v0 ?_)
 subst ho
 have hol:(List.take p1.toNat p0++x::List.drop p1.toNat p0).length=p0.length+1:=by simp; omega
 refine vr λw=>dV.one (.inl rfl) (bD w [0] rfl).2 (bE.of_eq (show AV.vw k _ cap=aw (some k) (p0.length+1) cap by rfl)) ⟨⟨some k,p0.length+1,cap,Z⟩,⟨hol.symm,nofun,by rw[hol]; show p0.length+1≤cap; omega,hmx,by rw[hol]; show (p0.length+1)*3+Z.length=cap*3; omega⟩,(bD w [0] rfl).1,rfl,rfl⟩
theorem XI:aO Tryz.prog 180=true:=by kernel_rfl
theorem aDG {α:Type} {c:α→List AV} (hc:∀y,(c y).length=35) {p0 o:List α} {p1:Int} {x:α} (h:aE) {g:cQ} (ok:bG g 35 p0.length) (K0:bT h [(g.t,.obj 44 (fl c p0 g.sp))]) (u:oQ p0 p1 x=some o):
 aL Tryz.prog 117 [aZ g,nZ p1,.sl none 35 (List.map c [x])] (hp h [(g.t,.obj 44 (fl c p0 g.sp))]) (λr h'=>∃g:cQ,bG g 35 o.length∧bT h [(g.t,.obj 44 (fl c o g.sp))]∧r=aZ g∧h'=hp h [(g.t,.obj 44 (fl c o g.sp))]):=by
 obtain⟨i0,i1,i2,ho⟩:=kP u
 have hv1:((([x]:List α).length:Int)==0)=false:=rfl
 refine sN K0 95 [.tmp 6] Tryz.func117 rfl rfl rfl rfl ?_
 repeat refine vs ?_
 refine v0 ?_
 repeat refine vs ?_
 refine v0 (bU (F9 i0 i1 ok fI rfl rfl) ?_)
 repeat refine vs ?_
 refine v0 (dL jE rfl ?_)
 repeat refine vs ?_
 refine v0 (v0 ?_)
 show VC _ _ _ Code.skip _ _ _ _
 refine v0 ?_
 repeat refine vs ?_
 refine v0 (bU (dP jE ok rfl) ?_)
 repeat refine vs ?_
 refine v0 (v0 ?_)
 by_cases hi:p1=(p0.length:Int)
 refine vt (by simpa using hi) ?_
 repeat refine vs ?_
 refine v0 ?_
 refine ve λw=>fX (c:=c) 0 (BO i2) kY rfl m7 rfl hc rfl rfl ok w rfl λg' ok' hk'=>qk hk' rfl ?_
 refine v0 ?_
 have e:o=p0++ [x]:=by subst hi; rw[ho]; simp
 subst e
 exact vr λw=>dV.one (.inl rfl) (hH.refl _) (bE.refl _ _) ⟨g',ok',w,rfl,rfl⟩
 refine vf (by simpa using hi) (v0 ?_)
 have hlt:p1.toNat < p0.length:=by omega
 obtain⟨gt,gn,cap,sp⟩:=g
 have hne:gt≠none:=λe=>by have:=ok.nil e; omega
 obtain⟨k,rfl⟩:∃k,gt=some k:=by cases gt with
 | none=>exact absurd rfl hne
 | some k=>exact⟨k,rfl⟩
 have hgn:gn=p0.length:=ok.eqn
 subst hgn
 have hle:p0.length≤cap:=ok.le
 have hmx:cap≤maxLen:=ok.mx
 have hlen:p0.length*35+sp.length=cap*35:=ok.len
 have hw:IntKind.wrap .i64 ((p0.length:Int)+(([x]:List α).length:Int))=((p0.length+1:Nat):Int):=by
   rw[IntKind.wrap_i64]; simp only[List.length_singleton]; omega
 have hw2:IntKind.wrap .i64 (IntKind.wrap .i64 ((p0.length:Int)+(([x]:List α).length:Int)) - p1)=((p0.length+1 - p1.toNat:Nat):Int):=by
   rw[hw,IntKind.wrap_i64]; omega
 have hw3:IntKind.wrap .i64 (p1+(([x]:List α).length:Int))=((p1.toNat+1:Nat):Int):=by
   rw[IntKind.wrap_i64]; simp only[List.length_singleton]; omega
 obtain⟨q1,q2,q3,q4⟩:=nK hc (i:=p1.toNat) (by omega:p1.toNat≤p0.length) sp
 generalize hA:((p0.take p1.toNat).map c).flatten=A at q1 q2 q4
 generalize hB:((p0.drop p1.toNat).map c).flatten=B at q1 q3 q4
 repeat refine vs ?_
 refine v0 (bU (F7 u26 rfl) (v0 ?_))
 by_cases hcap:cap < p0.length+1
 refine vt (by rw[hw]; exact decide_eq_true (show (cap:Int) < ((p0.length+1:Nat):Int) by omega)) ?_
 repeat refine vs ?_
 refine v0 (bU (xC (cap:=cap) i0 (by omega) fI rfl rfl) ?_)
 refine ve λw=>F8 (cap:=cap) (cs:=fl c p0 sp) (i:=p1.toNat) (m:=p0.length+1 - p1.toNat) 0 kY u3 m7 rfl (by decide) w rfl rfl (congrArg (λz=>AV.sc (.int .i64 z)) hw2) (by omega) (by rw[q1]; simp only[List.length_append]; omega) (by omega) λq cap' R h1 h2 h3 hk'=>qk hk' rfl ?_
 repeat refine vs ?_
 refine v0 (bU (jI i0 (by omega) fI rfl rfl) ?_)
 have hn0:p1.toNat+(p0.length+1 - p1.toNat)=p0.length+1:=by omega
 have hn1:p1.toNat+(p0.length+1 - p1.toNat) - p1.toNat=p0.length+1 - p1.toNat:=by omega
 have e1:List.take (p1.toNat*35) (fl c p0 sp)=A:=by rw[q1,← q2,List.take_left]
 have hxl:=hc x
 have hR:35+B.length≤R.length:=by omega
 have hfl:(fl c p0 sp).length=A.length+(B.length+sp.length):=by rw[q1]; simp
 obtain⟨R1,R2,R3,hR0,hR1,hR2⟩:∃R1 R2 R3:List AV,R=R1++(R2++R3)∧R1.length=(c x).length∧R2.length=B.length:=
 ⟨R.take 35,(R.drop 35).take B.length,(R.drop 35).drop B.length,by rw[List.take_append_drop,List.take_append_drop],by rw[List.length_take,hxl]; omega,by rw[List.length_take,List.length_drop]; omega⟩
 refine ve λw=>lL 0 kY w rfl rfl (zT.sl (ys:=List.map c [x]) (by simp) _) (by simp[hxl]; omega) (by rw[e1]; simp only[List.length_append]; simp[hxl,q2]; omega) (A++(c x++(R2++R3))) (by
 rw[e1,hR0]
 simp only[List.map_cons,List.map_nil,List.flatten_cons,List.flatten_nil,List.append_nil]
 exact fS q2 hR1) λhk'=>qk hk' rfl ?_
 repeat refine vs ?_
 refine v0 ?_
 have hv4:AV.view q ((IntKind.wrap .i64 (p1+(([x]:List α).length:Int))).toNat*35) (p1.toNat+(p0.length+1 - p1.toNat) - (IntKind.wrap .i64 (p1+(([x]:List α).length:Int))).toNat)= .view q ((p1.toNat+1)*35) (p0.length - p1.toNat):=by
   rw[hw3,Int.toNat_natCast,show p1.toNat+(p0.length+1 - p1.toNat) - (p1.toNat+1)=p0.length - p1.toNat from by omega]
 refine vz [] mixed (λw=>trivial) λw=> ?_
 refine zC 0 rfl (eT (.vw _ _ _) rfl) ?_
 refine zI 1 rfl rfl ?_
 refine zI 2 rfl rfl ?_
 refine zC 3 rfl (kX rfl rfl rfl trivial) ?_
 refine zC 4 rfl (eZ (jI (by rw[hw3]; omega) (by rw[hw3]; omega) fI rfl rfl) (bE.of_eq hv4)) ?_
 refine zC 5 rfl (eT (.vw _ _ _) rfl) ?_
 refine zI 6 rfl rfl ?_
 refine zC 7 rfl (jI (m:=p0.length) i0 (by omega) fI rfl rfl) ?_
 have e2:(List.drop (p1.toNat*35) (fl c p0 sp)).take ((p0.length - p1.toNat)*35)=B:=by
   rw[q1,← q2,List.drop_left,← q3,List.take_left]
 refine zE 8 rfl (lL 0 kY w rfl rfl (cs:=B) (by rw[← e2]; exact zT.view (a8 1 w rfl)) (n1:=p0.length - p1.toNat) (m:=p0.length - p1.toNat) (by rw[q3,Nat.min_self]) (by simp only[List.length_append,hxl,q2,hR2]; omega) (fl c (p0.take p1.toNat++x::p0.drop p1.toNat) R3) (by
 rw[q4 x R3,← List.append_assoc A,← List.append_assoc A]
 exact fS (A:=A++c x) (by rw[List.length_append,hxl,q2]; omega) hR2) λK1=>⟨trivial, ?_⟩)
 refine zX (qk (f:=T4 54 _ _ _ _ _ _ _ _ _ _) K1 rfl ?_)
 repeat refine vs ?_
 refine v0 (v0 ?_)
 subst ho
 have hol:(List.take p1.toNat p0++x::List.drop p1.toNat p0).length=p0.length+1:=by simp; omega
 refine vr λw=>dV.one (.inl rfl) (bD K1 [0] rfl).2 (bE.of_eq (show AV.vw q _ cap'=aw (some q) (p0.length+1) cap' by rw[hn0]; rfl)) ⟨⟨some q,p0.length+1,cap',R3⟩,⟨hol.symm,nofun,by rw[hol]; show p0.length+1≤cap'; omega,h2,by rw[hol]; show (p0.length+1)*35+R3.length=cap'*35; simp only[hR0,List.length_append,hR1,hR2,hxl] at h3; omega⟩,(bD K1 [0] rfl).1,rfl,rfl⟩
 refine vf (by rw[hw]; exact decide_eq_false (show ¬(cap:Int) < ((p0.length+1:Nat):Int) by omega)) (v0 ?_)
 repeat refine vs ?_
 refine v0 ?_
 have hv0:AV.vw k (IntKind.wrap .i64 ((p0.length:Int)+(([x]:List α).length:Int))).toNat cap= .vw k (p0.length+1) cap:=by rw[hw,Int.toNat_natCast]
 refine bU (eZ (xC (cap:=cap) (by rw[hw]; omega) (by rw[hw]; omega) fI rfl rfl) (bE.of_eq hv0)) ?_
 repeat refine vs ?_
 refine v0 ?_
 have hv4:AV.view k ((IntKind.wrap .i64 (p1+(([x]:List α).length:Int))).toNat*35) (p0.length+1 - (IntKind.wrap .i64 (p1+(([x]:List α).length:Int))).toNat)= .view k ((p1.toNat+1)*35) (p0.length - p1.toNat):=by
   rw[hw3,Int.toNat_natCast,show p0.length+1 - (p1.toNat+1)=p0.length - p1.toNat from by omega]
 refine bU (eZ (jI (m:=p0.length+1) (by rw[hw3]; omega) (by rw[hw3]; omega) fI rfl rfl) (bE.of_eq hv4)) ?_
 have hfl:(fl c p0 sp).length=p1.toNat*35+((p0.length - p1.toNat)*35+sp.length):=by rw[q1,List.length_append,List.length_append,q2,q3]
 refine ve λw=>n8 (sz:=35) (tS:=26) (tR:=4) Tryz.func173 (by kernel_rfl) (by kernel_rfl) (by kernel_rfl) (by kernel_rfl) kY (ys:=List.map c [x]) (by simp) (by decide) rfl rfl (a8 0 w rfl) (by rw[hfl]; omega) (qk w rfl ?_)
 refine v0 ?_
 repeat refine vs ?_
 refine v0 ?_
 refine vz [] mixed (λw=>trivial) λw=> ?_
 refine zC 0 rfl (eT (.vw _ _ _) rfl) ?_
 refine zI 1 rfl rfl ?_
 refine zI 2 rfl rfl ?_
 refine zC 3 rfl (kX rfl rfl rfl trivial) ?_
 refine zC 4 rfl (eZ (jI (m:=p0.length+1) (by rw[hw3]; omega) (by rw[hw3]; omega) fI rfl rfl) (bE.of_eq hv4)) ?_
 refine zC 5 rfl (eT (.vw _ _ _) rfl) ?_
 refine zI 6 rfl rfl ?_
 refine zC 7 rfl (jI (m:=p0.length+1) i0 (by omega) fI rfl rfl) ?_
 have hxl:=hc x
 have e2:(List.drop (p1.toNat*35) (fl c p0 sp)).take ((p0.length - p1.toNat)*35)=B:=by
   rw[q1,← q2,List.drop_left,← q3,List.take_left]
 have hsp:35≤sp.length:=by omega
 obtain⟨X0,Y,Z,hXY,hX0,hY⟩:∃X0 Y Z:List AV,B++sp=X0++(Y++Z)∧X0.length=35∧Y.length=B.length:=
 ⟨(B++sp).take 35,((B++sp).drop 35).take B.length,((B++sp).drop 35).drop B.length,by rw[List.take_append_drop,List.take_append_drop],by rw[List.length_take,List.length_append]; omega,by rw[List.length_take,List.length_drop,List.length_append]; omega⟩
 have hZ:Z.length+35=sp.length:=by
   have:=congrArg List.length hXY
   simp only[List.length_append] at this
   omega
 refine zE 8 rfl (lL 0 kY w rfl rfl (cs:=B) (by rw[← e2]; exact zT.view (a8 0 w rfl)) (n1:=p0.length - p1.toNat) (m:=p0.length+1 - p1.toNat) (by rw[q3]; congr 1; omega) (by show (p1.toNat+1)*35+B.length≤(fl c p0 sp).length; rw[hfl]; omega) (A++(X0++(B++Z))) (by
 show eB (fl c p0 sp) ((p1.toNat+1)*35) B=_
 rw[q1,hXY,← List.append_assoc A,← List.append_assoc A]
 exact fS (A:=A++X0) (by rw[List.length_append,hX0,q2]; omega) hY) λK1=>⟨trivial, ?_⟩)
 refine zX (qk (f:=T4 77 _ _ _ _ _ _ _ _ _ _) K1 rfl ?_)
 repeat refine vs ?_
 refine v0 (bU (jI (m:=p0.length+1) i0 (by omega) fI rfl rfl) ?_)
 refine ve λw=>lL 0 kY w rfl rfl (zT.sl (ys:=List.map c [x]) (by simp) _) (by simp[hxl]; omega) (by simp only[List.map_cons,List.map_nil,List.flatten_cons,List.flatten_nil,List.append_nil,List.length_append,q2,hX0,hxl]; omega) (fl c (p0.take p1.toNat++x::p0.drop p1.toNat) Z) (by
 simp only[List.map_cons,List.map_nil,List.flatten_cons,List.flatten_nil,List.append_nil]
 rw[q4 x Z]
 exact fS q2 (by rw[hX0,hxl])) λK1=>qk K1 rfl ?_
 repeat refine vs ?_
 refine v0 (v0 ?_)
 subst ho
 have hol:(List.take p1.toNat p0++x::List.drop p1.toNat p0).length=p0.length+1:=by simp; omega
 refine vr λw=>dV.one (.inl rfl) (bD w [0] rfl).2 (bE.of_eq (show AV.vw k _ cap=aw (some k) (p0.length+1) cap by rfl)) ⟨⟨some k,p0.length+1,cap,Z⟩,⟨hol.symm,nofun,by rw[hol]; show p0.length+1≤cap; omega,hmx,by rw[hol]; show (p0.length+1)*35+Z.length=cap*35; omega⟩,(bD w [0] rfl).1,rfl,rfl⟩
theorem XJ:aO Tryz.prog 117=true:=by kernel_rfl
open Go.Vm
def pF (m:Nat) (p0:List bK) (p1:bK) (q0:Int):Option (Lp (Int) ((List bK))):=
 after (if (decide (0 < q0))=true then ((ix p0 (IntKind.wrap .i64 (q0 - 1))).bind λx0=>if (decide (p1.Vol < x0.Vol))=true then (some (.brk true)) else (ix p0 (IntKind.wrap .i64 (q0 - 1))).bind λx1=>if (x1.Vol==p1.Vol)=true then ((ix p0 (IntKind.wrap .i64 (q0 - 1))).bind λx2=>if (decide (p1.File < x2.File))=true then (some (.brk true)) else (ix p0 (IntKind.wrap .i64 (q0 - 1))).bind λx3=>if (x3.File==p1.File)=true then ((ix p0 (IntKind.wrap .i64 (q0 - 1))).bind λx4=>some (.brk (decide (p1.Off < x4.Off)))) else some (.brk false)) else some (.brk false)) else some (.brk false):Option (Lp (Bool) (Lp (Int) ((List bK))))) λj0=>if j0=true then (some (.go (IntKind.wrap .i64 (q0 - 1)))) else some (.brk q0)
def uI (m:Nat) (p0:List bK) (p1:bK):Option ((List bK)):=
 after (aW (λs=>pF m p0 p1 s) m (p0.length:Int)) λr0=>(oQ p0 r0 (p1:bK)).bind λy0=>some y0
theorem L5 {w:Nat} {p0:List bK} {p1:bK} {o:(List bK)} (h:aE) {g_p0:cQ} (ok_p0:bG g_p0 4 p0.length) (K0:bT h [fE g_p0 p0]) (m:uI w p0 p1=some o):
 aL Tryz.prog 176 [aZ g_p0,.agg (aQ p1)] (hp h [fE g_p0 p0]) (λr h'=>∃g:cQ,bG g 4 o.length∧bT h [(g.t,.obj 81 (fl aQ o g.sp))]∧r=aZ g∧h'=hp h [(g.t,.obj 81 (fl aQ o g.sp))]):=by
 refine sN K0 72 [.tmp 4] Tryz.func176 rfl rfl rfl rfl ?_
 unfold uI at m
 refine vs (v0 (gZ rfl rfl λk2 K3=>vs (v0 (bU (dP jJ ok_p0 rfl) (vs (jT m (σ:=Int) (λs=> [(some k2,.obj 81 (aQ p1)),fE g_p0 p0]) (λs=>.c 0 (aZ g_p0) (.c 3 (.ptr k2 0) (.c 5 (nZ s) .nil))) (lx (.k3 .nil)) ?_ ?_))))))
 rintro _ q0 x m
 replace m:pF w p0 p1 q0=some x:=m
 unfold pF at m
 refine vs (vs (fR m (σ:=Bool) (λs=> [(some k2,.obj 81 (aQ p1)),fE g_p0 p0]) (λs=>.c 0 (aZ g_p0) (.c 3 (.ptr k2 0) (.c 5 (nZ q0) (.c 64 (.sc (.bool s)) .nil)))) (λx m=> ?_) ?_))
 refine v0 (u7 (by kernel_rfl) ?_)
 apply vi m <;> intro b0 m
 rw[b0]
 obtain⟨x0,X0,m⟩:=aC m
 refine bU (cJ X0 jV ok_p0 rfl rfl) (bU (cR (bG.ne ok_p0 X0) BG rfl rfl) (vn (λu=>dW (fo:=0) (nZ x0.Vol) X0 eO ok_p0 cE rfl (aI 1 u rfl) (λ_=>rfl)) (dM BG rfl rfl (vl 0 _ cE rfl rfl rfl ?_))))
 apply vi m <;> intro b1 m
 rw[b1]
 exact hD m
 rw[b1]
 obtain⟨x1,X1,m⟩:=aC m
 refine bU (cJ X1 jV ok_p0 rfl rfl) (bU (cR (bG.ne ok_p0 X1) BG rfl rfl) (vn (λu=>dW (fo:=0) (nZ x1.Vol) X1 eO ok_p0 cE rfl (aI 1 u rfl) (λ_=>rfl)) (dM BG rfl rfl (vl 0 _ cE rfl rfl rfl ?_))))
 apply vi m <;> intro b2 m
 rw[b2]
 obtain⟨x2,X2,m⟩:=aC m
 refine bU (cJ X2 jV ok_p0 rfl rfl) (bU (cR (bG.ne ok_p0 X2) BH rfl rfl) (vn (λu=>dW (fo:=1) (nZ x2.File) X2 eO ok_p0 cE rfl (aI 1 u rfl) (λ_=>rfl)) (dM BH rfl rfl (vl 0 _ cE rfl rfl rfl ?_))))
 apply vi m <;> intro b3 m
 rw[b3]
 exact hD m
 rw[b3]
 obtain⟨x3,X3,m⟩:=aC m
 refine bU (cJ X3 jV ok_p0 rfl rfl) (bU (cR (bG.ne ok_p0 X3) BH rfl rfl) (vn (λu=>dW (fo:=1) (nZ x3.File) X3 eO ok_p0 cE rfl (aI 1 u rfl) (λ_=>rfl)) (dM BH rfl rfl (vl 0 _ cE rfl rfl rfl ?_))))
 apply vi m <;> intro b4 m
 rw[b4]
 obtain⟨x4,X4,m⟩:=aC m
 exact bU (cJ X4 jV ok_p0 rfl rfl) (bU (cR (bG.ne ok_p0 X4) KL rfl rfl) (vn (λu=>dW (fo:=2) (nZ x4.Off) X4 eO ok_p0 cE rfl (aI 1 u rfl) (λ_=>rfl)) (dM KL rfl rfl (vl 0 _ cE rfl rfl rfl (hD m)))))
 rw[b4]
 exact hD m
 rw[b2]
 exact hD m
 rw[b0]
 exact hD m
 rintro _ j0 m
 refine v0 ?_
 apply vi m <;> intro c0 m
 exact v0 (v0 (v0 (gW m)))
 exact v0 (G4 m)
 rintro _ r0 m
 refine vs (v0 (vl 0 (.agg (aQ p1)) m9 rfl rfl rfl (bU (eI (List.map aQ ([p1]:List bK)) oO rfl rfl rfl rfl) ?_)))
 obtain⟨y0,Y0,m⟩:=aC m
 refine ve λu=> ?_
 have ho0:=lN (A:= [fE g_p0 p0]) (R:= [(some k2,.obj 81 (aQ p1))]) u [[_], [_]] rfl [1] [0] rfl rfl rfl
 refine cY ho0.1 (cI (aDE eO _ ok_p0 ho0.2.2 Y0) rfl XH rfl ?_)
 rintro x h' ⟨ag0,O0,K1,rfl,rfl⟩
 have K2:=lO (L':= [(some k2,.obj 81 (aQ p1)),fE ag0 y0]) ho0.2.1 K1 [[_]] [[_]] rfl rfl [1,0] rfl rfl
 refine qk K2.2 K2.1 (v0 ?_)
 obtain rfl:=eY m
 exact vr λu=>dV.one (.inl rfl) (aR (h0:=h) (L':= [fE ag0 y0]) (.cons _ (.refl _)) u).1 (bE.refl _ _) ⟨ag0,O0,(aR (h0:=h) (L':= [fE ag0 y0]) (.cons _ (.refl _)) u).2,rfl,rfl⟩
theorem L6:aO Tryz.prog 176=true:=by kernel_rfl
open Go.Vm
def GC (m:Nat) (p0:aB) (p1:bC) (p2:bK):Option (Int×Int×zM):=
 after (if (p1.Kind==1)=true then ((uW m p0.Chunks p1.Id).bind λy0=>if (!y0.2)=true then (some (.ret (8,p0.Seq,p0.Snaps,p0.Chunks,p0.Exps))) else (ix p0.Chunks y0.1).bind λx2=>(uI m x2.Locs p2).bind λy1=>(ix p0.Chunks y0.1).bind λx3=>some (.brk (p0.Seq,p0.Snaps,p0.Chunks.set y0.1.toNat ({ x3 with Locs:=y1}),p0.Exps))) else after (if (p1.Kind==2)=true then ((pE m p0.Snaps (λx0=>LY m x0 p1)).bind λy2=>if (decide (y2 < 0))=true then (some (.ret (.ret (8,p0.Seq,p0.Snaps,p0.Chunks,p0.Exps)))) else (ix p0.Snaps y2).bind λx4=>(uI m x4.Locs p2).bind λy3=>(ix p0.Snaps y2).bind λx5=>some (.brk (p0.Seq,p0.Snaps.set y2.toNat ({ x5 with Locs:=y3}),p0.Exps))) else after (if (p1.Kind==3)=true then ((LZ m p0.Exps p1.Seq (λx0 x1=>BP m x0 x1)).bind λy4=>after (if (!y4.2)=true then ((oQ p0.Exps y4.1 (({ Seq:=p1.Seq,Of:=p1.Of,Locs:= []}:aN):aN)).bind λy5=>some (.brk ((max p0.Seq (IntKind.wrap .i64 (p1.Seq+1))),y5))) else some (.brk (p0.Seq,p0.Exps)):Option (Lp (Int×(List aN)) (Lp (Int×(List aN)) (Lp (Int×(List aG)×(List aN)) (Lp (Int×zM) (Int×Int×zM)))))) λ⟨j0,j1⟩=>(ix j1 y4.1).bind λx6=>(uI m x6.Locs p2).bind λy6=>(ix j1 y4.1).bind λx7=>some (.brk (j0,j1.set y4.1.toNat ({ x7 with Locs:=y6})))) else some (.brk (p0.Seq,p0.Exps)):Option (Lp (Int×(List aN)) (Lp (Int×(List aG)×(List aN)) (Lp (Int×zM) (Int×Int×zM))))) λ⟨j2,j3⟩=>some (.brk (j2,p0.Snaps,j3)):Option (Lp (Int×(List aG)×(List aN)) (Lp (Int×zM) (Int×Int×zM)))) λ⟨j4,j5,j6⟩=>some (.brk (j4,j5,p0.Chunks,j6)):Option (Lp (Int×zM) (Int×Int×zM))) λ⟨j7,j8,j9,j10⟩=>some (0,j7,j8,j9,j10)
theorem aDH {w:Nat} {p0:aB} {p1:bC} {p2:bK} {o:Int×Int×zM} (h:aE) {p0K:cB} {gS:dE} (ok_Snaps:lP aG.Locs 4 4 gS (p0.Snaps:List aG)) {gC:dE} (oC:lP aA.Locs 35 4 gC (p0.Chunks:List aA)) {gE:dE} (oE:lP aN.Locs 3 4 gE (p0.Exps:List aN)) {gV:cQ} (oV:bG gV 4 p0.Vols.length) (K0:bT h ([OC p0K p0.Seq gS.a gC.a gE.a gV,bJ gS p0.Snaps,aU gC p0.Chunks,bO gE p0.Exps,aM gV p0.Vols]++((bN gS p0.Snaps)++((aY gC p0.Chunks)++(bQ gE p0.Exps))))) (m:GC w p0 p1 p2=some o):
 aL Tryz.prog 123 [.ptr p0K 0,.agg (aX p1),.agg (aQ p2)] (hp h ([OC p0K p0.Seq gS.a gC.a gE.a gV,bJ gS p0.Snaps,aU gC p0.Chunks,bO gE p0.Exps,aM gV p0.Vols]++((bN gS p0.Snaps)++((aY gC p0.Chunks)++(bQ gE p0.Exps))))) (λr h'=>∃g_Snaps':dE,lP aG.Locs 4 4 g_Snaps' (o.2.2.1:List aG)∧∃g_Chunks':dE,lP aA.Locs 35 4 g_Chunks' (o.2.2.2.1:List aA)∧∃g_Exps':dE,lP aN.Locs 3 4 g_Exps' (o.2.2.2.2:List aN)∧bT h ([OC p0K o.2.1 g_Snaps'.a g_Chunks'.a g_Exps'.a gV,bJ g_Snaps' o.2.2.1,aU g_Chunks' o.2.2.2.1,bO g_Exps' o.2.2.2.2,aM gV p0.Vols]++((bN g_Snaps' o.2.2.1)++((aY g_Chunks' o.2.2.2.1)++(bQ g_Exps' o.2.2.2.2))))∧r=nZ o.1∧h'=hp h ([OC p0K o.2.1 g_Snaps'.a g_Chunks'.a g_Exps'.a gV,bJ g_Snaps' o.2.2.1,aU g_Chunks' o.2.2.2.1,bO g_Exps' o.2.2.2.2,aM gV p0.Vols]++((bN g_Snaps' o.2.2.1)++((aY g_Chunks' o.2.2.2.1)++(bQ g_Exps' o.2.2.2.2))))):=by
 refine sN K0 129 [.tmp 6] Tryz.func123 rfl rfl rfl rfl ?_
 unfold GC at m
 refine vs (v0 (gZ rfl rfl λk2 K3=>gZ rfl rfl λk5 K6=>vs (vs (v0 (dM lJ rfl rfl (vl 1 _ cE rfl rfl rfl (v0 (vs (v0 (oU m (σ:=Int×zM) (τ:=dE×dE×dE) (λg s=>([(some k5,.obj 81 (aQ p2)),(some k2,.obj 38 (aX p1)),OC p0K s.1 g.1.a g.2.1.a g.2.2.a gV,bJ g.1 s.2.1,aU g.2.1 s.2.2.1,bO g.2.2 s.2.2.2,aM gV p0.Vols]++((bN g.1 s.2.1)++((aY g.2.1 s.2.2.1)++(bQ g.2.2 s.2.2.2))))) (λg s=>lP aG.Locs 4 4 g.1 (s.2.1:List aG)∧lP aA.Locs 35 4 g.2.1 (s.2.2.1:List aA)∧lP aN.Locs 3 4 g.2.2 (s.2.2.2:List aN)) (λg s=>.nil) (λx m=> ?_) ?_))))))))))
 refine v0 ?_
 apply vi m <;> intro c0 m
 refine vs (v0 (u7 (by kernel_rfl) (jD rfl (dM dX rfl rfl (vl 2 (aZ gC.a) eU rfl rfl rfl (dM tE rfl rfl (vl 1 (.agg (bM p1.Id)) fZ rfl rfl rfl ?_)))))))
 obtain⟨y0,Y0,m⟩:=aC m
 refine vn (λu=>bY (fC (.cons (Br.awN 4 cK eO D2 oC.k u rfl (S6 [[_], [_], [_], [_], [_], [_], [_],_,_,_] rfl 8 rfl)) (.cons (Br.refl _ _) .nil)) rfl (OT _ Y0)) rfl G6 rfl) (vs (vs (v0 (v0 ?_))))
 apply vi m <;> intro c1 m
 refine vs (v0 (v0 (gO m λm=> ?_)))
 cases m
 exact vr λu=>dV.of1 (.inl rfl) (fP _ _ (.sc (.int _ _)) rfl) (rY (L':=([OC p0K p0.Seq gS.a gC.a gE.a gV,bJ gS p0.Snaps,aU gC p0.Chunks,bO gE p0.Exps,aM gV p0.Vols]++((bN gS p0.Snaps)++((aY gC p0.Chunks)++(bQ gE p0.Exps))))) u [[_], [_], [_], [_], [_], [_], [_],_,_,_] rfl [2,3,4,5,6,7,8,9] rfl rfl).2 (bE.refl _ _) ⟨gS,ok_Snaps,gC,oC,gE,oE,(rY (L':=([OC p0K p0.Seq gS.a gC.a gE.a gV,bJ gS p0.Snaps,aU gC p0.Chunks,bO gE p0.Exps,aM gV p0.Vols]++((bN gS p0.Snaps)++((aY gC p0.Chunks)++(bQ gE p0.Exps))))) u [[_], [_], [_], [_], [_], [_], [_],_,_,_] rfl [2,3,4,5,6,7,8,9] rfl rfl).1,rfl,rfl⟩
 refine v0 (v0 (vz [(1000000,some p0K,.obj 30 ([nZ p0.Seq,aZ gS.a,aZ gC.a,aZ gE.a,aZ gV])),(17,gC.a.t,.obj 44 (fl jB (zg (p0.Chunks:List aA) gC.gs) gC.a.sp)),(1000000,some k5,.obj 81 (aQ p2))] mixed (λu=>⟨λ_=>aI 2 u rfl,λ_=>aI 4 u rfl,λ_=>aI 0 u rfl,trivial⟩) λu=>zP 0 rfl rfl (zN 1 rfl rfl (zF 2 rfl dX rfl (zL 3 0 (aZ gC.a) rfl eU rfl rfl rfl (zI 4 rfl rfl (zP 5 rfl rfl (zN 6 rfl rfl (zF 7 rfl dX rfl (zL 8 0 (aZ gC.a) rfl eU rfl rfl rfl (zI 9 rfl rfl ?_)))))))))))
 obtain⟨x1,X0,m⟩:=aC m
 refine zC 10 rfl (cJ (oC.k.ix X0) fI oC.k.z rfl rfl) (zC 11 rfl (cR (bG.ne oC.k.z (oC.k.ix X0)) iO rfl rfl) ?_)
 obtain⟨gv0,hg0,ga0,gn0⟩:=oC.gx X0
 refine uS 12 rfl (λ_ _ hi hB=>eZ (dW (fo:=34) (awO aQ 4 (gx gC.gs y0.1.toNat) x1.Locs) (oC.k.ix X0) iI oC.k.z fJ rfl (fW.get 1 hi rfl (hB 17 (by kernel_rfl))) (λ_=>rfl)) (bE.of_eq (congrArg (λz=>awO aQ 4 z x1.Locs) hg0))) (zL 13 2 (.agg (aQ p2)) rfl m9 rfl rfl rfl ?_)
 obtain⟨y1,Y1,m⟩:=aC m
 refine zE 14 rfl ?_
 have ho0:=pP (R:=([(some k5,.obj 81 (aQ p2)),(some k2,.obj 38 (aX p1)),OC p0K p0.Seq gS.a gC.a gE.a gV,bJ gS p0.Snaps,aU gC p0.Chunks,bO gE p0.Exps,aM gV p0.Vols]++((bN gS p0.Snaps)++((jW 81 aQ ((nl aA.Locs (zg (p0.Chunks:List aA) gC.gs)).eraseIdx y0.1.toNat))++(bQ gE p0.Exps))))) u [[_], [_], [_], [_], [_], [_], [_],_,_,_] rfl 8 rfl gn0 rfl
 have ho1:=cH [(eE gv0 x1.Locs)] _ ho0.2
 refine cY (ho0.1.trans (cS h [(eE gv0 x1.Locs)] _).symm) (cI (L5 _ ga0 ho1.2 Y1) rfl L6 rfl ?_)
 rintro x h' ⟨ag0,O0,K1,rfl,rfl⟩
 refine kF (cS h [fE ag0 y1] _) (⟨⟨λ_=>aI 3 (dF ho1.1 K1) rfl,λ_=>aI 5 (dF ho1.1 K1) rfl,λ_=>aI 1 (dF ho1.1 K1) rfl,trivial⟩, ?_⟩)
 obtain⟨x2,X1,m⟩:=aC m
 refine zC 15 rfl (cJ (oC.k.ix X1) fI oC.k.z rfl rfl) (zC 16 rfl (cR (bG.ne oC.k.z (oC.k.ix X1)) iO rfl rfl) (zE 17 rfl (cG (fo:=34) (x':=(({ x2 with Locs:=y1}:aA),some ag0)) 5 (dF ho1.1 K1) (oC.k.ix X1) iI oC.k.z rfl rfl (bZ rfl) (cC (bW _ _ _) rfl) (cT.refl _ _) nE rfl rfl ?_)))
 intro K2
 have O1:=oC.setL (x':=({ x2 with Locs:=y1}:aA)) X1 ag0 O0
 have hr0:=rX (L':=(eE ag0 y1)::(([(some k5,.obj 81 (aQ p2)),(some k2,.obj 38 (aX p1)),OC p0K p0.Seq gS.a gC.a gE.a gV,bJ gS p0.Snaps,(gC.a.t,.obj 44 (fl jB (((zg (p0.Chunks:List aA) gC.gs)).set y0.1.toNat (({ x2 with Locs:=y1}:aA),some ag0)) gC.a.sp)),bO gE p0.Exps,aM gV p0.Vols]:HL)++((bN gS p0.Snaps)++((jW 81 aQ ((nl aA.Locs (zg (p0.Chunks:List aA) gC.gs)).eraseIdx y0.1.toNat))++(bQ gE p0.Exps))))) K2 [[_], [_], [_], [_], [_], [_], [_], [_],_,_,_] rfl [0,1,2,3,4,5,6,7,8,9,10] rfl rfl
 have hj0:=n7 (L':=([(some k5,.obj 81 (aQ p2)),(some k2,.obj 38 (aX p1)),OC p0K p0.Seq gS.a ((⟨gC.a,gC.gs.set y0.1.toNat (some ag0)⟩:dE).a) gE.a gV,bJ gS p0.Snaps,aU (⟨gC.a,gC.gs.set y0.1.toNat (some ag0)⟩:dE) (p0.Chunks.set y0.1.toNat ({ x2 with Locs:=y1})),bO gE p0.Exps,aM gV p0.Vols]++((bN gS p0.Snaps)++((aY (⟨gC.a,gC.gs.set y0.1.toNat (some ag0)⟩:dE) (p0.Chunks.set y0.1.toNat ({ x2 with Locs:=y1})))++(bQ gE p0.Exps))))) [[_], [_], [_], [_], [_], [_], [_],_,_,_] rfl 8 (zs:=nl aA.Locs (zg (p0.Chunks:List aA) gC.gs)) (j:=y0.1.toNat) (aA.Locs ({ x2 with Locs:=y1}:aA),some ag0) (jH (oC.k.nlat X1)) rfl hr0.2 (by rw[← (oC.k.setL (x':=({ x2 with Locs:=y1}:aA)) X1 ag0 O0).2.2,(oC.k.setL (x':=({ x2 with Locs:=y1}:aA)) X1 ag0 O0).2.1]; rfl)
 refine kF (hr0.1.trans hj0.1) (⟨⟨λ_=>aI 2 hj0.2 rfl,λe=>absurd e (by decide),λ_=>aI 0 hj0.2 rfl,trivial⟩, ?_⟩)
 exact zX (qk (f:=uT 44 _ _ _ _ _ _ _ _ _ _ _ _ _ _ _ _ _ _) hj0.2 rfl (eR m (gS,(⟨gC.a,gC.gs.set y0.1.toNat (some ag0)⟩:dE),gE) ⟨ok_Snaps,O1,oE⟩ (lx .nil)))
 refine vs (v0 (oU m (σ:=Int×(List aG)×(List aN)) (τ:=dE×dE) (λg s=>([(some k5,.obj 81 (aQ p2)),(some k2,.obj 38 (aX p1)),OC p0K s.1 g.1.a gC.a g.2.a gV,bJ g.1 s.2.1,aU gC p0.Chunks,bO g.2 s.2.2,aM gV p0.Vols]++((bN g.1 s.2.1)++((aY gC p0.Chunks)++(bQ g.2 s.2.2))))) (λg s=>lP aG.Locs 4 4 g.1 (s.2.1:List aG)∧lP aN.Locs 3 4 g.2 (s.2.2:List aN)) (λg s=>.nil) (λx m=> ?_) ?_))
 refine v0 ?_
 apply vi m <;> intro c2 m
 refine vs (v0 (jD rfl (dM dU rfl rfl (vl 2 (aZ gS.a) fM rfl rfl rfl ?_))))
 obtain⟨y2,Y2,m⟩:=aC m
 refine ve λu=> ?_
 have ho2:=lN (A:= [bJ gS p0.Snaps]) (R:=([(some k5,.obj 81 (aQ p2)),(some k2,.obj 38 (aX p1)),OC p0K p0.Seq gS.a gC.a gE.a gV,aU gC p0.Chunks,bO gE p0.Exps,aM gV p0.Vols]++((bN gS p0.Snaps)++((aY gC p0.Chunks)++(bQ gE p0.Exps))))) u [[_], [_], [_], [_], [_], [_], [_],_,_,_] rfl [3] [0,1,2,4,5,6,7,8,9] rfl rfl rfl
 refine cY ho2.1 (cI (W7 kB _ ok_Snaps.k.z ho2.2.2 W9 (λx0 o h0 hs ho=>XA (p0:=x0.1) (og0:=x0.2) h0 (hs _ _ (a8 1 ho2.2.1 rfl)) ho) (LW ok_Snaps.k.len Y2)) rfl DK rfl ?_)
 rintro x h' ⟨rfl,rfl⟩
 refine qk u ho2.1.symm (vs (vs (v0 (v0 ?_))))
 apply vi m <;> intro c3 m
 refine vs (v0 (v0 (gO m λm=>gO m λm=> ?_)))
 cases m
 exact vr λu=>dV.of1 (.inl rfl) (fP _ _ (.sc (.int _ _)) rfl) (rY (L':=([OC p0K p0.Seq gS.a gC.a gE.a gV,bJ gS p0.Snaps,aU gC p0.Chunks,bO gE p0.Exps,aM gV p0.Vols]++((bN gS p0.Snaps)++((aY gC p0.Chunks)++(bQ gE p0.Exps))))) u [[_], [_], [_], [_], [_], [_], [_],_,_,_] rfl [2,3,4,5,6,7,8,9] rfl rfl).2 (bE.refl _ _) ⟨gS,ok_Snaps,gC,oC,gE,oE,(rY (L':=([OC p0K p0.Seq gS.a gC.a gE.a gV,bJ gS p0.Snaps,aU gC p0.Chunks,bO gE p0.Exps,aM gV p0.Vols]++((bN gS p0.Snaps)++((aY gC p0.Chunks)++(bQ gE p0.Exps))))) u [[_], [_], [_], [_], [_], [_], [_],_,_,_] rfl [2,3,4,5,6,7,8,9] rfl rfl).1,rfl,rfl⟩
 refine v0 (v0 (vz [(1000000,some p0K,.obj 30 ([nZ p0.Seq,aZ gS.a,aZ gC.a,aZ gE.a,aZ gV])),(17,gS.a.t,.obj 60 (fl kA (zg (p0.Snaps:List aG) gS.gs) gS.a.sp)),(1000000,some k5,.obj 81 (aQ p2))] mixed (λu=>⟨λ_=>aI 2 u rfl,λ_=>aI 3 u rfl,λ_=>aI 0 u rfl,trivial⟩) λu=>zP 0 rfl rfl (zN 1 rfl rfl (zF 2 rfl dU rfl (zL 3 0 (aZ gS.a) rfl fM rfl rfl rfl (zI 4 rfl rfl (zP 5 rfl rfl (zN 6 rfl rfl (zF 7 rfl dU rfl (zL 8 0 (aZ gS.a) rfl fM rfl rfl rfl (zI 9 rfl rfl ?_)))))))))))
 obtain⟨x3,X2,m⟩:=aC m
 refine zC 10 rfl (cJ (ok_Snaps.k.ix X2) iN ok_Snaps.k.z rfl rfl) (zC 11 rfl (cR (bG.ne ok_Snaps.k.z (ok_Snaps.k.ix X2)) jL rfl rfl) ?_)
 obtain⟨gv1,hg1,ga1,gn1⟩:=ok_Snaps.gx X2
 refine uS 12 rfl (λ_ _ hi hB=>eZ (dW (fo:=3) (awO aQ 4 (gx gS.gs y2.toNat) x3.Locs) (ok_Snaps.k.ix X2) kB ok_Snaps.k.z fJ rfl (fW.get 1 hi rfl (hB 17 (by kernel_rfl))) (λ_=>rfl)) (bE.of_eq (congrArg (λz=>awO aQ 4 z x3.Locs) hg1))) (zL 13 2 (.agg (aQ p2)) rfl m9 rfl rfl rfl ?_)
 obtain⟨y3,Y3,m⟩:=aC m
 refine zE 14 rfl ?_
 have ho3:=pP (R:=([(some k5,.obj 81 (aQ p2)),(some k2,.obj 38 (aX p1)),OC p0K p0.Seq gS.a gC.a gE.a gV,bJ gS p0.Snaps,aU gC p0.Chunks,bO gE p0.Exps,aM gV p0.Vols]++((jW 81 aQ ((nl aG.Locs (zg (p0.Snaps:List aG) gS.gs)).eraseIdx y2.toNat))++((aY gC p0.Chunks)++(bQ gE p0.Exps))))) u [[_], [_], [_], [_], [_], [_], [_],_,_,_] rfl 7 rfl gn1 rfl
 have ho4:=cH [(eE gv1 x3.Locs)] _ ho3.2
 refine cY (ho3.1.trans (cS h [(eE gv1 x3.Locs)] _).symm) (cI (L5 _ ga1 ho4.2 Y3) rfl L6 rfl ?_)
 rintro x h' ⟨ag1,O2,K4,rfl,rfl⟩
 refine kF (cS h [fE ag1 y3] _) (⟨⟨λ_=>aI 3 (dF ho4.1 K4) rfl,λ_=>aI 4 (dF ho4.1 K4) rfl,λ_=>aI 1 (dF ho4.1 K4) rfl,trivial⟩, ?_⟩)
 obtain⟨x4,X3,m⟩:=aC m
 refine zC 15 rfl (cJ (ok_Snaps.k.ix X3) iN ok_Snaps.k.z rfl rfl) (zC 16 rfl (cR (bG.ne ok_Snaps.k.z (ok_Snaps.k.ix X3)) jL rfl rfl) (zE 17 rfl (cG (fo:=3) (x':=(({ x4 with Locs:=y3}:aG),some ag1)) 4 (dF ho4.1 K4) (ok_Snaps.k.ix X3) kB ok_Snaps.k.z rfl rfl (bZ rfl) (cC (bW _ _ _) rfl) (cT.refl _ _) nE rfl rfl ?_)))
 intro K5
 have O3:=ok_Snaps.setL (x':=({ x4 with Locs:=y3}:aG)) X3 ag1 O2
 have hr1:=rX (L':=(eE ag1 y3)::(([(some k5,.obj 81 (aQ p2)),(some k2,.obj 38 (aX p1)),OC p0K p0.Seq gS.a gC.a gE.a gV,(gS.a.t,.obj 60 (fl kA (((zg (p0.Snaps:List aG) gS.gs)).set y2.toNat (({ x4 with Locs:=y3}:aG),some ag1)) gS.a.sp)),aU gC p0.Chunks,bO gE p0.Exps,aM gV p0.Vols]:HL)++((jW 81 aQ ((nl aG.Locs (zg (p0.Snaps:List aG) gS.gs)).eraseIdx y2.toNat))++((aY gC p0.Chunks)++(bQ gE p0.Exps))))) K5 [[_], [_], [_], [_], [_], [_], [_], [_],_,_,_] rfl [0,1,2,3,4,5,6,7,8,9,10] rfl rfl
 have hj1:=n7 (L':=([(some k5,.obj 81 (aQ p2)),(some k2,.obj 38 (aX p1)),OC p0K p0.Seq ((⟨gS.a,gS.gs.set y2.toNat (some ag1)⟩:dE).a) gC.a gE.a gV,bJ (⟨gS.a,gS.gs.set y2.toNat (some ag1)⟩:dE) (p0.Snaps.set y2.toNat ({ x4 with Locs:=y3})),aU gC p0.Chunks,bO gE p0.Exps,aM gV p0.Vols]++((bN (⟨gS.a,gS.gs.set y2.toNat (some ag1)⟩:dE) (p0.Snaps.set y2.toNat ({ x4 with Locs:=y3})))++((aY gC p0.Chunks)++(bQ gE p0.Exps))))) [[_], [_], [_], [_], [_], [_], [_],_,_,_] rfl 7 (zs:=nl aG.Locs (zg (p0.Snaps:List aG) gS.gs)) (j:=y2.toNat) (aG.Locs ({ x4 with Locs:=y3}:aG),some ag1) (jH (ok_Snaps.k.nlat X3)) rfl hr1.2 (by rw[← (ok_Snaps.k.setL (x':=({ x4 with Locs:=y3}:aG)) X3 ag1 O2).2.2,(ok_Snaps.k.setL (x':=({ x4 with Locs:=y3}:aG)) X3 ag1 O2).2.1]; rfl)
 refine kF (hr1.1.trans hj1.1) (⟨⟨λ_=>aI 2 hj1.2 rfl,λe=>absurd e (by decide),λ_=>aI 0 hj1.2 rfl,trivial⟩, ?_⟩)
 exact zX (qk (f:=uT 71 _ _ _ _ _ _ _ _ _ _ _ _ _ _ _ _ _ _) hj1.2 rfl (eR m ((⟨gS.a,gS.gs.set y2.toNat (some ag1)⟩:dE),gE) ⟨O3,oE⟩ (lx .nil)))
 refine vs (v0 (oU m (σ:=Int×(List aN)) (τ:=dE) (λg s=>([(some k5,.obj 81 (aQ p2)),(some k2,.obj 38 (aX p1)),OC p0K s.1 gS.a gC.a g.a gV,bJ gS p0.Snaps,aU gC p0.Chunks,bO g s.2,aM gV p0.Vols]++((bN gS p0.Snaps)++((aY gC p0.Chunks)++(bQ g s.2))))) (λg s=>lP aN.Locs 3 4 g (s.2:List aN)) (λg s=>.nil) (λx m=> ?_) ?_))
 refine v0 ?_
 apply vi m <;> intro c4 m
 refine vs (v0 (u7 (by kernel_rfl) (jD rfl (dM eW rfl rfl (vl 2 (aZ gE.a) i8 rfl rfl rfl (dM kL rfl rfl (vl 1 _ cE rfl rfl rfl ?_)))))))
 obtain⟨y4,Y4,m⟩:=aC m
 refine vn (λu=>bY (fC (.cons (Br.awN 5 fH eO S9 oE.k u rfl (S6 [[_], [_], [_], [_], [_], [_], [_],_,_,_] rfl 9 rfl)) (.cons (Br.refl _ _) (.cons (Br.refl _ _) .nil))) rfl (aC9 _ XB (λx0 _ o h0 hs ho=>aC8 _ ho) Y4)) rfl XC rfl) (vs (vs (v0 (oU m (σ:=Int×(List aN)) (τ:=dE) (λg s=>([(some k5,.obj 81 (aQ p2)),(some k2,.obj 38 (aX p1)),OC p0K s.1 gS.a gC.a g.a gV,bJ gS p0.Snaps,aU gC p0.Chunks,bO g s.2,aM gV p0.Vols]++((bN gS p0.Snaps)++((aY gC p0.Chunks)++(bQ g s.2))))) (λg s=>lP aN.Locs 3 4 g (s.2:List aN)) (λg s=>.c 0 (.ptr p0K 0) (.c 5 (.ptr k5 0) (.c 10 (nZ y4.1) .nil))) (λx m=> ?_) ?_))))
 refine v0 ?_
 apply vi m <;> intro c5 m
 refine vs (v0 (vz [(15,some p0K,.obj 30 ([nZ p0.Seq,aZ gS.a,aZ gC.a,aZ gE.a,aZ gV])),(1000000,some k2,.obj 38 (aX p1))] mixed (λu=>⟨λ_=>aI 2 u rfl,λ_=>aI 1 u rfl,trivial⟩) λu=>zP 0 rfl rfl (zP 1 rfl rfl (zN 2 rfl rfl (zF 3 rfl eW rfl (zL 4 0 (aZ gE.a) rfl i8 rfl rfl rfl (zI 5 rfl rfl (zF 6 rfl kL rfl (zL 7 1 (nZ p1.Seq) rfl cE rfl rfl rfl (zF 8 rfl tF rfl (zL 9 1 (nZ p1.Of) rfl cE rfl rfl rfl (zC 10 rfl (eZ (y:=.agg (kQ ((({ Seq:=p1.Seq,Of:=p1.Of,Locs:= []}:aN):aN),some g0))) (fF ([nZ p1.Seq,nZ p1.Of,sZ]) VO rfl) (bE.agg (.k2 (.cons (fU _) .nil)))) (zC 11 rfl (eI (List.map kQ [((({ Seq:=p1.Seq,Of:=p1.Of,Locs:= []}:aN):aN),some g0)]) oL rfl rfl rfl rfl) ?_)))))))))))))
 obtain⟨y5,Y5,m⟩:=aC m
 refine zE 12 rfl ?_
 have ho5:=lN (A:= [bO gE p0.Exps]) (R:=([(some k5,.obj 81 (aQ p2)),(some k2,.obj 38 (aX p1)),OC p0K p0.Seq gS.a gC.a gE.a gV,bJ gS p0.Snaps,aU gC p0.Chunks,aM gV p0.Vols]++((bN gS p0.Snaps)++((aY gC p0.Chunks)++(bQ gE p0.Exps))))) u [[_], [_], [_], [_], [_], [_], [_],_,_,_] rfl [5] [0,1,2,3,4,6,7,8,9] rfl rfl rfl
 refine cY ho5.1 (cI (aDF n9 _ oE.k.z ho5.2.2 (PG oE.k.len (some g0) Y5)) rfl XI rfl ?_)
 rintro x h' ⟨ag2,O4,K7,rfl,rfl⟩
 have K8:=lO (L':=([(some k5,.obj 81 (aQ p2)),(some k2,.obj 38 (aX p1)),(hO p0K p0.Seq gS.a gC.a gE.a gV),bJ gS p0.Snaps,aU gC p0.Chunks,bO (⟨ag2,lC gE.gs y4.1.toNat (some g0)⟩:dE) y5,aM gV p0.Vols]++((bN gS p0.Snaps)++((aY gC p0.Chunks)++(bQ gE p0.Exps))))) ho5.2.1 K7 [[_]] [[_], [_], [_], [_], [_], [_],_,_,_] rfl rfl [1,2,3,4,5,0,6,7,8,9] rfl rfl
 have K9:=PH (L':=([(some k5,.obj 81 (aQ p2)),(some k2,.obj 38 (aX p1)),(hO p0K p0.Seq gS.a gC.a gE.a gV),bJ gS p0.Snaps,aU gC p0.Chunks,bO (⟨ag2,lC gE.gs y4.1.toNat (some g0)⟩:dE) y5,aM gV p0.Vols]++((bN gS p0.Snaps)++((aY gC p0.Chunks)++(bQ (⟨ag2,lC gE.gs y4.1.toNat (some g0)⟩:dE) y5))))) K8.2 [[_], [_], [_], [_], [_], [_], [_],_,_,_] rfl 9 oE.k.len (og:=some g0) rfl Y5 rfl rfl
 refine kF (K8.1.trans K9.1) (⟨⟨λ_=>aI 2 K9.2 rfl,λ_=>aI 1 K9.2 rfl,trivial⟩, ?_⟩)
 refine zN 13 rfl rfl (zF 14 rfl eW rfl (zE 15 rfl (aJ 2 ([nZ p0.Seq,aZ gS.a,aZ gC.a,aw (⟨ag2,lC gE.gs y4.1.toNat (some g0)⟩:dE).a.t (⟨ag2,lC gE.gs y4.1.toNat (some g0)⟩:dE).a.n (⟨ag2,lC gE.gs y4.1.toNat (some g0)⟩:dE).a.cap,aZ gV]) K9.2 rfl rfl (bZ rfl) (cC (bW _ _ _) rfl) II rfl rfl λK10=>⟨⟨λe=>absurd e (by decide),λ_=>aI 1 K10 rfl,trivial⟩, ?_⟩)))
 refine zX (qk (f:=aA1 100 _ _ _ _ _ _ _ _ _ _ _ _ _ _ _ _) K10 rfl (v0 (vz [(11,some p0K,.obj 30 ([nZ p0.Seq,aZ gS.a,aZ gC.a,aw (⟨ag2,lC gE.gs y4.1.toNat (some g0)⟩:dE).a.t (⟨ag2,lC gE.gs y4.1.toNat (some g0)⟩:dE).a.n (⟨ag2,lC gE.gs y4.1.toNat (some g0)⟩:dE).a.cap,aZ gV])),(1000000,some k2,.obj 38 (aX p1))] mixed (λu=>⟨λ_=>aI 2 u rfl,λ_=>aI 1 u rfl,trivial⟩) λu=>zP 0 rfl rfl (zP 1 rfl rfl (zN 2 rfl rfl (zF 3 rfl m6 rfl (zL 4 0 (nZ p0.Seq) rfl cE rfl rfl rfl (zF 5 rfl kL rfl (zL 6 1 (nZ p1.Seq) rfl cE rfl rfl rfl (zC 7 rfl (kX rfl rfl rfl trivial) (zC 8 rfl (UY rfl rfl) (zN 9 rfl rfl (zF 10 rfl m6 rfl (zE 11 rfl (aJ 2 ([nZ (max p0.Seq (IntKind.wrap .i64 (p1.Seq+1))),aZ gS.a,aZ gC.a,aw (⟨ag2,lC gE.gs y4.1.toNat (some g0)⟩:dE).a.t (⟨ag2,lC gE.gs y4.1.toNat (some g0)⟩:dE).a.n (⟨ag2,lC gE.gs y4.1.toNat (some g0)⟩:dE).a.cap,aZ gV]) u rfl rfl rfl rfl xW rfl rfl λK11=>⟨⟨λe=>absurd e (by decide),λ_=>aI 1 K11 rfl,trivial⟩, ?_⟩)))))))))))))))
 exact zX (qk (f:=RP 111 _ _ _ _ _ _ _ _ _ _ _ _) K11 rfl (eR m (⟨ag2,lC gE.gs y4.1.toNat (some g0)⟩:dE) (oE.ins Y5 rfl O4) (lx (.k3 .nil))))
 exact v0 (eR m gE oE (lx (.k3 .nil)))
 rintro ng0 ⟨j0,j1⟩ O5 m
 refine v0 (vz [(1000000,some p0K,.obj 30 ([nZ j0,aZ gS.a,aZ gC.a,aZ ng0.a,aZ gV])),(17,ng0.a.t,.obj 99 (fl kQ (zg (j1:List aN) ng0.gs) ng0.a.sp)),(1000000,some k5,.obj 81 (aQ p2))] mixed (λu=>⟨λ_=>aI 2 u rfl,λ_=>aI 5 u rfl,λ_=>aI 0 u rfl,trivial⟩) λu=>zP 0 rfl rfl (zN 1 rfl rfl (zF 2 rfl eW rfl (zL 3 0 (aZ ng0.a) rfl i8 rfl rfl rfl (zI 4 rfl rfl (zP 5 rfl rfl (zN 6 rfl rfl (zF 7 rfl eW rfl (zL 8 0 (aZ ng0.a) rfl i8 rfl rfl rfl (zI 9 rfl rfl ?_))))))))))
 obtain⟨x5,X4,m⟩:=aC m
 refine zC 10 rfl (cJ (O5.k.ix X4) iE O5.k.z rfl rfl) (zC 11 rfl (cR (bG.ne O5.k.z (O5.k.ix X4)) kN rfl rfl) ?_)
 obtain⟨gv2,hg2,ga2,gn2⟩:=O5.gx X4
 refine uS 12 rfl (λ_ _ hi hB=>eZ (dW (fo:=2) (awO aQ 4 (gx ng0.gs y4.1.toNat) x5.Locs) (O5.k.ix X4) n9 O5.k.z fJ rfl (fW.get 1 hi rfl (hB 17 (by kernel_rfl))) (λ_=>rfl)) (bE.of_eq (congrArg (λz=>awO aQ 4 z x5.Locs) hg2))) (zL 13 2 (.agg (aQ p2)) rfl m9 rfl rfl rfl ?_)
 obtain⟨y6,Y6,m⟩:=aC m
 refine zE 14 rfl ?_
 have ho6:=pP (R:=([(some k5,.obj 81 (aQ p2)),(some k2,.obj 38 (aX p1)),OC p0K j0 gS.a gC.a ng0.a gV,bJ gS p0.Snaps,aU gC p0.Chunks,bO ng0 j1,aM gV p0.Vols]++((bN gS p0.Snaps)++((aY gC p0.Chunks)++(jW 81 aQ ((nl aN.Locs (zg (j1:List aN) ng0.gs)).eraseIdx y4.1.toNat)))))) u [[_], [_], [_], [_], [_], [_], [_],_,_,_] rfl 9 rfl gn2 rfl
 have ho7:=cH [(eE gv2 x5.Locs)] _ ho6.2
 refine cY (ho6.1.trans (cS h [(eE gv2 x5.Locs)] _).symm) (cI (L5 _ ga2 ho7.2 Y6) rfl L6 rfl ?_)
 rintro x h' ⟨ag3,O6,K12,rfl,rfl⟩
 refine kF (cS h [fE ag3 y6] _) (⟨⟨λ_=>aI 3 (dF ho7.1 K12) rfl,λ_=>aI 6 (dF ho7.1 K12) rfl,λ_=>aI 1 (dF ho7.1 K12) rfl,trivial⟩, ?_⟩)
 obtain⟨x6,X5,m⟩:=aC m
 refine zC 15 rfl (cJ (O5.k.ix X5) iE O5.k.z rfl rfl) (zC 16 rfl (cR (bG.ne O5.k.z (O5.k.ix X5)) kN rfl rfl) (zE 17 rfl (cG (fo:=2) (x':=(({ x6 with Locs:=y6}:aN),some ag3)) 6 (dF ho7.1 K12) (O5.k.ix X5) n9 O5.k.z rfl rfl (bZ rfl) (cC (bW _ _ _) rfl) (cT.refl _ _) nE rfl rfl ?_)))
 intro K13
 have O7:=O5.setL (x':=({ x6 with Locs:=y6}:aN)) X5 ag3 O6
 have hr2:=rX (L':=(eE ag3 y6)::(([(some k5,.obj 81 (aQ p2)),(some k2,.obj 38 (aX p1)),OC p0K j0 gS.a gC.a ng0.a gV,bJ gS p0.Snaps,aU gC p0.Chunks,(ng0.a.t,.obj 99 (fl kQ (((zg (j1:List aN) ng0.gs)).set y4.1.toNat (({ x6 with Locs:=y6}:aN),some ag3)) ng0.a.sp)),aM gV p0.Vols]:HL)++((bN gS p0.Snaps)++((aY gC p0.Chunks)++(jW 81 aQ ((nl aN.Locs (zg (j1:List aN) ng0.gs)).eraseIdx y4.1.toNat)))))) K13 [[_], [_], [_], [_], [_], [_], [_], [_],_,_,_] rfl [0,1,2,3,4,5,6,7,8,9,10] rfl rfl
 have hj2:=n7 (L':=([(some k5,.obj 81 (aQ p2)),(some k2,.obj 38 (aX p1)),OC p0K j0 gS.a gC.a ((⟨ng0.a,ng0.gs.set y4.1.toNat (some ag3)⟩:dE).a) gV,bJ gS p0.Snaps,aU gC p0.Chunks,bO (⟨ng0.a,ng0.gs.set y4.1.toNat (some ag3)⟩:dE) (j1.set y4.1.toNat ({ x6 with Locs:=y6})),aM gV p0.Vols]++((bN gS p0.Snaps)++((aY gC p0.Chunks)++(bQ (⟨ng0.a,ng0.gs.set y4.1.toNat (some ag3)⟩:dE) (j1.set y4.1.toNat ({ x6 with Locs:=y6}))))))) [[_], [_], [_], [_], [_], [_], [_],_,_,_] rfl 9 (zs:=nl aN.Locs (zg (j1:List aN) ng0.gs)) (j:=y4.1.toNat) (aN.Locs ({ x6 with Locs:=y6}:aN),some ag3) (jH (O5.k.nlat X5)) rfl hr2.2 (by rw[← (O5.k.setL (x':=({ x6 with Locs:=y6}:aN)) X5 ag3 O6).2.2,(O5.k.setL (x':=({ x6 with Locs:=y6}:aN)) X5 ag3 O6).2.1]; rfl)
 refine kF (hr2.1.trans hj2.1) (⟨⟨λ_=>aI 2 hj2.2 rfl,λe=>absurd e (by decide),λ_=>aI 0 hj2.2 rfl,trivial⟩, ?_⟩)
 exact zX (qk (f:=uT 128 _ _ _ _ _ _ _ _ _ _ _ _ _ _ _ _ _ _) hj2.2 rfl (eR m (⟨ng0.a,ng0.gs.set y4.1.toNat (some ag3)⟩:dE) O7 (lx .nil)))
 exact v0 (eR m gE oE (lx .nil))
 rintro ng1 ⟨j2,j3⟩ O8 m
 exact eR m (gS,ng1) ⟨ok_Snaps,O8⟩ (lx .nil)
 rintro⟨ng2,ng3⟩ ⟨j4,j5,j6⟩ ⟨O9,O10⟩ m
 exact eR m (ng2,gC,ng3) ⟨O9,oC,O10⟩ (lx .nil)
 rintro⟨ng4,ng5,ng6⟩ ⟨j7,j8,j9,j10⟩ ⟨O11,O12,O13⟩ m
 refine vs (v0 (v0 ?_))
 cases m
 exact vr λu=>dV.of1 (.inl rfl) (fP _ _ (.sc (.int _ _)) rfl) (rY (L':=([OC p0K j7 ng4.a ng5.a ng6.a gV,bJ ng4 j8,aU ng5 j9,bO ng6 j10,aM gV p0.Vols]++((bN ng4 j8)++((aY ng5 j9)++(bQ ng6 j10))))) u [[_], [_], [_], [_], [_], [_], [_],_,_,_] rfl [2,3,4,5,6,7,8,9] rfl rfl).2 (bE.refl _ _) ⟨ng4,O11,ng5,O12,ng6,O13,(rY (L':=([OC p0K j7 ng4.a ng5.a ng6.a gV,bJ ng4 j8,aU ng5 j9,bO ng6 j10,aM gV p0.Vols]++((bN ng4 j8)++((aY ng5 j9)++(bQ ng6 j10))))) u [[_], [_], [_], [_], [_], [_], [_],_,_,_] rfl [2,3,4,5,6,7,8,9] rfl rfl).1,rfl,rfl⟩
theorem XK:aO Tryz.prog 123=true:=by kernel_rfl
open Go.Vm
def I2 (m:Nat) (p0:bC):Option (Bool):=
 after (if (decide (p0.Kind < 1))=true then (some (.brk true)) else some (.brk (decide (3 < p0.Kind))):Option (Lp (Bool) (Bool))) λj7=>some j7
theorem aDI {u:Nat} {p0:bC} {o:Bool} (h:aE) (m:I2 u p0=some o):
 aL Tryz.prog 122 [.agg (aX p0)] h (λr h'=>r= .sc (.bool o)∧h'=h):=by
 refine fY 11 [.tmp 2] Tryz.func122 rfl rfl rfl rfl ?_
 unfold I2 at m
 refine v (gZ rfl rfl λk2 K3=>vs (fR m (σ:=Bool) (λs=> [(some k2,.obj 38 (aX p0))]) (λs=>.c 2 (.sc (.bool s)) .nil) (λx m=> ?_) ?_))
 refine v (vl 0 _ cE rfl rfl rfl ?_)
 apply vi m <;> intro b8 m
 rw[b8]
 exact iD m
 rw[b8]
 exact vl 0 _ cE rfl rfl rfl (iD m)
 rintro _ j7 m
 refine v ?_
 obtain rfl:=eY m
 exact eK rfl
theorem XL:aO Tryz.prog 122=true:=by kernel_rfl
def sB (m:Nat) (p0:List bC) (p1:bC→Option Bool) (q0:Int):Option (Lp (Int) (Int)):=
 if (decide (q0 < (p0.length:Int)))=true then ((ix p0 q0).bind λx0=>(p1 x0).bind λy0=>if y0=true then (some (.ret q0)) else some (.go (IntKind.wrap .i64 (q0+1)))) else some (.brk q0)
def L7 (m:Nat) (p0:List bC) (p1:bC→Option Bool):Option (Int):=
 after (aW (λs=>sB m p0 p1 s) m 0) λr0=>some (-1)
theorem aDJ {w:Nat} {p0:List bC} {p1:bC→Option Bool} {o:Int} (h:aE) {p1F:Nat} {p1C:List AV} (p1B:aO Tryz.prog p1F=true) (p1H:∀x0 o h0,hH h h0→p1 x0=some o→aL Tryz.prog p1F ([.agg (aX x0)]++p1C) h0 (λr h'=>r= .sc (.bool o)∧h'=h0)) (m:L7 w p0 p1=some o):
 aL Tryz.prog 175 [.sl none 37 (List.map aX p0),.fn (.func p1F) p1C] h (λr h'=>r=nZ o∧h'=h):=by
 refine fY 19 [.tmp 4] Tryz.func175 rfl rfl rfl rfl ?_
 unfold L7 at m
 refine v (v (dL oN rfl (jT m (σ:=Int) (λs=> []) (λs=>.c 0 (.sl none 37 (List.map aX p0)) (.c 1 (.fn (.func p1F) p1C) (.c 7 (nZ (p0.length:Int)) (.c 8 (nZ s) .nil)))) (lx (.k4 .nil)) ?_ ?_)))
 rintro _ q0 x m
 replace m:sB w p0 p1 q0=some x:=m
 unfold sB at m
 refine v (v ?_)
 apply vi m <;> intro c0 m
 refine v (v (v (v (vx m uV rfl rfl λx1 _ m=>va (.agg (aX x1)) FK rfl rfl ?_))))
 obtain⟨_,Y0,m⟩:=aC m
 refine vn (λu=>bY (p1H _ _ _ (aR (List.nil_sublist _) u).1 Y0) rfl p1B rfl) (v ?_)
 apply vi m <;> intro c1 m
 refine v (v (gO m λm=> ?_))
 obtain rfl:=eY m
 exact eK rfl
 exact v (v (hD m))
 exact v (u0 m)
 rintro _ r0 m
 refine v (v ?_)
 cases m
 exact eK rfl
theorem XM:aO Tryz.prog 175=true:=by kernel_rfl
def I3 (m:Nat) (p0:List bC) (p1:bC→Option Bool):Option (Bool):=
 (L7 m p0 p1).bind λy3=>some (decide (0≤y3))
theorem XN {w:Nat} {p0:List bC} {p1:bC→Option Bool} {o:Bool} (h:aE) {p1F:Nat} {p1C:List AV} (p1B:aO Tryz.prog p1F=true) (p1H:∀x0 o h0,hH h h0→p1 x0=some o→aL Tryz.prog p1F ([.agg (aX x0)]++p1C) h0 (λr h'=>r= .sc (.bool o)∧h'=h0)) (m:I3 w p0 p1=some o):
 aL Tryz.prog 121 [.sl none 37 (List.map aX p0),.fn (.func p1F) p1C] h (λr h'=>r= .sc (.bool o)∧h'=h):=by
 refine fY 9 [.tmp 4] Tryz.func121 rfl rfl rfl rfl ?_
 unfold I3 at m
 refine v (v ?_)
 obtain⟨_,Y4,m⟩:=aC m
 refine vn (λu=>bY (aDJ _ p1B (λx0 o h0 hs ho=>p1H x0 o h0 ((aR (List.nil_sublist _) u).1.trans hs) ho) Y4) rfl XM rfl) (v ?_)
 cases m
 exact eK rfl
theorem QT:aO Tryz.prog 121=true:=by kernel_rfl
def PI (m:Nat) (p0:aG) (c0:List Int):Option (Bool):=
 some ((c0:List Int).any λz=>p0.Seq==z)
theorem aDK {w:Nat} {p0:aG} {c0:List Int} {o:Bool} (h:aE) {c0K c0M:cB} (c0H:h c0K=some (.obj 161 [.mpv c0M])) (c0G:h c0M=some (.mp (gA kI (c0:List Int)))) (m:PI w p0 c0=some o):
 aL Tryz.prog 125 [.agg (bR p0),.ptr c0K 0] h (λr h'=>r= .sc (.bool o)∧h'=h):=by
 refine fY 8 [.tmp 3] Tryz.func125 rfl rfl rfl rfl ?_
 unfold PI at m
 refine v (gZ rfl rfl λk2 K3=>v (vn (λu=>oH (.mpv c0M) P9 rfl (jZ u c0H) rfl) (vl 0 _ cE rfl rfl rfl (vn (λu=>E4 QA zb4 (wE.int u3) rfl rfl (jZ u c0G)) (v ?_)))))
 cases m
 exact eK rfl
theorem XO:aO Tryz.prog 125=true:=by kernel_rfl
def nM (m:Nat) (p1:aG→Option Bool) (q0:List aG) (q1:Int) (q2:Int):Option (Lp ((List aG)×Int×Int) ((List aG))):=
 if (decide (q2 < (q0.length:Int)))=true then ((ix q0 q2).bind λx0=>(p1 x0).bind λy0=>after (if (!y0)=true then ((ix q0 q1).bind λ_=>some (.brk (q0.set q1.toNat (x0),IntKind.wrap .i64 (q1+1)))) else some (.brk (q0,q1)):Option (Lp ((List aG)×Int) (Lp ((List aG)×Int×Int) ((List aG))))) λ⟨j0,j1⟩=>some (.go (j0,j1,IntKind.wrap .i64 (q2+1)))) else some (.brk (q0,q1,q2))
def D4 (m:Nat) (p0:List aG) (p1:aG→Option Bool):Option ((List aG)):=
 (uH m p0 p1).bind λy3=>if (y3==(-1))=true then (some p0) else after (aW (λs=>nM m p1 s.1 s.2.1 s.2.2) m (p0,y3,IntKind.wrap .i64 (y3+1))) λ⟨r0,r1,r2⟩=>grd (decide (0≤r1) && decide (r1 < (r0.length:Int))) <| grd (decide (0≤r1) && decide (r1≤(r0.length:Int))) <| some (r0.take r1.toNat)
theorem XP {w:Nat} {p0:List aG} {p1:aG→Option Bool} {o:(List aG)} (h:aE) {g_p0:cQ} (ok_p0:bG g_p0 4 p0.length) (K0:bT h [(dN g_p0 p0)]) {p1F:Nat} {p1C:List AV} (p1B:aO Tryz.prog p1F=true) (p1H:∀x0 o h0,hH h h0→p1 x0=some o→aL Tryz.prog p1F ([.agg (bR x0)]++p1C) h0 (λr h'=>r= .sc (.bool o)∧h'=h0)) (m:D4 w p0 p1=some o):
 aL Tryz.prog 124 [aZ g_p0,.fn (.func p1F) p1C] (hp h [(dN g_p0 p0)]) (λr h'=>∃g:cQ,bG g 4 o.length∧bT h [(g.t,.obj 60 (fl bR o g.sp))]∧r=aZ g∧h'=hp h [(g.t,.obj 60 (fl bR o g.sp))]):=by
 refine sN K0 42 [.tmp 4] Tryz.func124 rfl rfl rfl rfl ?_
 unfold D4 at m
 refine vs (v0 (vs (v0 ?_)))
 obtain⟨_,Y4,m⟩:=aC m
 refine ve λu=>cY ((a9 u [0] rfl rfl).1.trans (cS h [(dN g_p0 p0)] []).symm) (cI (QR (hp h []) ok_p0 (cH [(dN g_p0 p0)] [] (a9 u [0] rfl rfl).2).2 p1B (λx0 o h0 hs ho=>p1H x0 o h0 ((aR (List.nil_sublist _) (cH [(dN g_p0 p0)] [] (a9 u [0] rfl rfl).2).1).1.trans hs) ho) Y4) rfl DK rfl ?_)
 rintro x h' ⟨rfl,rfl⟩
 refine qk u ((cS h [(dN g_p0 p0)] []).trans (a9 u [0] rfl rfl).1.symm) (vs (vs (v0 (v0 ?_))))
 apply vi m <;> intro c7 m
 refine vs (v0 (v0 ?_))
 obtain rfl:=eY m
 exact vr λu=>dV.one (.inl rfl) (aR (h0:=h) (L':= [(dN g_p0 p0)]) (.refl _) u).1 (bE.refl _ _) ⟨g_p0,ok_p0,(aR (h0:=h) (L':= [(dN g_p0 p0)]) (.refl _) u).2,rfl,rfl⟩
 refine v0 (vs (vs (v0 (m5 m (σ:=(List aG)×Int×Int) (τ:=cQ) (λg s=> [(dN g s.1)]) (λg s=>bG g 4 (s.1:List aG).length) (λg s=>.c 0 (aZ g) (.c 1 (.fn (.func p1F) p1C) (.c 5 (nZ s.2.1) (.c 6 (nZ s.2.2) .nil)))) g_p0 ok_p0 (lx (.k4 .nil)) ?_ ?_))))
 rintro ag0 ⟨q0,q1,q2⟩ x O0 m
 replace m:nM w p1 q0 q1 q2=some x:=m
 unfold nM at m
 refine vs (vs (v0 (bU (dP jU O0 rfl) (v0 ?_))))
 apply vi m <;> intro c0 m
 refine v0 (vs (v0 (vs (v0 ?_))))
 obtain⟨x1,X0,m⟩:=aC m
 refine bU (cJ X0 iN O0 rfl rfl) (vn (λu=>dW (fo:=0) (.agg (bR x1)) X0 eH O0 tH rfl (aI 0 u rfl) (λ_=>rfl)) (ve λu=>bI (UJ) u tJ rfl rfl λk86 K1=>qk K1 rfl (ve λu=>aJ 0 (bR x1) u rfl rfl rfl rfl IM rfl rfl λK2=>qk K2 rfl (vs (v0 (vl 0 (.agg (bR x1)) tH rfl rfl rfl ?_))))))
 obtain⟨_,Y0,m⟩:=aC m
 refine vn (λu=>bY (p1H _ _ _ (aR (List.nil_sublist _) u).1 Y0) rfl p1B rfl) (oU m (σ:=(List aG)×Int) (τ:=cQ) (λg s=> [(some k86,.obj 60 (bR x1)),(dN g s.1)]) (λg s=>bG g 4 (s.1:List aG).length) (λg s=>.c 0 (aZ g) (.c 1 (.fn (.func p1F) p1C) (.c 5 (nZ s.2) (.c 6 (nZ q2) .nil)))) (λx m=> ?_) ?_)
 refine v0 ?_
 apply vi m <;> intro c1 m
 refine vs (v0 (vl 0 (.agg (bR x1)) tH rfl rfl rfl ?_))
 obtain⟨_,X1,m⟩:=aC m
 exact bU (cJ X1 iN O0 rfl rfl) (ve λu=>cG (fo:=0) (x1:aG) 1 u X1 eH O0 rfl rfl rfl rfl (cT.refl _ _) IM rfl rfl λK3=>qk K3 rfl (v0 (eR m ag0 (bG.set O0) (lx (.k4 .nil)))))
 exact v0 (eR m ag0 O0 (lx (.k4 .nil)))
 rintro ag1 ⟨j0,j1⟩ O1 m
 exact v0 (eR m ag1 O1 (l4 [1] rfl rfl (.k4 .nil)))
 exact v0 (kT m ag0 O0 (lx (.k4 .nil)))
 rintro ag2 ⟨r0,r1,r2⟩ t0 m
 refine vs (v0 ?_)
 obtain⟨Z0,m⟩:=mG m
 refine bU (A7 Z0 iN t0 rfl rfl) (ve λu=>zH 0 u Z0 eH t0 u25 tJ rfl rfl rfl rfl λsp0 O2 K4=>qk K4 rfl (vs (v0 ?_)))
 obtain⟨Z1,m⟩:=mG m
 refine bU (A8 Z1 t0 iN rfl rfl) (v0 ?_)
 cases m
 exact vr λu=>dV.one (.inl rfl) (aR (h0:=h) (L':= [((⟨ag2.t,r1.toNat,ag2.cap,sp0⟩:cQ).t,.obj 60 (fl bR (r0.take r1.toNat:List aG) (⟨ag2.t,r1.toNat,ag2.cap,sp0⟩:cQ).sp))]) (.refl _) u).1 (bE.refl _ _) ⟨(⟨ag2.t,r1.toNat,ag2.cap,sp0⟩:cQ),O2,(aR (h0:=h) (L':= [((⟨ag2.t,r1.toNat,ag2.cap,sp0⟩:cQ).t,.obj 60 (fl bR (r0.take r1.toNat:List aG) (⟨ag2.t,r1.toNat,ag2.cap,sp0⟩:cQ).sp))]) (.refl _) u).2,rfl,rfl⟩
theorem XQ:aO Tryz.prog 124=true:=by kernel_rfl
def oA (m:Nat) (p0:aB) (p1:aS) (x0:aP) (q0:List Int) (q1:Int) (q2:List aG) (q3:List aA) (q4:List aN) (q5:Int):Option (Lp ((List Int)×Int×(List aG)×(List aA)×(List aN)×Int) (Int×Int×fA)):=
 if (decide (q5 < (p1.Items.length:Int)))=true then ((ix p1.Items q5).bind λx1=>(GC m ({ Seq:=q1,Snaps:=q2,Chunks:=q3,Exps:=q4,Vols:=(p0.Vols.set p1.Vol.toNat ({ x0 with State:=2})).set p1.Vol.toNat ({ ({ x0 with State:=2}:aP) with Files:=IntKind.wrap .i64 ((({ x0 with State:=2}:aP).Files)+1)})}:aB) x1 ({ Vol:=p1.Vol,File:=({ ({ x0 with State:=2}:aP) with Files:=IntKind.wrap .i64 ((({ x0 with State:=2}:aP).Files)+1)}:aP).Files,Off:=x1.Off,Len:=x1.Len}:bK)).bind λy0=>if (y0.1 !=0)=true then (some (.ret (y0.1,y0.2.1,y0.2.2.1,y0.2.2.2.1,y0.2.2.2.2,(p0.Vols.set p1.Vol.toNat ({ x0 with State:=2})).set p1.Vol.toNat ({ ({ x0 with State:=2}:aP) with Files:=IntKind.wrap .i64 ((({ x0 with State:=2}:aP).Files)+1)})))) else after (if (x1.Kind==3)=true then (some (.brk (lU (q0:List Int) x1.Of))) else some (.brk q0):Option (Lp ((List Int)) (Lp ((List Int)×Int×(List aG)×(List aA)×(List aN)×Int) (Int×Int×fA)))) λj0=>(uW m y0.2.2.2.1 x1.Id).bind λy1=>after (if (x1.Kind==1)=true then (if y1.2=true then (some (.brk ((({ ({ x0 with State:=2}:aP) with Files:=IntKind.wrap .i64 ((({ x0 with State:=2}:aP).Files)+1)}:aP).Pool)==0))) else some (.brk false)) else some (.brk false):Option (Lp (Bool) (Lp ((List Int)×Int×(List aG)×(List aA)×(List aN)×Int) (Int×Int×fA)))) λj1=>after (if j1=true then ((ix y0.2.2.2.1 y1.1).bind λx2=>(ix (y0.2.2.2.1.set y1.1.toNat ({ x2 with Staged:=false})) y1.1).bind λx3=>some (.brk ((y0.2.2.2.1.set y1.1.toNat ({ x2 with Staged:=false})).set y1.1.toNat ({ x3 with Data:=([]:List Int)})))) else some (.brk y0.2.2.2.1):Option (Lp ((List aA)) (Lp ((List Int)×Int×(List aG)×(List aA)×(List aN)×Int) (Int×Int×fA)))) λj2=>some (.go (j0,y0.2.1,y0.2.2.1,j2,y0.2.2.2.2,IntKind.wrap .i64 (q5+1)))) else some (.brk (q0,q1,q2,q3,q4,q5))
def UA (m:Nat) (p0:aB) (p1:aS):Option (Int×Int×fA):=
 (I3 m p1.Items (λx0=>I2 m x0)).bind λy6=>after (if (decide (p1.Vol < 0))=true then (some (.brk true)) else if (decide ((p0.Vols.length:Int)≤p1.Vol))=true then (some (.brk true)) else (ix p0.Vols p1.Vol).bind λx1=>if (x1.State==3)=true then (some (.brk true)) else if (decide ((p1.Items.length:Int) < 1))=true then (some (.brk true)) else if (decide (64 < (p1.Items.length:Int)))=true then (some (.brk true)) else some (.brk (!(!y6))):Option (Lp (Bool) (Int×Int×fA))) λj0=>if j0=true then (some (1,p0.Seq,p0.Snaps,p0.Chunks,p0.Exps,p0.Vols)) else (ix p0.Vols p1.Vol).bind λx2=>after (aW (λs=>oA m p0 p1 x2 s.1 s.2.1 s.2.2.1 s.2.2.2.1 s.2.2.2.2.1 s.2.2.2.2.2) m ([],p0.Seq,p0.Snaps,p0.Chunks,p0.Exps,0)) λ⟨r0,r1,r2,r3,r4,r5⟩=>(D4 m r2 (λx0=>PI m x0 (r0:List Int))).bind λy0=>after (if (decide ((y0.length:Int) < (r2.length:Int)))=true then ((GB m ({ Seq:=r1,Snaps:=y0,Chunks:=r3,Exps:=r4,Vols:=(p0.Vols.set p1.Vol.toNat ({ x2 with State:=2})).set p1.Vol.toNat ({ ({ x2 with State:=2}:aP) with Files:=IntKind.wrap .i64 ((({ x2 with State:=2}:aP).Files)+1)})}:aB)).bind λy1=>some (.brk y1)) else some (.brk r3):Option (Lp ((List aA)) (Int×Int×fA))) λj1=>some (0,r1,y0,j1,r4,(p0.Vols.set p1.Vol.toNat ({ x2 with State:=2})).set p1.Vol.toNat ({ ({ x2 with State:=2}:aP) with Files:=IntKind.wrap .i64 ((({ x2 with State:=2}:aP).Files)+1)}))
theorem W74 {w:Nat} {p0:aB} {p1:aS} {o:Int×Int×fA} (h:aE) {p0K:cB} {gS:dE} (ok_Snaps:lP aG.Locs 4 4 gS (p0.Snaps:List aG)) {gC:dE} (oC:lP aA.Locs 35 4 gC (p0.Chunks:List aA)) {gE:dE} (oE:lP aN.Locs 3 4 gE (p0.Exps:List aN)) {gV:cQ} (oV:bG gV 4 p0.Vols.length) (K0:bT h ([OC p0K p0.Seq gS.a gC.a gE.a gV,bJ gS p0.Snaps,aU gC p0.Chunks,bO gE p0.Exps,aM gV p0.Vols]++((bN gS p0.Snaps)++((aY gC p0.Chunks)++(bQ gE p0.Exps))))) (m:UA w p0 p1=some o):
 aL Tryz.prog 74 [.ptr p0K 0,.agg (aD p1)] (hp h ([OC p0K p0.Seq gS.a gC.a gE.a gV,bJ gS p0.Snaps,aU gC p0.Chunks,bO gE p0.Exps,aM gV p0.Vols]++((bN gS p0.Snaps)++((aY gC p0.Chunks)++(bQ gE p0.Exps))))) (λr h'=>∃g_Snaps':cQ,bG g_Snaps' 4 (o.2.2.1:List aG).length∧∃g_Chunks':cQ,bG g_Chunks' 35 (o.2.2.2.1:List aA).length∧∃g_Exps':cQ,bG g_Exps' 3 (o.2.2.2.2.1:List aN).length∧∃g_Vols':cQ,bG g_Vols' 4 (o.2.2.2.2.2:List aP).length∧bT h [OC p0K o.2.1 g_Snaps' g_Chunks' g_Exps' g_Vols',bB g_Snaps' o.2.2.1,aT g_Chunks' o.2.2.2.1,bV g_Exps' o.2.2.2.2.1,aM g_Vols' o.2.2.2.2.2]∧r=nZ o.1∧h'=hp h [OC p0K o.2.1 g_Snaps' g_Chunks' g_Exps' g_Vols',bB g_Snaps' o.2.2.1,aT g_Chunks' o.2.2.2.1,bV g_Exps' o.2.2.2.2.1,aM g_Vols' o.2.2.2.2.2]):=by
 refine sN K0 168 [.tmp 4] Tryz.func74 rfl rfl rfl rfl ?_
 unfold UA at m
 refine vs (v0 (gZ rfl rfl λk2 K3=>vs (v0 (dM gJ rfl rfl (vl 0 _ kK rfl rfl rfl ?_)))))
 obtain⟨_,Y7,m⟩:=aC m
 refine bU (bY (XN _ XL (λx0 o h0 hs ho=>aDI _ ho) Y7) rfl QT rfl) (vs (vs (fR m (σ:=Bool) (λs=>([(some k2,.obj 62 (aD p1)),OC p0K p0.Seq gS.a gC.a gE.a gV,bJ gS p0.Snaps,aU gC p0.Chunks,bO gE p0.Exps,aM gV p0.Vols]++((bN gS p0.Snaps)++((aY gC p0.Chunks)++(bQ gE p0.Exps))))) (λs=>.c 0 (.ptr p0K 0) (.c 3 (.ptr k2 0) (.c 58 (.sc (.bool s)) .nil))) (λx m=> ?_) ?_)))
 refine v0 (u7 (by kernel_rfl) (dM fD rfl rfl (vl 0 _ cE rfl rfl rfl ?_)))
 apply vi m <;> intro b0 m
 rw[b0]
 exact gW m
 rw[b0]
 refine dM fD rfl rfl (vl 0 _ cE rfl rfl rfl (jD rfl (dM fN rfl rfl (vl 1 (aZ gV) gH rfl rfl rfl (bU (dP o6 oV rfl) ?_)))))
 apply vi m <;> intro b1 m
 rw[b1]
 exact gW m
 rw[b1]
 refine jD rfl (dM fN rfl rfl (vl 1 (aZ gV) gH rfl rfl rfl (dM fD rfl rfl (vl 0 _ cE rfl rfl rfl ?_))))
 obtain⟨x1,X0,m⟩:=aC m
 refine bU (cJ X0 kZ oV rfl rfl) (bU (cR (bG.ne oV X0) mI rfl rfl) (vn (λu=>dW (fo:=2) (nZ x1.State) X0 dY oV cE rfl (aI 5 u rfl) (λ_=>rfl)) ?_))
 apply vi m <;> intro b2 m
 rw[b2]
 exact gW m
 rw[b2]
 refine dM gJ rfl rfl (vl 0 _ kK rfl rfl rfl (dL oN rfl ?_))
 apply vi m <;> intro b3 m
 rw[b3]
 exact gW m
 rw[b3]
 refine dM gJ rfl rfl (vl 0 _ kK rfl rfl rfl (dL oN rfl ?_))
 apply vi m <;> intro b4 m
 rw[b4]
 exact gW m
 rw[b4]
 exact gW m
 rintro _ j0 m
 refine v0 ?_
 apply vi m <;> intro c0 m
 refine vs (v0 (v0 ?_))
 cases m
 exact BM (CR (L':=([(some k2,.obj 62 (aD p1)),OC p0K p0.Seq gS.a gC.a gE.a gV,bB gS.a p0.Snaps,aU gC p0.Chunks,bO gE p0.Exps,aM gV p0.Vols]++((aY gC p0.Chunks)++(bQ gE p0.Exps)))) [[_], [_], [_], [_], [_], [_],_,_,_] rfl 2 6 eO pQ ok_Snaps.k rfl rfl (by decide) rfl) (BM (CR (L':=([(some k2,.obj 62 (aD p1)),OC p0K p0.Seq gS.a gC.a gE.a gV,bB gS.a p0.Snaps,aT gC.a p0.Chunks,bO gE p0.Exps,aM gV p0.Vols]++(bQ gE p0.Exps))) [[_], [_], [_], [_], [_], [_],_,_] rfl 3 6 eO nL oC.k rfl rfl (by decide) rfl) (BM (CR (L':= [(some k2,.obj 62 (aD p1)),OC p0K p0.Seq gS.a gC.a gE.a gV,bB gS.a p0.Snaps,aT gC.a p0.Chunks,bV gE.a p0.Exps,aM gV p0.Vols]) [[_], [_], [_], [_], [_], [_],_] rfl 4 6 eO uB oE.k rfl rfl (by decide) rfl) (vr λu=>dV.of1 (.inl rfl) (fP _ _ (.sc (.int _ _)) rfl) (bD u [1,2,3,4,5] rfl).2 (bE.refl _ _) ⟨gS.a,ok_Snaps.k.a,gC.a,oC.k.a,gE.a,oE.k.a,gV,oV,(bD u [1,2,3,4,5] rfl).1,rfl,rfl⟩)))
 refine v0 (vs (v0 (u7 (by kernel_rfl) (jD rfl (dM fN rfl rfl (vl 1 (aZ gV) gH rfl rfl rfl (dM fD rfl rfl (vl 0 _ cE rfl rfl rfl ?_))))))))
 obtain⟨x2,X1,m⟩:=aC m
 refine bU (cJ X1 kZ oV rfl rfl) (vs (v0 (bU (iM (bG.ne oV X1) rfl) (bU (cR (bG.ne oV X1) mI rfl rfl) (ve λu=>cG (fo:=2) ({ x2 with State:=2}:aP) 5 u X1 dY oV rfl rfl rfl rfl (cT.refl _ _) xW rfl rfl λK1=>qk K1 rfl (vs (v0 (bU (iM (bG.ne (bG.set oV) (dD (x':=({ x2 with State:=2}:aP)) X1)) rfl) (bU (cR (bG.ne (bG.set oV) (dD (x':=({ x2 with State:=2}:aP)) X1)) o7 rfl rfl) (vn (λu=>dW (fo:=3) (nZ (({ x2 with State:=2}:aP).Files)) (dD (x':=({ x2 with State:=2}:aP)) X1) dY (bG.set oV) cE rfl (aI 5 u rfl) (λ_=>rfl)) (bU (iM (bG.ne (bG.set oV) (dD (x':=({ x2 with State:=2}:aP)) X1)) rfl) (bU (cR (bG.ne (bG.set oV) (dD (x':=({ x2 with State:=2}:aP)) X1)) o7 rfl rfl) (ve λu=>cG (fo:=3) ({ ({ x2 with State:=2}:aP) with Files:=IntKind.wrap .i64 ((({ x2 with State:=2}:aP).Files)+1)}:aP) 5 u (dD (x':=({ x2 with State:=2}:aP)) X1) dY (bG.set oV) rfl rfl rfl rfl (cT.refl _ _) xW rfl rfl λK2=>qk K2 rfl (vs (v0 (ve λu=>AR u λk36 K4=>qk K4 rfl (ve λu=>bI ([.sc (.map none)]) u (show sL Tryz.prog 161=some [.map none] by kernel_rfl) rfl rfl λk39 K5=>qk K5 rfl (ve λu=>aJ 0 ([.mpv k36]) u rfl rfl rfl rfl VP rfl rfl λK6=>qk K6 rfl ?_))))))))))))))))))
 refine vs (vs (v0 (dM gJ rfl rfl (vl 2 _ kK rfl rfl rfl (dL oN rfl (m5 m (σ:=(List Int)×Int×(List aG)×(List aA)×(List aN)×Int) (τ:=dE×dE×dE) (λg s=>([(some k39,.obj 161 ([.mpv k36])),(some k36,.mp (gA kI (s.1:List Int))),(some k2,.obj 62 (aD p1)),OC p0K s.2.1 g.1.a g.2.1.a g.2.2.a gV,bJ g.1 s.2.2.1,aU g.2.1 s.2.2.2.1,bO g.2.2 s.2.2.2.2.1,aM gV ((p0.Vols.set p1.Vol.toNat ({ x2 with State:=2})).set p1.Vol.toNat ({ ({ x2 with State:=2}:aP) with Files:=IntKind.wrap .i64 ((({ x2 with State:=2}:aP).Files)+1)}))]++((bN g.1 s.2.2.1)++((aY g.2.1 s.2.2.2.1)++(bQ g.2.2 s.2.2.2.2.1))))) (λg s=>lP aG.Locs 4 4 g.1 (s.2.2.1:List aG)∧lP aA.Locs 35 4 g.2.1 (s.2.2.2.1:List aA)∧lP aN.Locs 3 4 g.2.2 (s.2.2.2.2.1:List aN)) (λg s=>.c 0 (.ptr p0K 0) (.c 3 (.ptr k2 0) (.c 6 (uR gV.t (p1.Vol.toNat*4+0)) (.c 7 (.ptr k39 0) (.c 78 (.sl none 37 (List.map aX p1.Items)) (.c 79 (nZ (p1.Items.length:Int)) (.c 80 (nZ s.2.2.2.2.2) .nil))))))) (gS,gC,gE) (⟨ok_Snaps,oC,oE⟩) (lx (.k7 .nil)) ?_ ?_))))))
 rintro⟨ng0,ng1,ng2⟩ ⟨q0,q1,q2,q3,q4,q5⟩ x ⟨O0,O1,O2⟩ m
 replace m:oA w p0 p1 x2 q0 q1 q2 q3 q4 q5=some x:=m
 unfold oA at m
 refine vs (v0 (vs (v0 ?_)))
 apply vi m <;> intro c1 m
 refine v0 (vs (v0 (vs (v0 (vx m uV rfl rfl λx3 _ m=>va (.agg (aX x3)) FK rfl rfl (ve λu=>bI (([nZ 0]:List AV)++bM jR++(NT:List AV)) u RZ rfl rfl λk284 K7=>qk K7 rfl (ve λu=>aJ 0 (aX x3) u rfl rfl rfl rfl RY rfl rfl λK8=>qk K8 rfl (vs (v0 (vz [(1000000,some k284,.obj 38 (aX x3)),(1000000,some k2,.obj 62 (aD p1)),(1000000,gV.t,.obj 49 (fl cZ ((p0.Vols.set p1.Vol.toNat ({ x2 with State:=2})).set p1.Vol.toNat ({ ({ x2 with State:=2}:aP) with Files:=IntKind.wrap .i64 ((({ x2 with State:=2}:aP).Files)+1)}):List aP) gV.sp))] mixed (λu=>⟨λ_=>aI 0 u rfl,λ_=>aI 3 u rfl,λ_=>aI 8 u rfl,trivial⟩) λu=>zP 0 rfl rfl (zL 1 0 (.agg (aX x3)) rfl FK rfl rfl rfl (zF 2 rfl fD rfl (zL 3 1 (nZ p1.Vol) rfl cE rfl rfl rfl (zC 4 rfl (eT (uR _ _) rfl) (zC 5 rfl (iM (bG.ne (bG.set (bG.set oV)) (dD (x':=({ ({ x2 with State:=2}:aP) with Files:=IntKind.wrap .i64 ((({ x2 with State:=2}:aP).Files)+1)}:aP)) (dD (x':=({ x2 with State:=2}:aP)) X1))) rfl) (zC 6 rfl (cR (bG.ne (bG.set (bG.set oV)) (dD (x':=({ ({ x2 with State:=2}:aP) with Files:=IntKind.wrap .i64 ((({ x2 with State:=2}:aP).Files)+1)}:aP)) (dD (x':=({ x2 with State:=2}:aP)) X1))) o7 rfl rfl) (uS 7 rfl (λ_ _ hi hB=>dW (fo:=3) (nZ (({ ({ x2 with State:=2}:aP) with Files:=IntKind.wrap .i64 ((({ x2 with State:=2}:aP).Files)+1)}:aP).Files)) (dD (x':=({ ({ x2 with State:=2}:aP) with Files:=IntKind.wrap .i64 ((({ x2 with State:=2}:aP).Files)+1)}:aP)) (dD (x':=({ x2 with State:=2}:aP)) X1)) dY (bG.set (bG.set oV)) cE rfl (fW.get 2 hi rfl (hB 1000000 (by kernel_rfl))) (λ_=>rfl)) ?_)))))))))))))))))
 refine zF 8 rfl FL rfl (zL 9 0 (nZ x3.Off) rfl cE rfl rfl rfl (zF 10 rfl FM rfl (zL 11 0 (nZ x3.Len) rfl cE rfl rfl rfl (zC 12 rfl (fF (aQ ({ Vol:=p1.Vol,File:=({ ({ x2 with State:=2}:aP) with Files:=IntKind.wrap .i64 ((({ x2 with State:=2}:aP).Files)+1)}:aP).Files,Off:=x3.Off,Len:=x3.Len}:bK)) VM rfl) ?_))))
 obtain⟨y0,Y0,m⟩:=aC m
 refine zE 13 rfl ?_
 have ho0:=lN (A:=([OC p0K q1 ng0.a ng1.a ng2.a gV,bJ ng0 q2,aU ng1 q3,bO ng2 q4,aM gV ((p0.Vols.set p1.Vol.toNat ({ x2 with State:=2})).set p1.Vol.toNat ({ ({ x2 with State:=2}:aP) with Files:=IntKind.wrap .i64 ((({ x2 with State:=2}:aP).Files)+1)}))]++((bN ng0 q2)++((aY ng1 q3)++(bQ ng2 q4))))) (R:= [(some k284,.obj 38 (aX x3)),(some k39,.obj 161 ([.mpv k36])),(some k36,.mp (gA kI (q0:List Int))),(some k2,.obj 62 (aD p1))]) u [[_], [_], [_], [_], [_], [_], [_], [_], [_],_,_,_] rfl [4,5,6,7,8,9,10,11] [0,1,2,3] rfl rfl rfl
 refine cY ho0.1 (cI (aDH (p0:=({ Seq:=q1,Snaps:=q2,Chunks:=q3,Exps:=q4,Vols:=(p0.Vols.set p1.Vol.toNat ({ x2 with State:=2})).set p1.Vol.toNat ({ ({ x2 with State:=2}:aP) with Files:=IntKind.wrap .i64 ((({ x2 with State:=2}:aP).Files)+1)})}:aB)) _ (O0) (O1) (O2) ((bG.set (bG.set oV))) ho0.2.2 Y0) rfl XK rfl ?_)
 rintro x h' ⟨ng3,O3,ng4,O4,ng5,O5,K9,rfl,rfl⟩
 have K10:=lO (L':=([(some k284,.obj 38 (aX x3)),(some k39,.obj 161 ([.mpv k36])),(some k36,.mp (gA kI (q0:List Int))),(some k2,.obj 62 (aD p1)),OC p0K y0.2.1 ng3.a ng4.a ng5.a gV,bJ ng3 y0.2.2.1,aU ng4 y0.2.2.2.1,bO ng5 y0.2.2.2.2,aM gV ((p0.Vols.set p1.Vol.toNat ({ x2 with State:=2})).set p1.Vol.toNat ({ ({ x2 with State:=2}:aP) with Files:=IntKind.wrap .i64 ((({ x2 with State:=2}:aP).Files)+1)}))]++((bN ng3 y0.2.2.1)++((aY ng4 y0.2.2.2.1)++(bQ ng5 y0.2.2.2.2))))) ho0.2.1 K9 [[_], [_], [_], [_], [_],_,_,_] [[_], [_], [_], [_]] rfl rfl [8,9,10,11,0,1,2,3,4,5,6,7] rfl rfl
 refine kF K10.1 (⟨⟨λ_=>aI 0 K10.2 rfl,λ_=>aI 3 K10.2 rfl,λ_=>aI 8 K10.2 rfl,trivial⟩, ?_⟩)
 refine zC 14 rfl (hU (.sc (.int _ _)) rfl) (zX (qk (f:=.c 10 _ (RR 97 _ _ _ _ _ _ _ _ _ _ _ _ _ _ _)) K10.2 rfl (vs (vs (v0 (v0 ?_))))))
 apply vi m <;> intro c2 m
 refine vs (v0 (v0 (gO m λm=> ?_)))
 cases m
 refine BM (CR (L':=([(some k284,.obj 38 (aX x3)),(some k39,.obj 161 ([.mpv k36])),(some k36,.mp (gA kI (q0:List Int))),(some k2,.obj 62 (aD p1)),OC p0K y0.2.1 ng3.a ng4.a ng5.a gV,bB ng3.a y0.2.2.1,aU ng4 y0.2.2.2.1,bO ng5 y0.2.2.2.2,aM gV ((p0.Vols.set p1.Vol.toNat ({ x2 with State:=2})).set p1.Vol.toNat ({ ({ x2 with State:=2}:aP) with Files:=IntKind.wrap .i64 ((({ x2 with State:=2}:aP).Files)+1)}))]++((aY ng4 y0.2.2.2.1)++(bQ ng5 y0.2.2.2.2)))) [[_], [_], [_], [_], [_], [_], [_], [_], [_],_,_,_] rfl 5 9 eO pQ O3.k rfl rfl (by decide) rfl) (BM (CR (L':=([(some k284,.obj 38 (aX x3)),(some k39,.obj 161 ([.mpv k36])),(some k36,.mp (gA kI (q0:List Int))),(some k2,.obj 62 (aD p1)),OC p0K y0.2.1 ng3.a ng4.a ng5.a gV,bB ng3.a y0.2.2.1,aT ng4.a y0.2.2.2.1,bO ng5 y0.2.2.2.2,aM gV ((p0.Vols.set p1.Vol.toNat ({ x2 with State:=2})).set p1.Vol.toNat ({ ({ x2 with State:=2}:aP) with Files:=IntKind.wrap .i64 ((({ x2 with State:=2}:aP).Files)+1)}))]++(bQ ng5 y0.2.2.2.2))) [[_], [_], [_], [_], [_], [_], [_], [_], [_],_,_] rfl 6 9 eO nL O4.k rfl rfl (by decide) rfl) (BM (CR (L':= [(some k284,.obj 38 (aX x3)),(some k39,.obj 161 ([.mpv k36])),(some k36,.mp (gA kI (q0:List Int))),(some k2,.obj 62 (aD p1)),OC p0K y0.2.1 ng3.a ng4.a ng5.a gV,bB ng3.a y0.2.2.1,aT ng4.a y0.2.2.2.1,bV ng5.a y0.2.2.2.2,aM gV ((p0.Vols.set p1.Vol.toNat ({ x2 with State:=2})).set p1.Vol.toNat ({ ({ x2 with State:=2}:aP) with Files:=IntKind.wrap .i64 ((({ x2 with State:=2}:aP).Files)+1)}))]) [[_], [_], [_], [_], [_], [_], [_], [_], [_],_] rfl 7 9 eO uB O5.k rfl rfl (by decide) rfl) ?_))
 exact vr λu=>dV.of1 (.inl rfl) (fP _ _ (.sc (.int _ _)) rfl) (bD u [4,5,6,7,8] rfl).2 (bE.refl _ _) ⟨ng3.a,O3.k.a,ng4.a,O4.k.a,ng5.a,O5.k.a,gV,(bG.set (bG.set oV)),(bD u [4,5,6,7,8] rfl).1,rfl,rfl⟩
 refine v0 (vs (vs (v0 (dM lJ rfl rfl (vl 0 _ cE rfl rfl rfl (fR m (σ:=(List Int)) (λs=>([(some k284,.obj 38 (aX x3)),(some k39,.obj 161 ([.mpv k36])),(some k36,.mp (gA kI (s:List Int))),(some k2,.obj 62 (aD p1)),OC p0K y0.2.1 ng3.a ng4.a ng5.a gV,bJ ng3 y0.2.2.1,aU ng4 y0.2.2.2.1,bO ng5 y0.2.2.2.2,aM gV ((p0.Vols.set p1.Vol.toNat ({ x2 with State:=2})).set p1.Vol.toNat ({ ({ x2 with State:=2}:aP) with Files:=IntKind.wrap .i64 ((({ x2 with State:=2}:aP).Files)+1)}))]++((bN ng3 y0.2.2.1)++((aY ng4 y0.2.2.2.1)++(bQ ng5 y0.2.2.2.2))))) (λs=>.c 0 (.ptr p0K 0) (.c 3 (.ptr k2 0) (.c 6 (uR gV.t (p1.Vol.toNat*4+0)) (.c 7 (.ptr k39 0) (.c 9 (.ptr k284 0) (.c 78 (.sl none 37 (List.map aX p1.Items)) (.c 79 (nZ (p1.Items.length:Int)) (.c 80 (nZ q5) .nil)))))))) (λx m=> ?_) ?_))))))
 refine v0 ?_
 apply vi m <;> intro c3 m
 exact v0 (vl 1 _ P9 rfl rfl rfl (dM tF rfl rfl (vl 0 _ cE rfl rfl rfl (ve λu=>J6 2 u QA (wE.int u3) rfl rfl rfl rfl λK11=>qk K11 rfl (KC m)))))
 exact v0 (KC m)
 rintro _ j1 m
 refine vs (v0 (u7 (by kernel_rfl) (jD rfl (dM dX rfl rfl (vl 4 (aZ ng4.a) eU rfl rfl rfl (dM tE rfl rfl (vl 0 (.agg (bM x3.Id)) fZ rfl rfl rfl ?_)))))))
 obtain⟨y1,Y1,m⟩:=aC m
 refine vn (λu=>bY (fC (.cons (Br.awN 6 cK eO D2 O4.k u rfl (S6 [[_], [_], [_], [_], [_], [_], [_], [_], [_],_,_,_] rfl 10 rfl)) (.cons (Br.refl _ _) .nil)) rfl (OT _ Y1)) rfl G6 rfl) (vs (fR m (σ:=Bool) (λs=>([(some k284,.obj 38 (aX x3)),(some k39,.obj 161 ([.mpv k36])),(some k36,.mp (gA kI (j1:List Int))),(some k2,.obj 62 (aD p1)),OC p0K y0.2.1 ng3.a ng4.a ng5.a gV,bJ ng3 y0.2.2.1,aU ng4 y0.2.2.2.1,bO ng5 y0.2.2.2.2,aM gV ((p0.Vols.set p1.Vol.toNat ({ x2 with State:=2})).set p1.Vol.toNat ({ ({ x2 with State:=2}:aP) with Files:=IntKind.wrap .i64 ((({ x2 with State:=2}:aP).Files)+1)}))]++((bN ng3 y0.2.2.1)++((aY ng4 y0.2.2.2.1)++(bQ ng5 y0.2.2.2.2))))) (λs=>.c 0 (.ptr p0K 0) (.c 3 (.ptr k2 0) (.c 6 (uR gV.t (p1.Vol.toNat*4+0)) (.c 7 (.ptr k39 0) (.c 11 (nZ y1.1) (.c 78 (.sl none 37 (List.map aX p1.Items)) (.c 79 (nZ (p1.Items.length:Int)) (.c 80 (nZ q5) (.c 129 (.sc (.bool s)) .nil))))))))) (λx m=> ?_) ?_))
 refine v0 (dM lJ rfl rfl (vl 0 _ cE rfl rfl rfl ?_))
 apply vi m <;> intro b5 m
 rw[b5]
 apply vi m <;> intro b6 m
 rw[b6]
 exact bU (iM (bG.ne (bG.set (bG.set oV)) (dD (x':=({ ({ x2 with State:=2}:aP) with Files:=IntKind.wrap .i64 ((({ x2 with State:=2}:aP).Files)+1)}:aP)) (dD (x':=({ x2 with State:=2}:aP)) X1))) rfl) (bU (cR (bG.ne (bG.set (bG.set oV)) (dD (x':=({ ({ x2 with State:=2}:aP) with Files:=IntKind.wrap .i64 ((({ x2 with State:=2}:aP).Files)+1)}:aP)) (dD (x':=({ x2 with State:=2}:aP)) X1))) KF rfl rfl) (vn (λu=>dW (fo:=0) (nZ (({ ({ x2 with State:=2}:aP) with Files:=IntKind.wrap .i64 ((({ x2 with State:=2}:aP).Files)+1)}:aP).Pool)) (dD (x':=({ ({ x2 with State:=2}:aP) with Files:=IntKind.wrap .i64 ((({ x2 with State:=2}:aP).Files)+1)}:aP)) (dD (x':=({ x2 with State:=2}:aP)) X1)) dY (bG.set (bG.set oV)) cE rfl (aI 8 u rfl) (λ_=>rfl)) (gq9 m)))
 rw[b6]
 exact gq9 m
 rw[b5]
 exact gq9 m
 rintro _ j2 m
 refine oU m (σ:=(List aA)) (τ:=dE) (λg s=>([(some k284,.obj 38 (aX x3)),(some k39,.obj 161 ([.mpv k36])),(some k36,.mp (gA kI (j1:List Int))),(some k2,.obj 62 (aD p1)),OC p0K y0.2.1 ng3.a g.a ng5.a gV,bJ ng3 y0.2.2.1,aU g s,bO ng5 y0.2.2.2.2,aM gV ((p0.Vols.set p1.Vol.toNat ({ x2 with State:=2})).set p1.Vol.toNat ({ ({ x2 with State:=2}:aP) with Files:=IntKind.wrap .i64 ((({ x2 with State:=2}:aP).Files)+1)}))]++((bN ng3 y0.2.2.1)++((aY g s)++(bQ ng5 y0.2.2.2.2))))) (λg s=>lP aA.Locs 35 4 g (s:List aA)) (λg s=>.c 0 (.ptr p0K 0) (.c 3 (.ptr k2 0) (.c 6 (uR gV.t (p1.Vol.toNat*4+0)) (.c 7 (.ptr k39 0) (.c 78 (.sl none 37 (List.map aX p1.Items)) (.c 79 (nZ (p1.Items.length:Int)) (.c 80 (nZ q5) .nil))))))) (λx m=> ?_) ?_
 refine v0 ?_
 apply vi m <;> intro c4 m
 refine v0 (vz [(1000000,some p0K,.obj 30 ([nZ y0.2.1,aZ ng3.a,aZ ng4.a,aZ ng5.a,aZ gV]))] mixed (λu=>⟨λ_=>aI 4 u rfl,trivial⟩) λu=>zP 0 rfl rfl (zN 1 rfl rfl (zF 2 rfl dX rfl (zL 3 0 (aZ ng4.a) rfl eU rfl rfl rfl (zI 4 rfl rfl (zP 5 rfl rfl (zN 6 rfl rfl (zF 7 rfl dX rfl (zL 8 0 (aZ ng4.a) rfl eU rfl rfl rfl (zI 9 rfl rfl ?_))))))))))
 obtain⟨x4,X2,m⟩:=aC m
 refine zC 10 rfl (cJ (O4.k.ix X2) fI O4.k.z rfl rfl) (zC 11 rfl (cR (bG.ne O4.k.z (O4.k.ix X2)) nV rfl rfl) (zE 12 rfl (cG (fo:=32) (x':=(({ x4 with Staged:=false}:aA),(gx ng4.gs y1.1.toNat))) 6 u (O4.k.ix X2) iI O4.k.z rfl rfl rfl rfl (cT.refl _ _) T5 rfl rfl ?_)))
 intro K12
 have hs0:rW aA.Locs 35 4 ng4 (y0.2.2.2.1:List aA):=O4.k
 have hn0:hp h _=hp h ([(some k284,.obj 38 (aX x3)),(some k39,.obj 161 ([.mpv k36])),(some k36,.mp (gA kI (j1:List Int))),(some k2,.obj 62 (aD p1)),OC p0K y0.2.1 ng3.a ng4.a ng5.a gV,bJ ng3 y0.2.2.1,aU ng4 (y0.2.2.2.1.set y1.1.toNat ({ x4 with Staged:=false})),bO ng5 y0.2.2.2.2,aM gV ((p0.Vols.set p1.Vol.toNat ({ x2 with State:=2})).set p1.Vol.toNat ({ ({ x2 with State:=2}:aP) with Files:=IntKind.wrap .i64 ((({ x2 with State:=2}:aP).Files)+1)}))]++((bN ng3 y0.2.2.1)++((aY ng4 (y0.2.2.2.1.set y1.1.toNat ({ x4 with Staged:=false})))++(bQ ng5 y0.2.2.2.2))))∧bT h ([(some k284,.obj 38 (aX x3)),(some k39,.obj 161 ([.mpv k36])),(some k36,.mp (gA kI (j1:List Int))),(some k2,.obj 62 (aD p1)),OC p0K y0.2.1 ng3.a ng4.a ng5.a gV,bJ ng3 y0.2.2.1,aU ng4 (y0.2.2.2.1.set y1.1.toNat ({ x4 with Staged:=false})),bO ng5 y0.2.2.2.2,aM gV ((p0.Vols.set p1.Vol.toNat ({ x2 with State:=2})).set p1.Vol.toNat ({ ({ x2 with State:=2}:aP) with Files:=IntKind.wrap .i64 ((({ x2 with State:=2}:aP).Files)+1)}))]++((bN ng3 y0.2.2.1)++((aY ng4 (y0.2.2.2.1.set y1.1.toNat ({ x4 with Staged:=false})))++(bQ ng5 y0.2.2.2.2)))):=eqN (L:=_) K12 (by unfold aU; (try unfold aY); rw[(hs0.set (x':=({ x4 with Staged:=false}:aA)) X2 rfl).2.2,← (hs0.set (x':=({ x4 with Staged:=false}:aA)) X2 rfl).2.1]; first | done | rfl)
 refine kF hn0.1 (⟨⟨λ_=>aI 4 hn0.2 rfl,trivial⟩, ?_⟩)
 obtain⟨x5,X3,m⟩:=aC m
 refine zC 13 rfl (cJ ((O4.set (x':=({ x4 with Staged:=false}:aA)) X2 rfl).k.ix X3) fI ((O4.set (x':=({ x4 with Staged:=false}:aA)) X2 rfl).k.z) rfl rfl) (zC 14 rfl (cR (bG.ne ((O4.set (x':=({ x4 with Staged:=false}:aA)) X2 rfl).k.z) ((O4.set (x':=({ x4 with Staged:=false}:aA)) X2 rfl).k.ix X3)) jK rfl rfl) (zE 15 rfl (cG (fo:=33) (x':=(({ x5 with Data:=([]:List Int)}:aA),(gx ng4.gs y1.1.toNat))) 6 hn0.2 ((O4.set (x':=({ x4 with Staged:=false}:aA)) X2 rfl).k.ix X3) iI ((O4.set (x':=({ x4 with Staged:=false}:aA)) X2 rfl).k.z) rfl rfl rfl rfl (.cons (aV _) .nil) BA rfl rfl ?_)))
 intro K13
 have hs1:rW aA.Locs 35 4 ng4 (y0.2.2.2.1.set y1.1.toNat ({ x4 with Staged:=false}):List aA):=(O4.set (x':=({ x4 with Staged:=false}:aA)) X2 rfl).k
 have hn1:hp h _=hp h ([(some k284,.obj 38 (aX x3)),(some k39,.obj 161 ([.mpv k36])),(some k36,.mp (gA kI (j1:List Int))),(some k2,.obj 62 (aD p1)),OC p0K y0.2.1 ng3.a ng4.a ng5.a gV,bJ ng3 y0.2.2.1,aU ng4 ((y0.2.2.2.1.set y1.1.toNat ({ x4 with Staged:=false})).set y1.1.toNat ({ x5 with Data:=([]:List Int)})),bO ng5 y0.2.2.2.2,aM gV ((p0.Vols.set p1.Vol.toNat ({ x2 with State:=2})).set p1.Vol.toNat ({ ({ x2 with State:=2}:aP) with Files:=IntKind.wrap .i64 ((({ x2 with State:=2}:aP).Files)+1)}))]++((bN ng3 y0.2.2.1)++((aY ng4 ((y0.2.2.2.1.set y1.1.toNat ({ x4 with Staged:=false})).set y1.1.toNat ({ x5 with Data:=([]:List Int)})))++(bQ ng5 y0.2.2.2.2))))∧bT h ([(some k284,.obj 38 (aX x3)),(some k39,.obj 161 ([.mpv k36])),(some k36,.mp (gA kI (j1:List Int))),(some k2,.obj 62 (aD p1)),OC p0K y0.2.1 ng3.a ng4.a ng5.a gV,bJ ng3 y0.2.2.1,aU ng4 ((y0.2.2.2.1.set y1.1.toNat ({ x4 with Staged:=false})).set y1.1.toNat ({ x5 with Data:=([]:List Int)})),bO ng5 y0.2.2.2.2,aM gV ((p0.Vols.set p1.Vol.toNat ({ x2 with State:=2})).set p1.Vol.toNat ({ ({ x2 with State:=2}:aP) with Files:=IntKind.wrap .i64 ((({ x2 with State:=2}:aP).Files)+1)}))]++((bN ng3 y0.2.2.1)++((aY ng4 ((y0.2.2.2.1.set y1.1.toNat ({ x4 with Staged:=false})).set y1.1.toNat ({ x5 with Data:=([]:List Int)})))++(bQ ng5 y0.2.2.2.2)))):=eqN (L:=_) K13 (by unfold aU; (try unfold aY); rw[(hs1.set (x':=({ x5 with Data:=([]:List Int)}:aA)) X3 rfl).2.2,← (hs1.set (x':=({ x5 with Data:=([]:List Int)}:aA)) X3 rfl).2.1]; first | done | rfl)
 refine kF hn1.1 (⟨⟨λ_=>aI 4 hn1.2 rfl,trivial⟩, ?_⟩)
 exact zX (qk (f:=RR 143 _ _ _ _ _ _ _ _ _ _ _ _ _ _ _) hn1.2 rfl (eR m ng4 ((O4.set (x':=({ x4 with Staged:=false}:aA)) X2 rfl).set (x':=({ x5 with Data:=([]:List Int)}:aA)) X3 rfl) (lx (.k7 .nil))))
 exact v0 (eR m ng4 O4 (lx (.k7 .nil)))
 rintro ng6 j3 O6 m
 exact v0 (eR m (ng3,ng6,ng5) ⟨O3,O6,O5⟩ (lxB [[_], [_], [_], [_], [_], [_], [_], [_], [_],_,_,_] rfl [1,2,3,4,5,6,7,8,9,10,11] rfl rfl (.k7 .nil)))
 exact v0 (kT m (ng0,ng1,ng2) ⟨O0,O1,O2⟩ (lx (.k7 .nil)))
 rintro⟨ng7,ng8,ng9⟩ ⟨r0,r1,r2,r3,r4,r5⟩ ⟨t0,t1,t2⟩ m
 refine vs (v0 (jD rfl (dM dU rfl rfl (vl 3 (aZ ng7.a) fM rfl rfl rfl (bU (dP jU t0.k.a rfl) (vs (pJ (CR (L':=([(some k39,.obj 161 ([.mpv k36])),(some k36,.mp (gA kI (r0:List Int))),(some k2,.obj 62 (aD p1)),OC p0K r1 ng7.a ng8.a ng9.a gV,bB ng7.a r2,aU ng8 r3,bO ng9 r4,aM gV ((p0.Vols.set p1.Vol.toNat ({ x2 with State:=2})).set p1.Vol.toNat ({ ({ x2 with State:=2}:aP) with Files:=IntKind.wrap .i64 ((({ x2 with State:=2}:aP).Files)+1)}))]++((aY ng8 r3)++(bQ ng9 r4)))) [[_], [_], [_], [_], [_], [_], [_], [_],_,_,_] rfl 4 8 eO pQ t0.k rfl rfl (by decide) rfl) (pJ (CR (L':=([(some k39,.obj 161 ([.mpv k36])),(some k36,.mp (gA kI (r0:List Int))),(some k2,.obj 62 (aD p1)),OC p0K r1 ng7.a ng8.a ng9.a gV,bB ng7.a r2,aT ng8.a r3,bO ng9 r4,aM gV ((p0.Vols.set p1.Vol.toNat ({ x2 with State:=2})).set p1.Vol.toNat ({ ({ x2 with State:=2}:aP) with Files:=IntKind.wrap .i64 ((({ x2 with State:=2}:aP).Files)+1)}))]++(bQ ng9 r4))) [[_], [_], [_], [_], [_], [_], [_], [_],_,_] rfl 5 8 eO nL t1.k rfl rfl (by decide) rfl) (pJ (CR (L':= [(some k39,.obj 161 ([.mpv k36])),(some k36,.mp (gA kI (r0:List Int))),(some k2,.obj 62 (aD p1)),OC p0K r1 ng7.a ng8.a ng9.a gV,bB ng7.a r2,aT ng8.a r3,bV ng9.a r4,aM gV ((p0.Vols.set p1.Vol.toNat ({ x2 with State:=2})).set p1.Vol.toNat ({ ({ x2 with State:=2}:aP) with Files:=IntKind.wrap .i64 ((({ x2 with State:=2}:aP).Files)+1)}))]) [[_], [_], [_], [_], [_], [_], [_], [_],_] rfl 6 8 eO uB t2.k rfl rfl (by decide) rfl) (v0 (jD rfl (dM dU rfl rfl (vl 3 (aZ ng7.a) fM rfl rfl rfl ?_)))))))))))))
 obtain⟨y2,Y2,m⟩:=aC m
 refine ve λu=>cY ((a9 u [4,0,1,2,3,5,6,7] rfl rfl).1.trans (cS h [bB ng7.a r2] [(some k39,.obj 161 ([.mpv k36])),(some k36,.mp (gA kI (r0:List Int))),(some k2,.obj 62 (aD p1)),OC p0K r1 ng7.a ng8.a ng9.a gV,aT ng8.a r3,bV ng9.a r4,aM gV ((p0.Vols.set p1.Vol.toNat ({ x2 with State:=2})).set p1.Vol.toNat ({ ({ x2 with State:=2}:aP) with Files:=IntKind.wrap .i64 ((({ x2 with State:=2}:aP).Files)+1)}))]).symm) (cI (XP (hp h [(some k39,.obj 161 ([.mpv k36])),(some k36,.mp (gA kI (r0:List Int))),(some k2,.obj 62 (aD p1)),OC p0K r1 ng7.a ng8.a ng9.a gV,aT ng8.a r3,bV ng9.a r4,aM gV ((p0.Vols.set p1.Vol.toNat ({ x2 with State:=2})).set p1.Vol.toNat ({ ({ x2 with State:=2}:aP) with Files:=IntKind.wrap .i64 ((({ x2 with State:=2}:aP).Files)+1)}))]) t0.k.a (cH [bB ng7.a r2] [(some k39,.obj 161 ([.mpv k36])),(some k36,.mp (gA kI (r0:List Int))),(some k2,.obj 62 (aD p1)),OC p0K r1 ng7.a ng8.a ng9.a gV,aT ng8.a r3,bV ng9.a r4,aM gV ((p0.Vols.set p1.Vol.toNat ({ x2 with State:=2})).set p1.Vol.toNat ({ ({ x2 with State:=2}:aP) with Files:=IntKind.wrap .i64 ((({ x2 with State:=2}:aP).Files)+1)}))] (a9 u [4,0,1,2,3,5,6,7] rfl rfl).2).2 XO (λx0 o h0 hs ho=>aDK _ (hs _ _ (a8 0 (cH [bB ng7.a r2] [(some k39,.obj 161 ([.mpv k36])),(some k36,.mp (gA kI (r0:List Int))),(some k2,.obj 62 (aD p1)),OC p0K r1 ng7.a ng8.a ng9.a gV,aT ng8.a r3,bV ng9.a r4,aM gV ((p0.Vols.set p1.Vol.toNat ({ x2 with State:=2})).set p1.Vol.toNat ({ ({ x2 with State:=2}:aP) with Files:=IntKind.wrap .i64 ((({ x2 with State:=2}:aP).Files)+1)}))] (a9 u [4,0,1,2,3,5,6,7] rfl rfl).2).1 rfl)) (hs _ _ (a8 1 (cH [bB ng7.a r2] [(some k39,.obj 161 ([.mpv k36])),(some k36,.mp (gA kI (r0:List Int))),(some k2,.obj 62 (aD p1)),OC p0K r1 ng7.a ng8.a ng9.a gV,aT ng8.a r3,bV ng9.a r4,aM gV ((p0.Vols.set p1.Vol.toNat ({ x2 with State:=2})).set p1.Vol.toNat ({ ({ x2 with State:=2}:aP) with Files:=IntKind.wrap .i64 ((({ x2 with State:=2}:aP).Files)+1)}))] (a9 u [4,0,1,2,3,5,6,7] rfl rfl).2).1 rfl)) ho) Y2) rfl XQ rfl ?_)
 rintro x h' ⟨ag0,O7,K14,rfl,rfl⟩
 have K15:=a9 (L':= [(some k39,.obj 161 ([.mpv k36])),(some k36,.mp (gA kI (r0:List Int))),(some k2,.obj 62 (aD p1)),(hO p0K r1 ng7.a ng8.a ng9.a gV),bB ag0 y2,aT ng8.a r3,bV ng9.a r4,aM gV ((p0.Vols.set p1.Vol.toNat ({ x2 with State:=2})).set p1.Vol.toNat ({ ({ x2 with State:=2}:aP) with Files:=IntKind.wrap .i64 ((({ x2 with State:=2}:aP).Files)+1)}))]) (dF (cH [bB ng7.a r2] [(some k39,.obj 161 ([.mpv k36])),(some k36,.mp (gA kI (r0:List Int))),(some k2,.obj 62 (aD p1)),OC p0K r1 ng7.a ng8.a ng9.a gV,aT ng8.a r3,bV ng9.a r4,aM gV ((p0.Vols.set p1.Vol.toNat ({ x2 with State:=2})).set p1.Vol.toNat ({ ({ x2 with State:=2}:aP) with Files:=IntKind.wrap .i64 ((({ x2 with State:=2}:aP).Files)+1)}))] (a9 u [4,0,1,2,3,5,6,7] rfl rfl).2).1 K14) [1,2,3,4,0,5,6,7] rfl rfl
 refine qk K15.2 ((cS h [bB ag0 y2] [(some k39,.obj 161 ([.mpv k36])),(some k36,.mp (gA kI (r0:List Int))),(some k2,.obj 62 (aD p1)),OC p0K r1 ng7.a ng8.a ng9.a gV,aT ng8.a r3,bV ng9.a r4,aM gV ((p0.Vols.set p1.Vol.toNat ({ x2 with State:=2})).set p1.Vol.toNat ({ ({ x2 with State:=2}:aP) with Files:=IntKind.wrap .i64 ((({ x2 with State:=2}:aP).Files)+1)}))]).trans K15.1) (jD rfl (dM dU rfl rfl (ve λu=>aJ 3 ([nZ r1,aZ ag0,aZ ng8.a,aZ ng9.a,aZ gV]) u rfl rfl (bZ rfl) (cC (bW _ _ _) rfl) FH rfl rfl λK16=>qk K16 rfl (vs (vs (v0 (jD rfl (dM dU rfl rfl (vl 3 (aZ ag0) fM rfl rfl rfl (bU (dP jU O7 rfl) (oU m (σ:=(List aA)) (τ:=cQ) (λg s=> [(some k39,.obj 161 ([.mpv k36])),(some k36,.mp (gA kI (r0:List Int))),(some k2,.obj 62 (aD p1)),OC p0K r1 ag0 g ng9.a gV,bB ag0 y2,aT g s,bV ng9.a r4,aM gV ((p0.Vols.set p1.Vol.toNat ({ x2 with State:=2})).set p1.Vol.toNat ({ ({ x2 with State:=2}:aP) with Files:=IntKind.wrap .i64 ((({ x2 with State:=2}:aP).Files)+1)}))]) (λg s=>bG g 35 (s:List aA).length) (λg s=>.nil) (λx m=> ?_) ?_)))))))))))
 refine v0 ?_
 apply vi m <;> intro c5 m
 refine v0 ?_
 obtain⟨y3,Y3,m⟩:=aC m
 refine ve λu=>cY ((a9 u [3,4,5,6,7,0,1,2] rfl rfl).1.trans (cS h [OC p0K r1 ag0 ng8.a ng9.a gV,bB ag0 y2,aT ng8.a r3,bV ng9.a r4,aM gV ((p0.Vols.set p1.Vol.toNat ({ x2 with State:=2})).set p1.Vol.toNat ({ ({ x2 with State:=2}:aP) with Files:=IntKind.wrap .i64 ((({ x2 with State:=2}:aP).Files)+1)}))] [(some k39,.obj 161 ([.mpv k36])),(some k36,.mp (gA kI (r0:List Int))),(some k2,.obj 62 (aD p1))]).symm) (cI (XF (p0:=({ Seq:=r1,Snaps:=y2,Chunks:=r3,Exps:=r4,Vols:=(p0.Vols.set p1.Vol.toNat ({ x2 with State:=2})).set p1.Vol.toNat ({ ({ x2 with State:=2}:aP) with Files:=IntKind.wrap .i64 ((({ x2 with State:=2}:aP).Files)+1)})}:aB)) (hp h [(some k39,.obj 161 ([.mpv k36])),(some k36,.mp (gA kI (r0:List Int))),(some k2,.obj 62 (aD p1))]) O7 t1.k.a t2.k.a (bG.set (bG.set oV)) (cH [OC p0K r1 ag0 ng8.a ng9.a gV,bB ag0 y2,aT ng8.a r3,bV ng9.a r4,aM gV ((p0.Vols.set p1.Vol.toNat ({ x2 with State:=2})).set p1.Vol.toNat ({ ({ x2 with State:=2}:aP) with Files:=IntKind.wrap .i64 ((({ x2 with State:=2}:aP).Files)+1)}))] [(some k39,.obj 161 ([.mpv k36])),(some k36,.mp (gA kI (r0:List Int))),(some k2,.obj 62 (aD p1))] (a9 u [3,4,5,6,7,0,1,2] rfl rfl).2).2 Y3) rfl QS rfl ?_)
 rintro x h' ⟨ag1,O8,K17,rfl,rfl⟩
 have K18:=a9 (L':= [(some k39,.obj 161 ([.mpv k36])),(some k36,.mp (gA kI (r0:List Int))),(some k2,.obj 62 (aD p1)),OC p0K r1 ag0 ag1 ng9.a gV,bB ag0 y2,aT ag1 y3,bV ng9.a r4,aM gV ((p0.Vols.set p1.Vol.toNat ({ x2 with State:=2})).set p1.Vol.toNat ({ ({ x2 with State:=2}:aP) with Files:=IntKind.wrap .i64 ((({ x2 with State:=2}:aP).Files)+1)}))]) (dF (cH [OC p0K r1 ag0 ng8.a ng9.a gV,bB ag0 y2,aT ng8.a r3,bV ng9.a r4,aM gV ((p0.Vols.set p1.Vol.toNat ({ x2 with State:=2})).set p1.Vol.toNat ({ ({ x2 with State:=2}:aP) with Files:=IntKind.wrap .i64 ((({ x2 with State:=2}:aP).Files)+1)}))] [(some k39,.obj 161 ([.mpv k36])),(some k36,.mp (gA kI (r0:List Int))),(some k2,.obj 62 (aD p1))] (a9 u [3,4,5,6,7,0,1,2] rfl rfl).2).1 K17) [5,6,7,0,1,2,3,4] rfl rfl
 exact qk K18.2 ((cS h [OC p0K r1 ag0 ag1 ng9.a gV,bB ag0 y2,aT ag1 y3,bV ng9.a r4,aM gV ((p0.Vols.set p1.Vol.toNat ({ x2 with State:=2})).set p1.Vol.toNat ({ ({ x2 with State:=2}:aP) with Files:=IntKind.wrap .i64 ((({ x2 with State:=2}:aP).Files)+1)}))] [(some k39,.obj 161 ([.mpv k36])),(some k36,.mp (gA kI (r0:List Int))),(some k2,.obj 62 (aD p1))]).trans K18.1) (eR m ag1 O8 (lx .nil))
 exact v0 (eR m ng8.a t1.k.a (lx .nil))
 rintro ag2 j4 O9 m
 refine vs (v0 (v0 ?_))
 cases m
 exact vr λu=>dV.of1 (.inl rfl) (fP _ _ (.sc (.int _ _)) rfl) (bD u [3,4,5,6,7] rfl).2 (bE.refl _ _) ⟨ag0,O7,ag2,O9,ng9.a,t2.k.a,gV,(bG.set (bG.set oV)),(bD u [3,4,5,6,7] rfl).1,rfl,rfl⟩
theorem aDL:aO Tryz.prog 74=true:=by kernel_rfl
end Go.Proofs.YtbbifdfldpfphaaGreat
