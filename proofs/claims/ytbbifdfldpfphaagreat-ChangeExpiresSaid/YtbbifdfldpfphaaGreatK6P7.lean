import Derived.Test.YtbbifdfldpfphaaGreatK6P6
import Derived.Test.YtbbifdfldpfphaaGreatK6P3
import Derived.Test.YtbbifdfldpfphaaGreatK6P5
import Derived.Test.YtbbifdfldpfphaaGreatK6P4
set_option linter.unusedSimpArgs false
set_option linter.unusedVariables false
set_option maxHeartbeats 4000000
set_option maxRecDepth 100000
namespace Go.Proofs.YtbbifdfldpfphaaGreat
open Go.Vm
def H8 (m:Nat) (p0:List aH):Option (List aH):=app [] p0
theorem ZQ {w:Nat} {p0:List aH} {o:List aH} (h:aE) (m:H8 w p0=some o):
 aL Tryz.prog 132 [.sl none 4 (List.map bK p0)] h (λr h'=>∃g:dC,bM g 4 o.length∧bQ h [(g.t,.obj 60 (fl bK o g.sp))]∧r=aZ g∧h'=hp h [(g.t,.obj 60 (fl bK o g.sp))]):=by
 refine jJ 8 [.tmp 2] Tryz.func132 rfl rfl rfl rfl ?_
 unfold H8 at m
 refine gP λK1 H1=>eB (rY (hU (.sc (.slice _ _ _)) rfl) (fI (H1 _ _ (gP λK1 H1=>gP λK2 H2=>eB (vE rfl (lI (kC rfl (by rw[iX]; rfl) (by rw[bI]; exact rfl) (.inl ⟨_,_,_,rfl,λb hb=> ?_⟩))))))))
 refine fI (H2 _ _ (nP rfl (λhc=> ?_) (λhc=> ?_)))
 have h0:p0= []:=by
   cases p0 with
   | nil=>rfl
   | cons x l=>have:=hb (by simp); rw[this] at hc; cases hc
 subst h0
 obtain⟨rfl, -⟩:=jC m
 exact gP λK1 H1=>eB (rY (hU (.sc (.slice _ _ _)) rfl) (fI (H1 _ _ (iN (dZ.one (.inl rfl) (iT.refl _) (fP _) ⟨g0,bM.g0 _,bQ.none (bQ.nil _),rfl,rfl⟩)))))
 exact l4 (H1 _ _ (gP λK1 H1=>eB (lI (qH (c:=bK) (bQ.nil _) wJ λu=>vE rfl (lI (fS (c:=bK) 0 m wJ rfl sP rfl eC rfl rfl (bM.g0 _) u rfl λg ok u=>rY (hU (aw _ _ _) rfl) (fI (H1 _ _ (iN (dZ.one (.inl rfl) (iT.refl _) (bB.refl _ _) ⟨g,ok,u,rfl,rfl⟩))))))))))
theorem ZR:aP Tryz.prog 132=true:=by kernel_rfl
def H9 (m:Nat) (p0:List aB):Option (List aB):=app [] p0
theorem ZS {w:Nat} {p0:List aB} {o:List aB} (h:aE) (m:H9 w p0=some o):
 aL Tryz.prog 133 [.sl none 35 (List.map aI p0)] h (λr h'=>∃g:dC,bM g 35 o.length∧bQ h [(g.t,.obj 44 (fl aI o g.sp))]∧r=aZ g∧h'=hp h [(g.t,.obj 44 (fl aI o g.sp))]):=by
 refine jJ 8 [.tmp 2] Tryz.func133 rfl rfl rfl rfl ?_
 unfold H9 at m
 refine gP λK1 H1=>eB (rY (hU (.sc (.slice _ _ _)) rfl) (fI (H1 _ _ (gP λK1 H1=>gP λK2 H2=>eB (vE rfl (lI (kC rfl (by rw[fH]; rfl) (by rw[bI]; exact rfl) (.inl ⟨_,_,_,rfl,λb hb=> ?_⟩))))))))
 refine fI (H2 _ _ (nP rfl (λhc=> ?_) (λhc=> ?_)))
 have h0:p0= []:=by
   cases p0 with
   | nil=>rfl
   | cons x l=>have:=hb (by simp); rw[this] at hc; cases hc
 subst h0
 obtain⟨rfl, -⟩:=jC m
 exact gP λK1 H1=>eB (rY (hU (.sc (.slice _ _ _)) rfl) (fI (H1 _ _ (iN (dZ.one (.inl rfl) (iT.refl _) (fP _) ⟨g0,bM.g0 _,bQ.none (bQ.nil _),rfl,rfl⟩)))))
 exact l4 (H1 _ _ (gP λK1 H1=>eB (lI (qH (c:=aI) (bQ.nil _) lK λu=>vE rfl (lI (fS (c:=aI) 0 m lK rfl oK rfl cL rfl rfl (bM.g0 _) u rfl λg ok u=>rY (hU (aw _ _ _) rfl) (fI (H1 _ _ (iN (dZ.one (.inl rfl) (iT.refl _) (bB.refl _ _) ⟨g,ok,u,rfl,rfl⟩))))))))))
theorem ZT:aP Tryz.prog 133=true:=by kernel_rfl
def IA (m:Nat) (p0:List aS):Option (List aS):=app [] p0
theorem ZU {w:Nat} {p0:List aS} {o:List aS} (h:aE) (m:IA w p0=some o):
 aL Tryz.prog 134 [.sl none 3 (List.map cV p0)] h (λr h'=>∃g:dC,bM g 3 o.length∧bQ h [(g.t,.obj 99 (fl cV o g.sp))]∧r=aZ g∧h'=hp h [(g.t,.obj 99 (fl cV o g.sp))]):=by
 refine jJ 8 [.tmp 2] Tryz.func134 rfl rfl rfl rfl ?_
 unfold IA at m
 refine gP λK1 H1=>eB (rY (hU (.sc (.slice _ _ _)) rfl) (fI (H1 _ _ (gP λK1 H1=>gP λK2 H2=>eB (vE rfl (lI (kC rfl (by rw[jY]; rfl) (by rw[bI]; exact rfl) (.inl ⟨_,_,_,rfl,λb hb=> ?_⟩))))))))
 refine fI (H2 _ _ (nP rfl (λhc=> ?_) (λhc=> ?_)))
 have h0:p0= []:=by
   cases p0 with
   | nil=>rfl
   | cons x l=>have:=hb (by simp); rw[this] at hc; cases hc
 subst h0
 obtain⟨rfl, -⟩:=jC m
 exact gP λK1 H1=>eB (rY (hU (.sc (.slice _ _ _)) rfl) (fI (H1 _ _ (iN (dZ.one (.inl rfl) (iT.refl _) (fP _) ⟨g0,bM.g0 _,bQ.none (bQ.nil _),rfl,rfl⟩)))))
 exact l4 (H1 _ _ (gP λK1 H1=>eB (lI (qH (c:=cV) (bQ.nil _) pC λu=>vE rfl (lI (fS (c:=cV) 0 m pC rfl u6 rfl fY rfl rfl (bM.g0 _) u rfl λg ok u=>rY (hU (aw _ _ _) rfl) (fI (H1 _ _ (iN (dZ.one (.inl rfl) (iT.refl _) (bB.refl _ _) ⟨g,ok,u,rfl,rfl⟩))))))))))
theorem ZV:aP Tryz.prog 134=true:=by kernel_rfl
def IB (m:Nat) (p0:List aM):Option (List aM):=app [] p0
theorem ZW {w:Nat} {p0:List aM} {o:List aM} (h:aE) (m:IB w p0=some o):
 aL Tryz.prog 135 [.sl none 4 (List.map cS p0)] h (λr h'=>∃g:dC,bM g 4 o.length∧bQ h [(g.t,.obj 49 (fl cS o g.sp))]∧r=aZ g∧h'=hp h [(g.t,.obj 49 (fl cS o g.sp))]):=by
 refine jJ 8 [.tmp 2] Tryz.func135 rfl rfl rfl rfl ?_
 unfold IB at m
 refine gP λK1 H1=>eB (rY (hU (.sc (.slice _ _ _)) rfl) (fI (H1 _ _ (gP λK1 H1=>gP λK2 H2=>eB (vE rfl (lI (kC rfl (by rw[pD]; rfl) (by rw[bI]; exact rfl) (.inl ⟨_,_,_,rfl,λb hb=> ?_⟩))))))))
 refine fI (H2 _ _ (nP rfl (λhc=> ?_) (λhc=> ?_)))
 have h0:p0= []:=by
   cases p0 with
   | nil=>rfl
   | cons x l=>have:=hb (by simp); rw[this] at hc; cases hc
 subst h0
 obtain⟨rfl, -⟩:=jC m
 exact gP λK1 H1=>eB (rY (hU (.sc (.slice _ _ _)) rfl) (fI (H1 _ _ (iN (dZ.one (.inl rfl) (iT.refl _) (fP _) ⟨g0,bM.g0 _,bQ.none (bQ.nil _),rfl,rfl⟩)))))
 exact l4 (H1 _ _ (gP λK1 H1=>eB (lI (qH (c:=cS) (bQ.nil _) GA λu=>vE rfl (lI (fS (c:=cS) 0 m GA rfl PM rfl eS rfl rfl (bM.g0 _) u rfl λg ok u=>rY (hU (aw _ _ _) rfl) (fI (H1 _ _ (iN (dZ.one (.inl rfl) (iT.refl _) (bB.refl _ _) ⟨g,ok,u,rfl,rfl⟩))))))))))
theorem ZX:aP Tryz.prog 135=true:=by kernel_rfl
def tP (m:Nat) (y0:(List aH)) (q0:List aH) (q1:Int):Option (Lp ((List aH)×Int) (aA)):=
 if (decide (q1 < (y0.length:Int)))=true then ((ix q0 q1).bind λx0=>(JX m x0.Man).bind λy1=>(ET m x0.Locs).bind λy2=>some (.go ((q0.set q1.toNat ({ x0 with Man:=y1})).set q1.toNat ({ ({ x0 with Man:=y1}:aH) with Locs:=y2}),IntKind.wrap .i64 (q1+1)))) else some (.brk (q0,q1))
def tQ (m:Nat) (y0:(List aB)) (q0:List aB) (q1:Int):Option (Lp ((List aB)×Int) (aA)):=
 if (decide (q1 < (y0.length:Int)))=true then ((ix q0 q1).bind λx0=>(RN m x0.Data).bind λy1=>(ET m x0.Locs).bind λy2=>some (.go ((q0.set q1.toNat ({ x0 with Data:=y1})).set q1.toNat ({ ({ x0 with Data:=y1}:aB) with Locs:=y2}),IntKind.wrap .i64 (q1+1)))) else some (.brk (q0,q1))
def tT (m:Nat) (y0:(List aS)) (q0:List aS) (q1:Int):Option (Lp ((List aS)×Int) (aA)):=
 if (decide (q1 < (y0.length:Int)))=true then ((ix q0 q1).bind λx0=>(ET m x0.Locs).bind λy1=>(ix q0 q1).bind λx1=>some (.go (q0.set q1.toNat ({ x1 with Locs:=y1}),IntKind.wrap .i64 (q1+1)))) else some (.brk (q0,q1))
def M9 (m:Nat) (p0:aA):Option (aA):=
 (H8 m p0.Snaps).bind λy0=>(H9 m p0.Chunks).bind λy1=>(IA m p0.Exps).bind λy2=>(IB m p0.Vols).bind λy3=>after (aU (λs=>tP m y0 s.1 s.2) m (y0,0)) λ⟨r0,r1⟩=>after (aU (λs=>tQ m y1 s.1 s.2) m (y1,0)) λ⟨r2,r3⟩=>after (aU (λs=>tT m y2 s.1 s.2) m (y2,0)) λ⟨r4,r5⟩=>some ({ Seq:=p0.Seq,Snaps:=r0,Chunks:=r2,Exps:=r4,Vols:=y3}:aA)
theorem aEW {w:Nat} {p0:aA} {o:aA} (h:aE) (m:M9 w p0=some o):
 aL Tryz.prog 77 [.agg (aF p0)] h (λr h'=>∃gS:dI,nM aH.Locs 4 4 gS (o.Snaps:List aH)∧∃gC:dI,nM aB.Locs 35 4 gC (o.Chunks:List aB)∧∃gE:dI,nM aS.Locs 3 4 gE (o.Exps:List aS)∧∃gV:dC,bM gV 4 o.Vols.length∧bQ h ([bO gS o.Snaps,a9 gC o.Chunks,bU gE o.Exps,aT gV o.Vols]++((bR gS o.Snaps)++((bD gC o.Chunks)++(bX gE o.Exps))))∧r= .agg ([nZ o.Seq,aZ gS.a,aZ gC.a,aZ gE.a,aZ gV])∧h'=hp h ([bO gS o.Snaps,a9 gC o.Chunks,bU gE o.Exps,aT gV o.Vols]++((bR gS o.Snaps)++((bD gC o.Chunks)++(bX gE o.Exps))))):=by
 refine fT 98 [.cell 2 30] Tryz.func77 rfl rfl rfl rfl ?_
 unfold M9 at m
 refine vs (v0 (hX rfl rfl λk2 K3=>ve λu=>bG (gO) u oH rfl rfl λk5 K6=>qk K6 rfl (vs (v0 (vz [(13,some k2,.obj 30 (aF p0))] mixed (λu=>⟨λ_=>aK 1 u rfl,trivial⟩) λu=>zF 0 rfl dQ rfl (zL 1 0 (.sl none 4 (List.map bK p0.Snaps)) rfl eV rfl rfl rfl (zF 3 rfl eG rfl (zL 4 0 (.sl none 35 (List.map aI p0.Chunks)) rfl eO rfl rfl rfl (zF 6 rfl fK rfl (zL 7 0 (.sl none 3 (List.map cV p0.Exps)) rfl jN rfl rfl rfl (zF 9 rfl iR rfl (zL 10 0 (.sl none 4 (List.map cS p0.Vols)) rfl kJ rfl rfl rfl ?_))))))))))))
 obtain⟨y0,Y0,m⟩:=aC m
 refine zE 2 rfl (cR (ZQ _ Y0) rfl ZR rfl ?_)
 rintro x h' ⟨ag0,O0,K0,rfl,rfl⟩
 rw[iO]
 refine⟨⟨λ_=>aK 2 (bQ.co u K0) rfl,trivial⟩, ?_⟩
 refine zF 12 rfl dQ rfl ?_
 obtain⟨y1,Y1,m⟩:=aC m
 refine zE 5 rfl (cR (ZS _ Y1) rfl ZT rfl ?_)
 rintro x h' ⟨ag1,O1,K1,rfl,rfl⟩
 rw[iO]
 refine⟨⟨λ_=>aK 3 (bQ.co (bQ.co u K0) K1) rfl,trivial⟩, ?_⟩
 obtain⟨y2,Y2,m⟩:=aC m
 refine zE 8 rfl (cR (ZU _ Y2) rfl ZV rfl ?_)
 rintro x h' ⟨ag2,O2,K2,rfl,rfl⟩
 rw[iO]
 refine⟨⟨λ_=>aK 4 (bQ.co (bQ.co (bQ.co u K0) K1) K2) rfl,trivial⟩, ?_⟩
 obtain⟨y3,Y3,m⟩:=aC m
 refine zE 11 rfl (cR (ZW _ Y3) rfl ZX rfl ?_)
 rintro x h' ⟨ag3,O3,K4,rfl,rfl⟩
 rw[iO]
 refine⟨⟨λ_=>aK 5 (bQ.co (bQ.co (bQ.co (bQ.co u K0) K1) K2) K4) rfl,trivial⟩, ?_⟩
 refine zE 13 rfl (aJ 5 ([nZ p0.Seq,aZ ag0,.sl none 35 (List.map aI p0.Chunks),.sl none 3 (List.map cV p0.Exps),.sl none 4 (List.map cS p0.Vols)]) (bQ.co (bQ.co (bQ.co (bQ.co u K0) K1) K2) K4) rfl rfl (cG rfl) (cE (bZ _ _ _) rfl) F9 rfl rfl λK5=>⟨⟨λe=>absurd e (by decide),trivial⟩, ?_⟩)
 refine zF 14 rfl eG rfl (zE 15 rfl (aJ 5 ([nZ p0.Seq,aZ ag0,aZ ag1,.sl none 3 (List.map cV p0.Exps),.sl none 4 (List.map cS p0.Vols)]) K5 rfl rfl (cG rfl) (cE (bZ _ _ _) rfl) CC rfl rfl λK7=>⟨⟨λe=>absurd e (by decide),trivial⟩, ?_⟩))
 refine zF 16 rfl fK rfl (zE 17 rfl (aJ 5 ([nZ p0.Seq,aZ ag0,aZ ag1,aZ ag2,.sl none 4 (List.map cS p0.Vols)]) K7 rfl rfl (cG rfl) (cE (bZ _ _ _) rfl) LM rfl rfl λK8=>⟨⟨λe=>absurd e (by decide),trivial⟩, ?_⟩))
 refine zF 18 rfl iR rfl (zE 19 rfl (aJ 5 ([nZ p0.Seq,aZ ag0,aZ ag1,aZ ag2,aZ ag3]) K8 rfl rfl (cG rfl) (cE (bZ _ _ _) rfl) PK rfl rfl λK9=>⟨⟨λe=>absurd e (by decide),trivial⟩, ?_⟩))
 refine zX (qk (f:=.c 23 _ (.c 22 _ (.c 21 _ (.c 19 _ (.c 16 _ (.c 13 _ (.c 20 _ (.c 10 _ (.c 18 _ (.c 17 _ (.c 15 _ (.c 14 _ (.c 12 _ (.c 11 _ (.c 9 _ (.c 8 _ _)))))))))))))))) K9 rfl (vs (vs (rE (toN (L':=([aT ag3 y3,bU (⟨ag2,List.replicate (y2:List aS).length none⟩:dI) y2,bF ag1 y1,bN ag0 y0,(some k5,.obj 30 (gO)),OC k2 p0.Seq ag0 ag1 ((⟨ag2,List.replicate (y2:List aS).length none⟩:dI).a) ag3]++(bX (⟨ag2,List.replicate (y2:List aS).length none⟩:dI) y2))) (λ_=>rfl) [[_], [_], [_], [_], [_], [_]] rfl 1 rfl rfl) (rE (toN (L':=([aT ag3 y3,bU (⟨ag2,List.replicate (y2:List aS).length none⟩:dI) y2,a9 (⟨ag1,List.replicate (y1:List aB).length none⟩:dI) y1,bN ag0 y0,(some k5,.obj 30 (gO)),OC k2 p0.Seq ag0 ((⟨ag1,List.replicate (y1:List aB).length none⟩:dI).a) ((⟨ag2,List.replicate (y2:List aS).length none⟩:dI).a) ag3]++((bX (⟨ag2,List.replicate (y2:List aS).length none⟩:dI) y2)++(bD (⟨ag1,List.replicate (y1:List aB).length none⟩:dI) y1)))) (λ_=>rfl) [[_], [_], [_], [_], [_], [_],_] rfl 2 rfl rfl) (rE (toN (L':=([aT ag3 y3,bU (⟨ag2,List.replicate (y2:List aS).length none⟩:dI) y2,a9 (⟨ag1,List.replicate (y1:List aB).length none⟩:dI) y1,bO (⟨ag0,List.replicate (y0:List aH).length none⟩:dI) y0,(some k5,.obj 30 (gO)),OC k2 p0.Seq ((⟨ag0,List.replicate (y0:List aH).length none⟩:dI).a) ((⟨ag1,List.replicate (y1:List aB).length none⟩:dI).a) ((⟨ag2,List.replicate (y2:List aS).length none⟩:dI).a) ag3]++((bX (⟨ag2,List.replicate (y2:List aS).length none⟩:dI) y2)++((bD (⟨ag1,List.replicate (y1:List aB).length none⟩:dI) y1)++(bR (⟨ag0,List.replicate (y0:List aH).length none⟩:dI) y0))))) (λ_=>rfl) [[_], [_], [_], [_], [_], [_],_,_] rfl 3 rfl rfl) (v0 (dP dQ rfl rfl (vl 5 (aw (⟨ag0,List.replicate (y0:List aH).length none⟩:dI).a.t (⟨ag0,List.replicate (y0:List aH).length none⟩:dI).a.n (⟨ag0,List.replicate (y0:List aH).length none⟩:dI).a.cap) eV rfl rfl rfl (bV (eR iQ ((CR.zero (l:=aH.Locs) (szi:=4) O0).k.a) rfl) ?_))))))))))
 refine UE m (σ:=(List aH)×Int) (τ:=dI) (λg s=>([aT ag3 y3,bU (⟨ag2,List.replicate (y2:List aS).length none⟩:dI) y2,a9 (⟨ag1,List.replicate (y1:List aB).length none⟩:dI) y1,bO g s.1,(some k5,.obj 30 (gO)),OC k2 p0.Seq g.a ((⟨ag1,List.replicate (y1:List aB).length none⟩:dI).a) ((⟨ag2,List.replicate (y2:List aS).length none⟩:dI).a) ag3]++((bX (⟨ag2,List.replicate (y2:List aS).length none⟩:dI) y2)++((bD (⟨ag1,List.replicate (y1:List aB).length none⟩:dI) y1)++(bR g s.1))))) (λg s=>CR aH.Locs 4 4 g (s.1:List aH) s.2.toNat (y0:List aH).length) (λg s=>nM aH.Locs 4 4 g (s.1:List aH)) (λg s=>.c 1 (.ptr k2 0) (.c 2 (.ptr k5 0) (.c 26 (nZ (y0.length:Int)) (.c 27 (nZ s.2) .nil)))) (⟨ag0,List.replicate (y0:List aH).length none⟩:dI) (CR.zero (l:=aH.Locs) (szi:=4) O0) (lx (.k4 .nil)) ?_ ?_
 rintro ng0 ⟨q0,q1⟩ x O4 m
 replace m:tP w y0 q0 q1=some x:=m
 unfold tP at m
 refine vs (v0 (vs (v0 ?_)))
 apply vi m <;> intro c0 m
 refine v0 (vs (v0 (vs (v0 (vs (v0 (dP dQ rfl rfl (vl 5 (aZ ng0.a) eV rfl rfl rfl ?_))))))))
 obtain⟨x0,X0,m⟩:=aC m
 refine bV (dJ (O4.k.ix X0) iX O4.k.z rfl rfl) (rE (MU (L':=([aT ag3 y3,bU (⟨ag2,List.replicate (y2:List aS).length none⟩:dI) y2,a9 (⟨ag1,List.replicate (y1:List aB).length none⟩:dI) y1,bO ng0 q0,(some k5,.obj 30 (gO)),OC k2 p0.Seq ng0.a ((⟨ag1,List.replicate (y1:List aB).length none⟩:dI).a) ((⟨ag2,List.replicate (y2:List aS).length none⟩:dI).a) ag3]++((bX (⟨ag2,List.replicate (y2:List aS).length none⟩:dI) y2)++((bD (⟨ag1,List.replicate (y1:List aB).length none⟩:dI) y1)++(lF 81 aQ ((nl aH.Locs (zg (q0:List aH) ng0.gs)).eraseIdx q1.toNat)))))) [[_], [_], [_], [_], [_], [_],_,_,_] rfl 8 (q1.toNat) rfl rfl) (v0 (vz [(14,ng0.a.t,.obj 60 (fl mE (zg (q0:List aH) ng0.gs) ng0.a.sp))] mixed (λu=>⟨λ_=>aK 3 u rfl,trivial⟩) λu=>zC 0 rfl (eZ (wH _ _) rfl) (zC 1 rfl (eZ (wH _ _) rfl) (zC 2 rfl (eZ (wH _ _) rfl) (zC 3 rfl (iP (bM.ne O4.k.z (O4.k.ix X0)) rfl) (zC 4 rfl (cZ (bM.ne O4.k.z (O4.k.ix X0)) oL rfl rfl) (zR 5 rfl (λ_ _ hi hB=>eT (fo:=1) (.agg (bC x0.Man)) (O4.k.ix X0) m5 O4.k.z nU rfl (f8.get 0 hi rfl (hB 14 (by kernel_rfl))) (λ_=>rfl)) ?_))))))))
 obtain⟨y4,Y4,m⟩:=aC m
 refine zC 6 rfl (cB (ZM _ Y4) rfl R5 rfl) (zC 7 rfl (eZ (wH _ _) rfl) (zC 8 rfl (iP (bM.ne O4.k.z (O4.k.ix X0)) rfl) (zC 9 rfl (cZ (bM.ne O4.k.z (O4.k.ix X0)) kO rfl rfl) (zR 10 rfl (λ_ _ hi hB=>fG (eT (fo:=3) (awO aQ 4 (gx ng0.gs q1.toNat) x0.Locs) (O4.k.ix X0) m5 O4.k.z fM rfl (f8.get 0 hi rfl (hB 14 (by kernel_rfl))) (λ_=>rfl)) (bB.of_eq (congrArg (λz=>awO aQ 4 z x0.Locs) (O4.post _ (Nat.le_refl _))))) ?_))))
 obtain⟨y5,Y5,m⟩:=aC m
 refine zE 11 rfl (cR (T8 _ Y5) rfl T9 rfl ?_)
 rintro x h' ⟨ag4,O5,K10,rfl,rfl⟩
 rw[iO]
 refine⟨⟨λ_=>aK 4 (bQ.co u K10) rfl,trivial⟩, ?_⟩
 refine zC 12 rfl (iP (bM.ne O4.k.z (O4.k.ix X0)) rfl) (zC 13 rfl (cZ (bM.ne O4.k.z (O4.k.ix X0)) oL rfl rfl) (zE 14 rfl (dA (fo:=1) (x':=(({ x0 with Man:=y4}:aH),(gx ng0.gs q1.toNat))) 4 (bQ.co u K10) (O4.k.ix X0) m5 O4.k.z rfl rfl rfl rfl (cU.refl _ _) zS rfl rfl ?_)))
 intro K11
 have hs0:tH aH.Locs 4 4 ng0 (q0:List aH):=O4.k
 have hn0:hp h _=hp h ([jZ ag4 y5,aT ag3 y3,bU (⟨ag2,List.replicate (y2:List aS).length none⟩:dI) y2,a9 (⟨ag1,List.replicate (y1:List aB).length none⟩:dI) y1,bO ng0 (q0.set q1.toNat ({ x0 with Man:=y4})),(some k5,.obj 30 (gO)),OC k2 p0.Seq ng0.a ((⟨ag1,List.replicate (y1:List aB).length none⟩:dI).a) ((⟨ag2,List.replicate (y2:List aS).length none⟩:dI).a) ag3]++((bX (⟨ag2,List.replicate (y2:List aS).length none⟩:dI) y2)++((bD (⟨ag1,List.replicate (y1:List aB).length none⟩:dI) y1)++(lF 81 aQ ((nl aH.Locs (zg (q0.set q1.toNat ({ x0 with Man:=y4}):List aH) ng0.gs)).eraseIdx q1.toNat)))))∧bQ h ([jZ ag4 y5,aT ag3 y3,bU (⟨ag2,List.replicate (y2:List aS).length none⟩:dI) y2,a9 (⟨ag1,List.replicate (y1:List aB).length none⟩:dI) y1,bO ng0 (q0.set q1.toNat ({ x0 with Man:=y4})),(some k5,.obj 30 (gO)),OC k2 p0.Seq ng0.a ((⟨ag1,List.replicate (y1:List aB).length none⟩:dI).a) ((⟨ag2,List.replicate (y2:List aS).length none⟩:dI).a) ag3]++((bX (⟨ag2,List.replicate (y2:List aS).length none⟩:dI) y2)++((bD (⟨ag1,List.replicate (y1:List aB).length none⟩:dI) y1)++(lF 81 aQ ((nl aH.Locs (zg (q0.set q1.toNat ({ x0 with Man:=y4}):List aH) ng0.gs)).eraseIdx q1.toNat))))):=eqN (L:=_) K11 (by unfold bO; (try unfold bR); rw[(hs0.set (x':=({ x0 with Man:=y4}:aH)) X0 rfl).2.2,← (hs0.set (x':=({ x0 with Man:=y4}:aH)) X0 rfl).2.1]; first | done | rfl)
 refine nC hn0.1 (⟨⟨λe=>absurd e (by decide),trivial⟩, ?_⟩)
 refine zC 15 rfl (iP (bM.ne ((O4.set (x':=({ x0 with Man:=y4}:aH)) X0 rfl).k.z) ((O4.set (x':=({ x0 with Man:=y4}:aH)) X0 rfl).k.ix (cX (x':=({ x0 with Man:=y4}:aH)) X0))) rfl) (zC 16 rfl (cZ (bM.ne ((O4.set (x':=({ x0 with Man:=y4}:aH)) X0 rfl).k.z) ((O4.set (x':=({ x0 with Man:=y4}:aH)) X0 rfl).k.ix (cX (x':=({ x0 with Man:=y4}:aH)) X0))) kO rfl rfl) (zE 17 rfl (dA (fo:=3) (x':=(({ ({ x0 with Man:=y4}:aH) with Locs:=y5}:aH),some ag4)) 4 hn0.2 ((O4.set (x':=({ x0 with Man:=y4}:aH)) X0 rfl).k.ix (cX (x':=({ x0 with Man:=y4}:aH)) X0)) m5 ((O4.set (x':=({ x0 with Man:=y4}:aH)) X0 rfl).k.z) rfl rfl (cG rfl) (cE (bZ _ _ _) rfl) (cU.refl _ _) pT rfl rfl ?_)))
 intro K12
 have O6:=(O4.set (x':=({ x0 with Man:=y4}:aH)) X0 rfl).step (x':=({ ({ x0 with Man:=y4}:aH) with Locs:=y5}:aH)) (cX (x':=({ x0 with Man:=y4}:aH)) X0) ag4 O5
 have hr0:=A2 (L':=(lS ag4 y5)::(([aT ag3 y3,bU (⟨ag2,List.replicate (y2:List aS).length none⟩:dI) y2,a9 (⟨ag1,List.replicate (y1:List aB).length none⟩:dI) y1,(ng0.a.t,.obj 60 (fl mE (((zg (q0.set q1.toNat ({ x0 with Man:=y4}):List aH) ng0.gs)).set q1.toNat (({ ({ x0 with Man:=y4}:aH) with Locs:=y5}:aH),some ag4)) ng0.a.sp)),(some k5,.obj 30 (gO)),OC k2 p0.Seq ng0.a ((⟨ag1,List.replicate (y1:List aB).length none⟩:dI).a) ((⟨ag2,List.replicate (y2:List aS).length none⟩:dI).a) ag3]:HL)++((bX (⟨ag2,List.replicate (y2:List aS).length none⟩:dI) y2)++((bD (⟨ag1,List.replicate (y1:List aB).length none⟩:dI) y1)++(lF 81 aQ ((nl aH.Locs (zg (q0.set q1.toNat ({ x0 with Man:=y4}):List aH) ng0.gs)).eraseIdx q1.toNat)))))) K12 [[_], [_], [_], [_], [_], [_], [_],_,_,_] rfl [0,1,2,3,4,5,6,7,8,9] rfl rfl
 have hj0:=vN (L':=([aT ag3 y3,bU (⟨ag2,List.replicate (y2:List aS).length none⟩:dI) y2,a9 (⟨ag1,List.replicate (y1:List aB).length none⟩:dI) y1,bO (⟨ng0.a,ng0.gs.set q1.toNat (some ag4)⟩:dI) ((q0.set q1.toNat ({ x0 with Man:=y4})).set q1.toNat ({ ({ x0 with Man:=y4}:aH) with Locs:=y5})),(some k5,.obj 30 (gO)),OC k2 p0.Seq ((⟨ng0.a,ng0.gs.set q1.toNat (some ag4)⟩:dI).a) ((⟨ag1,List.replicate (y1:List aB).length none⟩:dI).a) ((⟨ag2,List.replicate (y2:List aS).length none⟩:dI).a) ag3]++((bX (⟨ag2,List.replicate (y2:List aS).length none⟩:dI) y2)++((bD (⟨ag1,List.replicate (y1:List aB).length none⟩:dI) y1)++(bR (⟨ng0.a,ng0.gs.set q1.toNat (some ag4)⟩:dI) ((q0.set q1.toNat ({ x0 with Man:=y4})).set q1.toNat ({ ({ x0 with Man:=y4}:aH) with Locs:=y5}))))))) [[_], [_], [_], [_], [_], [_],_,_,_] rfl 8 (zs:=nl aH.Locs (zg (q0.set q1.toNat ({ x0 with Man:=y4}):List aH) ng0.gs)) (j:=q1.toNat) (aH.Locs ({ ({ x0 with Man:=y4}:aH) with Locs:=y5}:aH),some ag4) (mO ((O4.set (x':=({ x0 with Man:=y4}:aH)) X0 rfl).k.nlat (cX (x':=({ x0 with Man:=y4}:aH)) X0))) rfl hr0.2 (by rw[← ((O4.set (x':=({ x0 with Man:=y4}:aH)) X0 rfl).k.setL (x':=({ ({ x0 with Man:=y4}:aH) with Locs:=y5}:aH)) (cX (x':=({ x0 with Man:=y4}:aH)) X0) ag4 O5).2.2,((O4.set (x':=({ x0 with Man:=y4}:aH)) X0 rfl).k.setL (x':=({ ({ x0 with Man:=y4}:aH) with Locs:=y5}:aH)) (cX (x':=({ x0 with Man:=y4}:aH)) X0) ag4 O5).2.1]; rfl)
 refine nC (hr0.1.trans hj0.1) (⟨⟨λe=>absurd e (by decide),trivial⟩, ?_⟩)
 exact zX (qk (f:=WQ 49 _ _ _ _ _ _ _ _ _ _ _ _ _ _ _ _ _) hj0.2 rfl (v0 (fB m (⟨ng0.a,ng0.gs.set q1.toNat (some ag4)⟩:dI) O6 (lx (.k4 .nil)))))
 exact v0 (mL m ng0 (O4.all c0) (lx (.k4 .nil)))
 rintro ng1 ⟨r0,r1⟩ t0 m
 refine vs (vs (v0 (dP eG rfl rfl (vl 5 (aw (⟨ag1,List.replicate (y1:List aB).length none⟩:dI).a.t (⟨ag1,List.replicate (y1:List aB).length none⟩:dI).a.n (⟨ag1,List.replicate (y1:List aB).length none⟩:dI).a.cap) eO rfl rfl rfl (bV (eR jG ((CR.zero (l:=aB.Locs) (szi:=4) O1).k.a) rfl) (UE m (σ:=(List aB)×Int) (τ:=dI) (λg s=>([aT ag3 y3,bU (⟨ag2,List.replicate (y2:List aS).length none⟩:dI) y2,a9 g s.1,bO ng1 r0,(some k5,.obj 30 (gO)),OC k2 p0.Seq ng1.a g.a ((⟨ag2,List.replicate (y2:List aS).length none⟩:dI).a) ag3]++((bX (⟨ag2,List.replicate (y2:List aS).length none⟩:dI) y2)++((bD g s.1)++(bR ng1 r0))))) (λg s=>CR aB.Locs 35 4 g (s.1:List aB) s.2.toNat (y1:List aB).length) (λg s=>nM aB.Locs 35 4 g (s.1:List aB)) (λg s=>.c 1 (.ptr k2 0) (.c 2 (.ptr k5 0) (.c 53 (nZ (y1.length:Int)) (.c 54 (nZ s.2) .nil)))) (⟨ag1,List.replicate (y1:List aB).length none⟩:dI) (CR.zero (l:=aB.Locs) (szi:=4) O1) (lx (.k4 .nil)) ?_ ?_))))))
 rintro ng2 ⟨q2,q3⟩ x O7 m
 replace m:tQ w y1 q2 q3=some x:=m
 unfold tQ at m
 refine vs (v0 (vs (v0 ?_)))
 apply vi m <;> intro c1 m
 refine v0 (vs (v0 (vs (v0 (vs (v0 (dP eG rfl rfl (vl 5 (aZ ng2.a) eO rfl rfl rfl ?_))))))))
 obtain⟨x1,X1,m⟩:=aC m
 refine bV (dJ (O7.k.ix X1) fH O7.k.z rfl rfl) (rE (MU (L':=([aT ag3 y3,bU (⟨ag2,List.replicate (y2:List aS).length none⟩:dI) y2,a9 ng2 q2,bO ng1 r0,(some k5,.obj 30 (gO)),OC k2 p0.Seq ng1.a ng2.a ((⟨ag2,List.replicate (y2:List aS).length none⟩:dI).a) ag3]++((bX (⟨ag2,List.replicate (y2:List aS).length none⟩:dI) y2)++((lF 81 aQ ((nl aB.Locs (zg (q2:List aB) ng2.gs)).eraseIdx q3.toNat))++(bR ng1 r0))))) [[_], [_], [_], [_], [_], [_],_,_,_] rfl 7 (q3.toNat) rfl rfl) (v0 (vz [(14,ng2.a.t,.obj 44 (fl kP (zg (q2:List aB) ng2.gs) ng2.a.sp))] mixed (λu=>⟨λ_=>aK 2 u rfl,trivial⟩) λu=>zC 0 rfl (eZ (wH _ _) rfl) (zC 1 rfl (eZ (wH _ _) rfl) (zC 2 rfl (eZ (wH _ _) rfl) (zC 3 rfl (iP (bM.ne O7.k.z (O7.k.ix X1)) rfl) (zC 4 rfl (cZ (bM.ne O7.k.z (O7.k.ix X1)) jP rfl rfl) (zR 5 rfl (λ_ _ hi hB=>eT (fo:=33) (.sl none 1 (List.map cW x1.Data)) (O7.k.ix X1) kH O7.k.z lL rfl (f8.get 0 hi rfl (hB 14 (by kernel_rfl))) (λ_=>rfl)) (zC 7 rfl (eZ (wH _ _) rfl) (zC 8 rfl (iP (bM.ne O7.k.z (O7.k.ix X1)) rfl) (zC 9 rfl (cZ (bM.ne O7.k.z (O7.k.ix X1)) jQ rfl rfl) (zR 10 rfl (λ_ _ hi hB=>fG (eT (fo:=34) (awO aQ 4 (gx ng2.gs q3.toNat) x1.Locs) (O7.k.ix X1) kH O7.k.z fM rfl (f8.get 0 hi rfl (hB 14 (by kernel_rfl))) (λ_=>rfl)) (bB.of_eq (congrArg (λz=>awO aQ 4 z x1.Locs) (O7.post _ (Nat.le_refl _))))) ?_))))))))))))
 obtain⟨y6,Y6,m⟩:=aC m
 refine zE 6 rfl (cR (W96 _ Y6) rfl PR rfl ?_)
 rintro x h' ⟨tg0,t1,K13,rfl,rfl⟩
 rw[iO]
 refine⟨⟨λ_=>aK 3 (bQ.co u K13) rfl,trivial⟩, ?_⟩
 obtain⟨y7,Y7,m⟩:=aC m
 refine zE 11 rfl (cR (T8 _ Y7) rfl T9 rfl ?_)
 rintro x h' ⟨ag5,O8,K14,rfl,rfl⟩
 rw[iO]
 refine⟨⟨λ_=>aK 4 (bQ.co (bQ.co u K13) K14) rfl,trivial⟩, ?_⟩
 refine zC 12 rfl (iP (bM.ne O7.k.z (O7.k.ix X1)) rfl) (zC 13 rfl (cZ (bM.ne O7.k.z (O7.k.ix X1)) jP rfl rfl) (zE 14 rfl (xU (s:=67) (.sl none 1 (List.map cW y6)) (aW (.cons_cons _ (.cons _ (.refl _))) (bQ.co (bQ.co u K13) K14)).1 (Fz.ale (aW (.cons_cons _ (.cons _ (.refl _))) (bQ.co (bQ.co u K13) K14)).1 (mW _ 1 t1 (bQ.co (bQ.co u K13) K14) rfl (.refl _))) (dA (fo:=33) (x':=(({ x1 with Data:=y6}:aB),(gx ng2.gs q3.toNat))) 3 ((aW (.cons_cons _ (.cons _ (.refl _))) (bQ.co (bQ.co u K13) K14)).2) (O7.k.ix X1) kH O7.k.z rfl rfl rfl rfl (cU.refl _ _) CE rfl rfl ?_))))
 intro K15
 have hs1:tH aB.Locs 35 4 ng2 (q2:List aB):=O7.k
 have hn1:hp h _=hp h ([jZ ag5 y7,aT ag3 y3,bU (⟨ag2,List.replicate (y2:List aS).length none⟩:dI) y2,a9 ng2 (q2.set q3.toNat ({ x1 with Data:=y6})),bO ng1 r0,(some k5,.obj 30 (gO)),OC k2 p0.Seq ng1.a ng2.a ((⟨ag2,List.replicate (y2:List aS).length none⟩:dI).a) ag3]++((bX (⟨ag2,List.replicate (y2:List aS).length none⟩:dI) y2)++((lF 81 aQ ((nl aB.Locs (zg (q2.set q3.toNat ({ x1 with Data:=y6}):List aB) ng2.gs)).eraseIdx q3.toNat))++(bR ng1 r0))))∧bQ h ([jZ ag5 y7,aT ag3 y3,bU (⟨ag2,List.replicate (y2:List aS).length none⟩:dI) y2,a9 ng2 (q2.set q3.toNat ({ x1 with Data:=y6})),bO ng1 r0,(some k5,.obj 30 (gO)),OC k2 p0.Seq ng1.a ng2.a ((⟨ag2,List.replicate (y2:List aS).length none⟩:dI).a) ag3]++((bX (⟨ag2,List.replicate (y2:List aS).length none⟩:dI) y2)++((lF 81 aQ ((nl aB.Locs (zg (q2.set q3.toNat ({ x1 with Data:=y6}):List aB) ng2.gs)).eraseIdx q3.toNat))++(bR ng1 r0)))):=eqN (L:=_) K15 (by unfold a9; (try unfold bD); rw[(hs1.set (x':=({ x1 with Data:=y6}:aB)) X1 rfl).2.2,← (hs1.set (x':=({ x1 with Data:=y6}:aB)) X1 rfl).2.1]; first | done | rfl)
 refine nC hn1.1 (⟨⟨λe=>absurd e (by decide),trivial⟩, ?_⟩)
 refine zC 15 rfl (iP (bM.ne ((O7.set (x':=({ x1 with Data:=y6}:aB)) X1 rfl).k.z) ((O7.set (x':=({ x1 with Data:=y6}:aB)) X1 rfl).k.ix (cX (x':=({ x1 with Data:=y6}:aB)) X1))) rfl) (zC 16 rfl (cZ (bM.ne ((O7.set (x':=({ x1 with Data:=y6}:aB)) X1 rfl).k.z) ((O7.set (x':=({ x1 with Data:=y6}:aB)) X1 rfl).k.ix (cX (x':=({ x1 with Data:=y6}:aB)) X1))) jQ rfl rfl) (zE 17 rfl (dA (fo:=34) (x':=(({ ({ x1 with Data:=y6}:aB) with Locs:=y7}:aB),some ag5)) 3 hn1.2 ((O7.set (x':=({ x1 with Data:=y6}:aB)) X1 rfl).k.ix (cX (x':=({ x1 with Data:=y6}:aB)) X1)) kH ((O7.set (x':=({ x1 with Data:=y6}:aB)) X1 rfl).k.z) rfl rfl (cG rfl) (cE (bZ _ _ _) rfl) (cU.refl _ _) pT rfl rfl ?_)))
 intro K16
 have O9:=(O7.set (x':=({ x1 with Data:=y6}:aB)) X1 rfl).step (x':=({ ({ x1 with Data:=y6}:aB) with Locs:=y7}:aB)) (cX (x':=({ x1 with Data:=y6}:aB)) X1) ag5 O8
 have hr1:=A2 (L':=(lS ag5 y7)::(([aT ag3 y3,bU (⟨ag2,List.replicate (y2:List aS).length none⟩:dI) y2,(ng2.a.t,.obj 44 (fl kP (((zg (q2.set q3.toNat ({ x1 with Data:=y6}):List aB) ng2.gs)).set q3.toNat (({ ({ x1 with Data:=y6}:aB) with Locs:=y7}:aB),some ag5)) ng2.a.sp)),bO ng1 r0,(some k5,.obj 30 (gO)),OC k2 p0.Seq ng1.a ng2.a ((⟨ag2,List.replicate (y2:List aS).length none⟩:dI).a) ag3]:HL)++((bX (⟨ag2,List.replicate (y2:List aS).length none⟩:dI) y2)++((lF 81 aQ ((nl aB.Locs (zg (q2.set q3.toNat ({ x1 with Data:=y6}):List aB) ng2.gs)).eraseIdx q3.toNat))++(bR ng1 r0))))) K16 [[_], [_], [_], [_], [_], [_], [_],_,_,_] rfl [0,1,2,3,4,5,6,7,8,9] rfl rfl
 have hj1:=vN (L':=([aT ag3 y3,bU (⟨ag2,List.replicate (y2:List aS).length none⟩:dI) y2,a9 (⟨ng2.a,ng2.gs.set q3.toNat (some ag5)⟩:dI) ((q2.set q3.toNat ({ x1 with Data:=y6})).set q3.toNat ({ ({ x1 with Data:=y6}:aB) with Locs:=y7})),bO ng1 r0,(some k5,.obj 30 (gO)),OC k2 p0.Seq ng1.a ((⟨ng2.a,ng2.gs.set q3.toNat (some ag5)⟩:dI).a) ((⟨ag2,List.replicate (y2:List aS).length none⟩:dI).a) ag3]++((bX (⟨ag2,List.replicate (y2:List aS).length none⟩:dI) y2)++((bD (⟨ng2.a,ng2.gs.set q3.toNat (some ag5)⟩:dI) ((q2.set q3.toNat ({ x1 with Data:=y6})).set q3.toNat ({ ({ x1 with Data:=y6}:aB) with Locs:=y7})))++(bR ng1 r0))))) [[_], [_], [_], [_], [_], [_],_,_,_] rfl 7 (zs:=nl aB.Locs (zg (q2.set q3.toNat ({ x1 with Data:=y6}):List aB) ng2.gs)) (j:=q3.toNat) (aB.Locs ({ ({ x1 with Data:=y6}:aB) with Locs:=y7}:aB),some ag5) (mO ((O7.set (x':=({ x1 with Data:=y6}:aB)) X1 rfl).k.nlat (cX (x':=({ x1 with Data:=y6}:aB)) X1))) rfl hr1.2 (by rw[← ((O7.set (x':=({ x1 with Data:=y6}:aB)) X1 rfl).k.setL (x':=({ ({ x1 with Data:=y6}:aB) with Locs:=y7}:aB)) (cX (x':=({ x1 with Data:=y6}:aB)) X1) ag5 O8).2.2,((O7.set (x':=({ x1 with Data:=y6}:aB)) X1 rfl).k.setL (x':=({ ({ x1 with Data:=y6}:aB) with Locs:=y7}:aB)) (cX (x':=({ x1 with Data:=y6}:aB)) X1) ag5 O8).2.1]; rfl)
 refine nC (hr1.1.trans hj1.1) (⟨⟨λe=>absurd e (by decide),trivial⟩, ?_⟩)
 exact zX (qk (f:=fq5 76 _ _ _ _ _ (.c 67 _ (PF 71 _ _ _ _ (fq6 66 _ _ _ _ _ _ _)))) hj1.2 rfl (v0 (fB m (⟨ng2.a,ng2.gs.set q3.toNat (some ag5)⟩:dI) O9 (lx (.k4 .nil)))))
 exact v0 (mL m ng2 (O7.all c1) (lx (.k4 .nil)))
 rintro ng3 ⟨r2,r3⟩ t2 m
 refine vs (vs (v0 (dP fK rfl rfl (vl 5 (aw (⟨ag2,List.replicate (y2:List aS).length none⟩:dI).a.t (⟨ag2,List.replicate (y2:List aS).length none⟩:dI).a.n (⟨ag2,List.replicate (y2:List aS).length none⟩:dI).a.cap) jN rfl rfl rfl (bV (eR qN ((CR.zero (l:=aS.Locs) (szi:=4) O2).k.a) rfl) (UE m (σ:=(List aS)×Int) (τ:=dI) (λg s=>([aT ag3 y3,bU g s.1,a9 ng3 r2,bO ng1 r0,(some k5,.obj 30 (gO)),OC k2 p0.Seq ng1.a ng3.a g.a ag3]++((bX g s.1)++((bD ng3 r2)++(bR ng1 r0))))) (λg s=>CR aS.Locs 3 4 g (s.1:List aS) s.2.toNat (y2:List aS).length) (λg s=>nM aS.Locs 3 4 g (s.1:List aS)) (λg s=>.c 1 (.ptr k2 0) (.c 2 (.ptr k5 0) (.c 80 (nZ (y2.length:Int)) (.c 81 (nZ s.2) .nil)))) (⟨ag2,List.replicate (y2:List aS).length none⟩:dI) (CR.zero (l:=aS.Locs) (szi:=4) O2) (lx (.k4 .nil)) ?_ ?_))))))
 rintro ng4 ⟨q4,q5⟩ x O10 m
 replace m:tT w y2 q4 q5=some x:=m
 unfold tT at m
 refine vs (v0 (vs (v0 ?_)))
 apply vi m <;> intro c2 m
 refine v0 (vs (v0 (vs (v0 (rE (MU (L':=([aT ag3 y3,bU ng4 q4,a9 ng3 r2,bO ng1 r0,(some k5,.obj 30 (gO)),OC k2 p0.Seq ng1.a ng3.a ng4.a ag3]++((lF 81 aQ ((nl aS.Locs (zg (q4:List aS) ng4.gs)).eraseIdx q5.toNat))++((bD ng3 r2)++(bR ng1 r0))))) [[_], [_], [_], [_], [_], [_],_,_,_] rfl 6 (q5.toNat) rfl rfl) (v0 (vz [(1000000,some k2,.obj 30 ([nZ p0.Seq,aZ ng1.a,aZ ng3.a,aZ ng4.a,aZ ag3])),(12,ng4.a.t,.obj 99 (fl m6 (zg (q4:List aS) ng4.gs) ng4.a.sp))] mixed (λu=>⟨λ_=>aK 5 u rfl,λ_=>aK 1 u rfl,trivial⟩) λu=>zF 0 rfl fK rfl (zL 1 0 (aZ ng4.a) rfl jN rfl rfl rfl (zI 2 rfl rfl (zF 3 rfl fK rfl (zL 4 0 (aZ ng4.a) rfl jN rfl rfl rfl (zI 5 rfl rfl ?_))))))))))))
 obtain⟨x2,X2,m⟩:=aC m
 refine zC 6 rfl (dJ (O10.k.ix X2) jY O10.k.z rfl rfl) (zC 7 rfl (cZ (bM.ne O10.k.z (O10.k.ix X2)) mY rfl rfl) (zR 8 rfl (λ_ _ hi hB=>fG (eT (fo:=2) (awO aQ 4 (gx ng4.gs q5.toNat) x2.Locs) (O10.k.ix X2) tK O10.k.z fM rfl (f8.get 1 hi rfl (hB 12 (by kernel_rfl))) (λ_=>rfl)) (bB.of_eq (congrArg (λz=>awO aQ 4 z x2.Locs) (O10.post _ (Nat.le_refl _))))) ?_))
 obtain⟨y8,Y8,m⟩:=aC m
 refine zE 9 rfl (cR (T8 _ Y8) rfl T9 rfl ?_)
 rintro x h' ⟨ag6,O11,K17,rfl,rfl⟩
 rw[iO]
 refine⟨⟨λ_=>aK 6 (bQ.co u K17) rfl,λ_=>aK 2 (bQ.co u K17) rfl,trivial⟩, ?_⟩
 obtain⟨x3,X3,m⟩:=aC m
 refine zC 10 rfl (dJ (O10.k.ix X3) jY O10.k.z rfl rfl) (zC 11 rfl (cZ (bM.ne O10.k.z (O10.k.ix X3)) mY rfl rfl) (zE 12 rfl (dA (fo:=2) (x':=(({ x3 with Locs:=y8}:aS),some ag6)) 2 (bQ.co u K17) (O10.k.ix X3) tK O10.k.z rfl rfl (cG rfl) (cE (bZ _ _ _) rfl) (cU.refl _ _) pT rfl rfl ?_)))
 intro K18
 have O12:=O10.step (x':=({ x3 with Locs:=y8}:aS)) X3 ag6 O11
 have hr2:=A2 (L':=(lS ag6 y8)::(([aT ag3 y3,(ng4.a.t,.obj 99 (fl m6 (((zg (q4:List aS) ng4.gs)).set q5.toNat (({ x3 with Locs:=y8}:aS),some ag6)) ng4.a.sp)),a9 ng3 r2,bO ng1 r0,(some k5,.obj 30 (gO)),OC k2 p0.Seq ng1.a ng3.a ng4.a ag3]:HL)++((lF 81 aQ ((nl aS.Locs (zg (q4:List aS) ng4.gs)).eraseIdx q5.toNat))++((bD ng3 r2)++(bR ng1 r0))))) K18 [[_], [_], [_], [_], [_], [_], [_],_,_,_] rfl [0,1,2,3,4,5,6,7,8,9] rfl rfl
 have hj2:=vN (L':=([aT ag3 y3,bU (⟨ng4.a,ng4.gs.set q5.toNat (some ag6)⟩:dI) (q4.set q5.toNat ({ x3 with Locs:=y8})),a9 ng3 r2,bO ng1 r0,(some k5,.obj 30 (gO)),OC k2 p0.Seq ng1.a ng3.a ((⟨ng4.a,ng4.gs.set q5.toNat (some ag6)⟩:dI).a) ag3]++((bX (⟨ng4.a,ng4.gs.set q5.toNat (some ag6)⟩:dI) (q4.set q5.toNat ({ x3 with Locs:=y8})))++((bD ng3 r2)++(bR ng1 r0))))) [[_], [_], [_], [_], [_], [_],_,_,_] rfl 6 (zs:=nl aS.Locs (zg (q4:List aS) ng4.gs)) (j:=q5.toNat) (aS.Locs ({ x3 with Locs:=y8}:aS),some ag6) (mO (O10.k.nlat X3)) rfl hr2.2 (by rw[← (O10.k.setL (x':=({ x3 with Locs:=y8}:aS)) X3 ag6 O11).2.2,(O10.k.setL (x':=({ x3 with Locs:=y8}:aS)) X3 ag6 O11).2.1]; rfl)
 refine nC (hr2.1.trans hj2.1) (⟨⟨λ_=>aK 5 hj2.2 rfl,λe=>absurd e (by decide),trivial⟩, ?_⟩)
 exact zX (qk (f:=I8 95 _ _ _ _ _ _ _ _ _ _ _ _ _) hj2.2 rfl (v0 (fB m (⟨ng4.a,ng4.gs.set q5.toNat (some ag6)⟩:dI) O12 (lx (.k4 .nil)))))
 exact v0 (mL m ng4 (O10.all c2) (lx (.k4 .nil)))
 rintro ng5 ⟨r4,r5⟩ t3 m
 refine vs (v0 (vl 5 (.agg ([nZ p0.Seq,aZ ng1.a,aZ ng3.a,aZ ng5.a,aZ ag3])) eP rfl rfl rfl (ve λu=>aJ 4 ([nZ p0.Seq,aZ ng1.a,aZ ng3.a,aZ ng5.a,aZ ag3]) u rfl rfl rfl (by repeat (first | exact rfl | refine cE (iE _ _ _) ?_ | refine cE (bZ _ _ _) ?_ | refine cE (fV _ _ _ _) ?_ | refine cE rfl ?_)) kX rfl rfl λK19=>qk K19 rfl ?_)))
 refine v0 ?_
 cases m
 exact vr λu=>dZ.of1 (.inl rfl) (qT (.agg ([nZ p0.Seq,aZ ng1.a,aZ ng3.a,aZ ng5.a,aZ ag3])) eP rfl (aX 4 u rfl) rfl) (tI (L':=([bO ng1 r0,a9 ng3 r2,bU ng5 r4,aT ag3 y3]++((bR ng1 r0)++((bD ng3 r2)++(bX ng5 r4))))) u [[_], [_], [_], [_], [_], [_],_,_,_] rfl [3,2,1,0,8,7,6] rfl rfl).2 (bB.refl _ _) ⟨ng1,t0,ng3,t2,ng5,t3,ag3,O3,(tI (L':=([bO ng1 r0,a9 ng3 r2,bU ng5 r4,aT ag3 y3]++((bR ng1 r0)++((bD ng3 r2)++(bX ng5 r4))))) u [[_], [_], [_], [_], [_], [_],_,_,_] rfl [3,2,1,0,8,7,6] rfl rfl).1,rfl,rfl⟩
theorem aEX:aP Tryz.prog 77=true:=by kernel_rfl
end Go.Proofs.YtbbifdfldpfphaaGreat
namespace Go.Vm
def rR (l:List (Int×Nat)):List (Value×Value):=l.map λx=>(.int .i64 x.1,.func (.func x.2) #[] #[])
theorem oZ (x:Int):∀(l:List (Int×Nat)) (ents:List MapEntry) (i:Nat),ents.map (λe=>(e.key,e.val))=rR l→
    (∀e,l.find? (λe=>e.1==x)=some e→∃j,Instr.findNow (.int .i64) (.int .i64 x) ents i=some (some (j,.func (.func e.2) #[] #[])))∧
    (l.find? (λe=>e.1==x)=none→Instr.findNow (.int .i64) (.int .i64 x) ents i=some none)
  | [], [],i,_=>⟨λe h=>by simp at h,λ_=>rfl⟩
  | [],_::_,_,h=>by simp[rR] at h
  | _::_, [],_,h=>by simp[rR] at h
  | y::l,e::ents,i,h=>by
    simp only[List.map_cons,rR,List.cons.injEq,Prod.mk.injEq] at h
    obtain⟨⟨h1,h2⟩,h3⟩:=h
    obtain⟨ih1,ih2⟩:=oZ x l ents (i+1) h3
    have hn:Instr.findNow (.int .i64) (.int .i64 x) (e::ents) i=(if (y.1==x)=true then some (some (i,e.val)) else Instr.findNow (.int .i64) (.int .i64 x) ents (i+1)):=by
      simp only[Instr.findNow,h1,Instr.sameNow,if_true]
      by_cases q:x=y.1
      · subst q; simp
      · have q1:(x==y.1)=false:=by simpa using q
        have q2:(y.1==x)=false:=by simpa using Ne.symm q
        rw[q1,q2]; simp
    rw[hn]
    simp only[List.find?_cons]
    cases q:(y.1==x)
    · exact⟨λe' he=>by obtain⟨j,hj⟩:=ih1 e' (by simpa using he); exact⟨j,by simpa using hj⟩,λhe=>by simpa using ih2 (by simpa using he)⟩
    · exact⟨λe' he=>by simp at he; subst he; exact⟨i,by simp[h2]⟩,λhe=>by simp at he⟩
section
variable {P:Program} {h h0:aE} {L:HL} {n:Nat} {kvs:KV} {ty:TypeId} {pos:String} {dK:Array Edge}
theorem IC {l:List (Int×Nat)} {x:Int} {dst:Option Tmp} {t kt et:TypeId} {m y:Operand} {q:bY} {z:Value} (ht:P.underlying t=some (.map kt et)) (hz:(P.info? et).bind (·.zero)=some z) (hkt:P.underlying kt=some (.int .i64))
    (hm:dD n kvs m= .mpv q) (hy:dD n kvs y= .sc (.int .i64 x)) (hq:h q=some (.mp (rR l))):
    eF P ⟨dst,.lookup t m y true,ty,pos,dK,none⟩ (match l.find? (λe=>e.1==x) with | some e=>.tup [.fn (.func e.2) [],.sc (.bool true)] | none=>.tup [.any,.sc (.bool false)]) (fm n kvs) h:=by
  refine dW (x:=match l.find? (λe=>e.1==x) with | some e=>.tup [.fn (.func e.2) [],.sc (.bool true)] | none=>.tup [.any,.sc (.bool false)]) (λE w ac r hv=> ?_) ⟨rfl,rfl⟩
  have vm:=hv m (by simp[Op.operands])
  have vy:=hv y (by simp[Op.operands])
  rw[bI,hm] at vm; rw[bI,hy] at vy
  simp only[VR] at vm vy
  obtain⟨g,hg,em⟩:=vm
  obtain⟨g',ents,clk,e1,e2,e3⟩:=r.mp q _ hq
  rw[hg] at e1; cases e1
  have hck:=λb=>oG (P:=P) hkt 9999 x b w
  obtain⟨f1,f2⟩:=oZ x l ents.toList 0 e3
  have hz1:(zeroValue et).run P w= .ok z w:=by
    cases hi:P.info? et with
    | none=>rw[hi] at hz; simp at hz
    | some i=>
      rw[hi] at hz
      simp at hz
      simp[zeroValue,typeInfo,hi,hz]
  have hgo:(getObj g).run P w= .ok (.map ents clk) w:=by simp[getObj,Sem.run,e2]
  simp only[execOp,em,vy,Instr.lookup,Sem.run_bind,run_underlying ht,Result.andThen_ok,hgo,Sem.run_pure,hck,Instr.findKey,run_underlying hkt]
  cases ha:l.find? (λe=>e.1==x) with
  | some e=>
    obtain⟨j,a1⟩:=f1 e ha
    refine⟨.tuple #[.func (.func e.2) #[] #[],.bool true],by simp[a1], ?_⟩
    simp only[VR]
    exact⟨_,rfl,by simp[cO,VR]⟩
  | none=>
    have a1:=f2 ha
    refine⟨.tuple #[z,.bool false],by simp[a1,hz1], ?_⟩
    simp only[VR]
    exact⟨_,rfl,by simp[cO,VR]⟩
theorem yW {K:AV→aE→Prop} {l:List (Int×Nat)} {x:Int} {f:Nat} {dst:Option Tmp} {t kt et:TypeId} {m y v:Operand} {q:bY} (i:Nat) (hk:bQ h0 L) (ht:P.underlying t=some (.map kt et)) (hkt:P.underlying kt=some (.int .i64))
    (hm:dD n kvs m= .mpv q) (hy:dD n kvs y= .sc (.int .i64 x)) (hv:dD n kvs v= .fn (.func f) []) (hi:L[i]? =some (some q,.mp (rR l))) (hnew:l.find? (λe=>e.1==x)=none)
    (k:bQ h0 (L.set i (some q,.mp (rR (l++ [(x,f)]))))→K (.sc undef) (hp h0 (L.set i (some q,.mp (rR (l++ [(x,f)])))))):
    i7 P ⟨dst,.insert t m y v,ty,pos,dK,none⟩ K (fm n kvs) (hp h0 L):=by
  intro E w a r hva Nx Qx hn
  have vm:=hva m (by simp[Op.operands])
  have vy:=hva y (by simp[Op.operands])
  have vv:=hva v (by simp[Op.operands])
  rw[bI,hm] at vm; rw[bI,hy] at vy; rw[bI,hv] at vv
  simp only[VR] at vm vy vv
  obtain⟨g,hg,em⟩:=vm
  obtain⟨cs,ev,hcs⟩:=vv
  have hc0:cs= #[]:=by
    have:cs.toList= []:=by
      cases hh:cs.toList with
      | nil=>rfl
      | cons a b=>rw[hh] at hcs; simp only[cO] at hcs
    simpa using this
  subst hc0
  obtain⟨g',ents,clk,e1,e2,e3⟩:=r.mp q _ (aX i hk hi)
  rw[hg] at e1; cases e1
  have hq:=aX i hk hi
  have hck:=λb=>oG (P:=P) hkt 9999 x b w
  obtain⟨f1,f2⟩:=oZ x l ents.toList 0 e3
  have hf:=f2 hnew
  have hgo:(getObj g).run P w= .ok (.map ents clk) w:=by simp[getObj,Sem.run,e2]
  have hglt:=(Array.getElem?_eq_some_iff.1 e2).1
  obtain⟨h1,h2,_⟩:=jB (e':=.mp (rR (l++ [(x,f)]))) i hk hi (.inl rfl)
  have hes:(ents.push { key:=.int .i64 x,val:=.func (.func f) #[] #[],born:=clk}).toList.map (λe=>(e.key,e.val))=rR (l++ [(x,f)]):=by
    simp only[Array.toList_push,List.map_append,e3,rR,List.map_cons,List.map_nil]
  have hfind:(Instr.findKey kt (.int .i64 x) ents.toList).run P w= .ok none w:=by
    simp only[Instr.findKey,Sem.run_bind,run_underlying hkt,Result.andThen_ok,hf,Sem.run_pure]
  have hrun:(execOp a.eval ⟨dst,.insert t m y v,ty,pos,dK,none⟩).run P w= .ok .skip { w with heap:=w.heap.setIfInBounds g (.map (ents.push { key:=.int .i64 x,val:=.func (.func f) #[] #[],born:=clk}) (clk+1))}:=by
    simp only[execOp,em,vy,ev,Instr.mapUpdate,Sem.run_bind,run_underlying ht,Result.andThen_ok,hgo,hck,hfind]
    simp[setObj,Sem.run,e2]
  obtain⟨k1,r1⟩:=r.set_mp hq hg (ents.push { key:=.int .i64 x,val:=.func (.func f) #[] #[],born:=clk}) (clk+1) (w':= { w with heap:=w.heap.setIfInBounds g (.map (ents.push { key:=.int .i64 x,val:=.func (.func f) #[] #[],born:=clk}) (clk+1))}) (by simp[hglt]) (λg' hg'=>by simp[Ne.symm hg']) (by simp) rfl rfl rfl
  unfold Oper.wp
  rw[hrun]
  rw[hes,h1] at r1
  exact hn (.sc undef) undef _ E _ k1 r1 (by simp only[VR]) (k h2)
end
theorem QB (args:List AV):fm args.length (B8 0 args).k=args:=by
 apply List.ext_getElem?
 intro i
 rw[pL,F7]
 have e:=uP 0 0 args i
 rw[Nat.zero_add,List.replicate_zero,List.append_nil] at e
 by_cases h:i < args.length
 ·rw[if_pos h,e,List.getElem?_eq_getElem h]
  simp[List.getD,h]
 ·rw[if_neg h,List.getElem?_eq_none (by omega)]
theorem A4 {P:Program} {f:FuncId} {args:List AV} {Q:AV→aE→Prop} {H H':aE} (le:iW (fm args.length (B8 0 args).k) H' (fm args.length (B8 0 args).k) H) (hc:aL P f args H' Q):aL P f args H Q:=by
 rw[QB] at le
 intro E w vs r v
 obtain⟨E1,k1,r1,v1⟩:=le E w _ r v
 refine(hc E1 w vs r1 v1).mono ?_
 rintro e w' ⟨v',E',x,h',rfl,k,r',vx,q⟩
 exact⟨v',E',x,h',rfl,k1.trans k,r',vx,q⟩
theorem p6 {P:Program} {f:FuncId} {args:List AV} {Q Q':AV→aE→Prop} {H:aE} (hc:aL P f args H Q) (hq:∀r h',Q r h'→Q' r h'):aL P f args H Q':=hc.mono hq
end Go.Vm
namespace Go.Proofs.YtbbifdfldpfphaaGreat
open Go.Vm
def lU:List (Int×Nat):= [(1,72),(2,73),(3,74),(4,75),(5,76)]
def kA (m:Nat) (f:Nat) (d:aA) (x:aN):Option (aA×Int):=
 if f=72 then (VZ m d x).bind λo=>some ({ d with Seq:=o.2.1,Snaps:=o.2.2.1,Chunks:=o.2.2.2},o.1)
 else if f=73 then (VX m d x).bind λo=>some ({ d with Snaps:=o.2.1,Chunks:=o.2.2},o.1)
 else if f=74 then (VY m d x).bind λo=>some ({ Seq:=o.2.1,Snaps:=o.2.2.1,Chunks:=o.2.2.2.1,Exps:=o.2.2.2.2.1,Vols:=o.2.2.2.2.2},o.1)
 else none
def NA (m:Nat) (p0:aA) (p1:aN):Option (aA×Int):=
 match lU.find? (λe=>e.1==p1.Kind) with
 | none=>some (bS,1)
 | some e=>(VQ m p0).bind λy=>if (y !=0)=true then some (bS,1) else (M9 m p0).bind λd=>
 after ((kA m e.2 d p1).bind λs=>some (.brk s):Option (Lp (aA×Int) (aA×Int))) λs=>if (s.2 !=0)=true then some (bS,s.2) else (VQ m s.1).bind λy2=>if (y2 !=0)=true then some (bS,1) else some (s.1,0)
abbrev NB (k:bY) (d:aA) (a b c:dI) (v:dC):HL:= [OC k d.Seq a.a b.a c.a v,bO a d.Snaps,a9 b d.Chunks,bU c d.Exps,aT v d.Vols]++((bR a d.Snaps)++((bD b d.Chunks)++(bX c d.Exps)))
abbrev NC (k:bY) (d:aA) (a b c v:dC):HL:= [OC k d.Seq a b c v,bN a d.Snaps,bF b d.Chunks,cK c d.Exps,aT v d.Vols]
theorem aEY {h:aE} {k:bY} {d:aA} {a b c:dI} {v:dC} (oa:nM aH.Locs 4 4 a d.Snaps) (ob:nM aB.Locs 35 4 b d.Chunks) (oc:nM aS.Locs 3 4 c d.Exps) (m:bQ h (NB k d a b c v)) {n:Nat} {f:FR}:
 bQ h (NC k d a.a b.a c.a v)∧iW (fm n f.k) (hp h (NC k d a.a b.a c.a v)) (fm n f.k) (hp h (NB k d a b c v)):=by
 obtain⟨k1,l1⟩:=KD (ty:=81) (n:=n) (f:=f) (h0:=h) (L':= [OC k d.Seq a.a b.a c.a v,bN a.a d.Snaps,a9 b d.Chunks,bU c d.Exps,aT v d.Vols]++((bD b d.Chunks)++(bX c d.Exps))) [[_], [_], [_], [_], [_],_,_,_] rfl 1 5 f9 wW oa.k rfl rfl (by decide) rfl m
 obtain⟨k2,l2⟩:=KD (ty:=81) (n:=n) (f:=f) (h0:=h) (L':= [OC k d.Seq a.a b.a c.a v,bN a.a d.Snaps,bF b.a d.Chunks,bU c d.Exps,aT v d.Vols]++(bX c d.Exps)) [[_], [_], [_], [_], [_],_,_] rfl 2 5 f9 tJ ob.k rfl rfl (by decide) rfl k1
 obtain⟨k3,l3⟩:=KD (ty:=81) (n:=n) (f:=f) (h0:=h) (L':=NC k d a.a b.a c.a v) [[_], [_], [_], [_], [_],_] rfl 3 5 f9 CT oc.k rfl rfl (by decide) rfl k2
 exact⟨k3,(l1.trans l2).trans l3⟩
theorem UH {w:Nat} {f:Nat} {d:aA} {x:aN} {s:aA×Int} (h:aE) {k:bY} {a b c:dI} {v:dC} (oa:nM aH.Locs 4 4 a d.Snaps) (ob:nM aB.Locs 35 4 b d.Chunks) (oc:nM aS.Locs 3 4 c d.Exps) (ov:bM v 4 d.Vols.length) (u:bQ h (NB k d a b c v)) (m:kA w f d x=some s):
 aL Tryz.prog f [.ptr k 0,.agg (aD x)] (hp h (NB k d a b c v)) (λr h'=>∃a' b' c' v':dC,bM a' 4 s.1.Snaps.length∧bM b' 35 s.1.Chunks.length∧bM c' 3 s.1.Exps.length∧bM v' 4 s.1.Vols.length∧bQ h (NC k s.1 a' b' c' v')∧r=nZ s.2∧h'=hp h (NC k s.1 a' b' c' v')):=by
 obtain⟨kp,lp⟩:=aEY oa ob oc u (n:= [AV.ptr k 0,AV.agg (aD x)].length) (f:=B8 0 [AV.ptr k 0,AV.agg (aD x)])
 unfold kA at m
 split at m
 rename_i e; subst e
 obtain⟨o,ho,m⟩:=aC m
 cases m
 refine A4 lp (p6 (W72 (p0:=d) h oa.k.a ob.k.a oc.k.a ov kp ho) ?_)
 rintro r h' ⟨a',oa',b',ob',hk',e1,e2⟩
 exact⟨a',b',c.a,v,oa',ob',oc.k.a,ov,hk',e1,e2⟩
 split at m
 rename_i e; subst e
 obtain⟨o,ho,m⟩:=aC m
 cases m
 refine A4 lp (p6 (W73 (p0:=d) h oa.k.a ob.k.a oc.k.a ov kp ho) ?_)
 rintro r h' ⟨a',oa',b',ob',hk',e1,e2⟩
 exact⟨a',b',c.a,v,oa',ob',oc.k.a,ov,hk',e1,e2⟩
 split at m
 rename_i e; subst e
 obtain⟨o,ho,m⟩:=aC m
 cases m
 refine p6 (W74 (p0:=d) h oa ob oc ov u ho) ?_
 rintro r h' ⟨a',oa',b',ob',c',oc',v',ov',hk',e1,e2⟩
 exact⟨a',b',c',v',oa',ob',oc',ov',hk',e1,e2⟩
 cases m
theorem QC {f:Nat} {u:Nat} {d:aA} {x:aN} {s:aA×Int} (m:kA u f d x=some s):aP Tryz.prog f=true:=by
 unfold kA at m
 split at m
 rename_i e; subst e; exact aEV
 split at m
 rename_i e; subst e; exact aEK
 split at m
 rename_i e; subst e; exact aES
 cases m
theorem W29 {j:Nat} {p0:aA} {p1:aN} {o:aA×Int} (h:aE) (m:NA j p0 p1=some o):
 aL Tryz.prog 29 [.agg (aF p0),.agg (aD p1)] h (λr h'=>r= .tup [.agg (aF o.1),nZ o.2]∧h'=h):=by
 refine fT 44 [.cell 4 30,.tmp 5] Tryz.func29 rfl rfl rfl rfl ?_
 unfold NA at m
 repeat refine vs ?_
 refine v0 ?_
 refine hX rfl rfl λk2 K3=> ?_
 refine hX rfl rfl λk3 K3=> ?_
 refine ve λu=>bG (gO) u oH rfl rfl λk4 K9=>qk K9 rfl ?_
 repeat refine vs ?_
 refine v0 ?_
 refine ve λu=>BW u λkm K3=>qk K3 rfl ?_
 refine ve λu=>yW (l:= []) 0 u yA u3 rfl rfl rfl rfl rfl λK3=>qk K3 rfl ?_
 refine ve λu=>yW 0 u yA u3 rfl rfl rfl rfl rfl λK3=>qk K3 rfl ?_
 refine ve λu=>yW 0 u yA u3 rfl rfl rfl rfl rfl λK3=>qk K3 rfl ?_
 refine ve λu=>yW 0 u yA u3 rfl rfl rfl rfl rfl λK3=>qk K3 rfl ?_
 refine ve λu=>yW 0 u yA u3 rfl rfl rfl rfl rfl λK3=>qk K3 rfl ?_
 repeat refine vs ?_
 refine v0 (dP CG rfl rfl (vl 2 _ cD rfl rfl rfl ?_))
 have hz:(Tryz.prog.info? 117).bind (·.zero)=some (.nilFunc):=by kernel_rfl
 cases hf:lU.find? (λe=>e.1==p1.Kind) with
 | none=>
 rw[hf] at m
 refine vn (λu=>fG (IC (l:=lU) yA hz u3 rfl rfl (aX 0 u rfl)) (bB.of_eq (y:=.tup [.any,.sc (.bool false)]) (by rw[hf]))) ?_
 repeat refine vs ?_
 refine v0 (v0 ?_)
 repeat refine vs ?_
 refine v0 (bV (eK (gO) CD rfl) ?_)
 refine ve λu=>aJ 1 (gO) u rfl rfl rfl rfl kX rfl rfl λK0=>qk K0 rfl ?_
 refine v0 ?_
 cases m
 exact vr λu=>dZ.of2 (.inl rfl) (qT (.agg (gO)) eP rfl (aX 1 u rfl) rfl) (f0 _ _ (.sc (.int _ _)) rfl) (aW (List.nil_sublist _) u).1 (bB.agg (.cons (bB.refl _ _) (.cons (aR _) (.cons (aR _) (.cons (aR _) (.cons (aR _) .nil)))))) (bB.refl _ _) ⟨rfl,rfl⟩
 | some e=>
 rw[hf] at m
 refine vn (λu=>fG (IC (l:=lU) yA hz u3 rfl rfl (aX 0 u rfl)) (bB.of_eq (y:=.tup [.fn (.func e.2) [],.sc (.bool true)]) (by rw[hf]))) ?_
 repeat refine vs ?_
 refine v0 (vl 3 (.agg (aF p0)) eP rfl rfl rfl ?_)
 refine vk W31 XJ m rfl rfl λ_ m=> ?_
 refine v0 ?_
 apply vi m <;> intro hc m
 repeat refine vs ?_
 refine v0 (bV (eK (gO) CD rfl) ?_)
 refine ve λu=>aJ 1 (gO) u rfl rfl rfl rfl kX rfl rfl λK0=>qk K0 rfl ?_
 refine v0 ?_
 cases m
 exact vr λu=>dZ.of2 (.inl rfl) (qT (.agg (gO)) eP rfl (aX 1 u rfl) rfl) (f0 _ _ (.sc (.int _ _)) rfl) (aW (List.nil_sublist _) u).1 (bB.agg (.cons (bB.refl _ _) (.cons (aR _) (.cons (aR _) (.cons (aR _) (.cons (aR _) .nil)))))) (bB.refl _ _) ⟨rfl,rfl⟩
 refine v0 ?_
 repeat refine vs ?_
 refine v0 (vl 3 (.agg (aF p0)) eP rfl rfl rfl ?_)
 obtain⟨d,Y0,m⟩:=aC m
 refine ve λu=>cR (aEW _ Y0) rfl aEX rfl ?_
 rintro x h' ⟨gs,oks,gc,okc,ge,oke,gv,okv,K1,rfl,rfl⟩
 have w:=lY (L':= [bO gs d.Snaps,a9 gc d.Chunks,bU ge d.Exps,aT gv d.Vols,(some km,.mp (rR lU)),(some k4,.obj 30 (gO)),(some k3,.obj 62 (aD p1)),(some k2,.obj 30 (aF p0))]++((bR gs d.Snaps)++((bD gc d.Chunks)++(bX ge d.Exps)))) u K1 [[_], [_], [_], [_],_,_,_] [[_], [_], [_], [_]] rfl rfl [0,1,2,3,7,8,9,10,4,5,6] rfl rfl
 refine qk w.2 w.1 ?_
 refine ve λu=>bG (gO) u oH rfl rfl λk9 K2=>qk K2 rfl ?_
 refine ve λu=>aJ 0 ([nZ d.Seq,aZ gs.a,aZ gc.a,aZ ge.a,aZ gv]) u rfl rfl rfl (by repeat (first | exact rfl | refine cE (bZ _ _ _) ?_ | refine cE rfl ?_)) kX rfl rfl λK4=>qk K4 rfl ?_
 repeat refine vs ?_
 refine qM m (σ:=aA×Int) (τ:=dC×dC×dC×dC) (λg s=> [OC k9 s.1.Seq g.1 g.2.1 g.2.2.1 g.2.2.2,bN g.1 s.1.Snaps,bF g.2.1 s.1.Chunks,cK g.2.2.1 s.1.Exps,aT g.2.2.2 s.1.Vols,(some km,.mp (rR lU)),(some k4,.obj 30 (gO)),(some k3,.obj 62 (aD p1)),(some k2,.obj 30 (aF p0))]) (λg s=>bM g.1 4 s.1.Snaps.length∧bM g.2.1 35 s.1.Chunks.length∧bM g.2.2.1 3 s.1.Exps.length∧bM g.2.2.2 4 s.1.Vols.length) (λg s=>.c 4 (.ptr k4 0) (.c 9 (.ptr k9 0) (.c 10 (nZ s.2) .nil))) (λx m=> ?_) ?_
 refine v0 (vl 7 (.agg (aD p1)) pG rfl rfl rfl ?_)
 obtain⟨s,hs,m⟩:=aC m
 refine ve λu=> ?_
 have pq:=lX (A:=NB k9 d gs gc ge gv) (R:= [(some km,.mp (rR lU)),(some k4,.obj 30 (gO)),(some k3,.obj 62 (aD p1)),(some k2,.obj 30 (aF p0))]) u [[_], [_], [_], [_], [_], [_], [_], [_], [_],_,_,_] rfl [0,1,2,3,4,9,10,11] [5,6,7,8] rfl rfl rfl
 refine dO pq.1 (cR (UH _ oks okc oke okv pq.2.2 hs) rfl (QC hs) rfl ?_)
 rintro r h' ⟨a',b',c',v',oa,ob,oc,ov,hk',rfl,rfl⟩
 have hq2:=lY (L':= [OC k9 s.1.Seq a' b' c' v',bN a' s.1.Snaps,bF b' s.1.Chunks,cK c' s.1.Exps,aT v' s.1.Vols,(some km,.mp (rR lU)),(some k4,.obj 30 (gO)),(some k3,.obj 62 (aD p1)),(some k2,.obj 30 (aF p0))]) pq.2.1 hk' [[_], [_], [_], [_], [_]] [[_], [_], [_], [_]] rfl rfl [0,1,2,3,4,5,6,7,8] rfl rfl
 refine qk hq2.2 hq2.1 ?_
 exact fB m (a',b',c',v') ⟨oa,ob,oc,ov⟩ (lx (.k3 .nil))
 rintro⟨a',b',c',v'⟩ ⟨dd,ee⟩ ⟨oa,ob,oc,ov⟩ m
 repeat refine vs ?_
 refine v0 ?_
 repeat refine vs ?_
 refine v0 (v0 ?_)
 apply vi m <;> intro hc m
 repeat refine vs ?_
 refine v0 (bV (eK (gO) CD rfl) ?_)
 refine ve λu=>aJ 6 (gO) u rfl rfl rfl rfl kX rfl rfl λK0=>qk K0 rfl ?_
 refine v0 ?_
 cases m
 exact vr λu=>dZ.of2 (.inl rfl) (qT (.agg (gO)) eP rfl (aX 6 u rfl) rfl) (f0 _ _ (.sc (.int _ _)) rfl) (aW (List.nil_sublist _) u).1 (bB.agg (.cons (bB.refl _ _) (.cons (aR _) (.cons (aR _) (.cons (aR _) (.cons (aR _) .nil)))))) (bB.refl _ _) ⟨rfl,rfl⟩
 repeat refine vs ?_
 refine v0 (vl 0 (.agg ([nZ dd.Seq,aZ a',aZ b',aZ c',aZ v'])) eP rfl rfl rfl ?_)
 obtain⟨_,Y1,m⟩:=aC m
 refine vn (λu=>cB (fA (.cons (Br.agg (.cons (Br.refl _ _) (.cons (Br.aw 1 eC oa u rfl) (.cons (Br.aw 2 cL ob u rfl) (.cons (Br.aw 3 fY oc u rfl) (.cons (Br.aw 4 eS ov u rfl) .nil)))))) .nil) rfl (W31 _ Y1)) rfl XJ rfl) (v0 ?_)
 apply vi m <;> intro c0 m
 repeat refine vs ?_
 refine v0 (bV (eK (gO) CD rfl) ?_)
 refine ve λu=>aJ 6 (gO) u rfl rfl rfl rfl kX rfl rfl λK0=>qk K0 rfl ?_
 refine v0 ?_
 cases m
 exact vr λu=>dZ.of2 (.inl rfl) (qT (.agg (gO)) eP rfl (aX 6 u rfl) rfl) (f0 _ _ (.sc (.int _ _)) rfl) (aW (List.nil_sublist _) u).1 (bB.agg (.cons (bB.refl _ _) (.cons (aR _) (.cons (aR _) (.cons (aR _) (.cons (aR _) .nil)))))) (bB.refl _ _) ⟨rfl,rfl⟩
 refine v0 ?_
 repeat refine vs ?_
 refine v0 (vl 0 (.agg ([nZ dd.Seq,aZ a',aZ b',aZ c',aZ v'])) eP rfl rfl rfl ?_)
 refine ve λu=>aJ 6 ([nZ dd.Seq,aZ a',aZ b',aZ c',aZ v']) u rfl rfl rfl (by repeat (first | exact rfl | refine cE (bZ _ _ _) ?_ | refine cE rfl ?_)) kX rfl rfl λK5=>qk K5 rfl ?_
 refine v0 ?_
 cases m
 refine vrl λu=> ?_
 obtain⟨K6,le0⟩:=iW.fzO (n:=44) (f:=_) 1 5 ([nZ dd.Seq,.sl none 4 (List.map bK dd.Snaps),aZ b',aZ c',aZ v']) u rfl (.cons (Fz.refl _ _ _) (.cons (Fz.aw 1 eC oa u rfl (.refl _)) (.cons (Fz.refl _ _ _) (.cons (Fz.refl _ _ _) (.cons (Fz.refl _ _ _) .nil)))))
 obtain⟨K7,le1⟩:=iW.fzO (n:=44) (f:=_) 1 4 ([nZ dd.Seq,.sl none 4 (List.map bK dd.Snaps),.sl none 35 (List.map aI dd.Chunks),aZ c',aZ v']) K6 rfl (.cons (Fz.refl _ _ _) (.cons (Fz.refl _ _ _) (.cons (Fz.aw 1 cL ob K6 rfl (.refl _)) (.cons (Fz.refl _ _ _) (.cons (Fz.refl _ _ _) .nil)))))
 obtain⟨K8,le2⟩:=iW.fzO (n:=44) (f:=_) 1 3 ([nZ dd.Seq,.sl none 4 (List.map bK dd.Snaps),.sl none 35 (List.map aI dd.Chunks),.sl none 3 (List.map cV dd.Exps),aZ v']) K7 rfl (.cons (Fz.refl _ _ _) (.cons (Fz.refl _ _ _) (.cons (Fz.refl _ _ _) (.cons (Fz.aw 1 fY oc K7 rfl (.refl _)) (.cons (Fz.refl _ _ _) .nil)))))
 obtain⟨K82,le3⟩:=iW.fzO (n:=44) (f:=_) 1 2 ([nZ dd.Seq,.sl none 4 (List.map bK dd.Snaps),.sl none 35 (List.map aI dd.Chunks),.sl none 3 (List.map cV dd.Exps),.sl none 4 (List.map cS dd.Vols)]) K8 rfl (.cons (Fz.refl _ _ _) (.cons (Fz.refl _ _ _) (.cons (Fz.refl _ _ _) (.cons (Fz.refl _ _ _) (.cons (Fz.aw 1 eS ov K8 rfl (.refl _)) .nil)))))
 exact OF.mk (iW.trans (iW.trans (iW.trans le0 le1) le2) le3) (dZ.of2 (.inl rfl) (qT (.agg (aF dd)) eP rfl (aX 2 K82 rfl) rfl) (f0 _ _ (.sc (.int _ _)) rfl) (aW (List.nil_sublist _) K82).1 (bB.refl _ _) (bB.refl _ _) ⟨rfl,rfl⟩)
theorem QD:aP Tryz.prog 29=true:=by kernel_rfl
open Go.Vm
theorem p7 {α ρ:Type} {l:List α} (f:α→α) {F:Nat} {body:List α×Int→Option (Lp (List α×Int) ρ)} (hF:l.length < F)
    (hb:∀(cur:List α) (i:Nat) (x:α),cur.length=l.length→cur[i]? =some x→x∈l→i < l.length→body (cur,(i:Int))=some (.go (cur.set i (f x),((i+1:Nat):Int))))
    (he:∀cur:List α,cur.length=l.length→body (cur,(l.length:Int))=some (.brk (cur,(l.length:Int)))):
    aU body F (l,0)=some (.brk (l.map f,(l.length:Int))):=by
  have len:∀i,((l.take i).map f++l.drop i).length=l.length:=λi=>by simp; omega
  have:=jL (body:=body) (s0:=(l,(0:Int))) (n:=l.length) (F:=F) (λi:Nat=>((l.take i).map f++l.drop i,(i:Int))) hF (by simp) (λi hi=>by
    have hx:((l.take i).map f++l.drop i)[i]? =some l[i]:=by
      rw[List.getElem?_append_right (by simp; omega)]
      simp[Nat.min_eq_left (Nat.le_of_lt hi)]
    rw[hb _ i l[i] (len i) hx (List.getElem_mem hi) hi]
    congr 4
    rw[List.take_succ_eq_append_getElem hi,List.drop_eq_getElem_cons hi,List.set_append_right _ _ (by simp; omega),List.length_map,List.length_take,Nat.min_eq_left (Nat.le_of_lt hi),Nat.sub_self,List.set_cons_zero,List.map_append]
    simp only[List.map_cons,List.map_nil,List.append_assoc,List.cons_append,List.nil_append]) (he _ (len _))
  simpa using this
theorem A5 {F:Nat} {m:aY} (hF:1000≤F) (hp:m.Parts.length≤10) (hi:∀p∈m.Parts,p.Ids.length≤40):JX F m=some m:=by
 unfold JX H7
 rw[bW (by simp; omega)]
 simp only[Option.bind_some,List.nil_append]
 rw[p7 (l:=m.Parts) id (by omega) (λcur i x hc hx hm hi'=>by
  have:=hi x hm
  unfold tO QA
  rw[hH (by omega)]
  simp only[a8,hx,Option.bind_some,Int.ofNat_lt,hi',decide_true,if_true]
  rw[bW (by simp; omega)]
  rfl) (λcur hc=>by unfold tO; simp)]
 simp[aG]
theorem aEZ {F:Nat} {c:aA} (hF:1000≤F) (h:Sm c):M9 F c=some c:=by
 have hsn:=h.sn
 have hex:=h.ex
 have hvo:=h.vo
 have hch:=h.ch
 unfold M9 H8 H9 IA IB
 rw[bW (by simp; omega),bW (by simp; omega),bW (by simp; omega),bW (by simp; omega)]
 simp only[Option.bind_some,List.nil_append]
 rw[p7 (l:=c.Snaps) id (by omega) (λcur i x hc hx hm hi=>by
  have h1:=h.sl x hm
  obtain⟨-,h2,h3⟩:=h.man x hm
  unfold tP ET
  rw[hH (by omega)]
  simp only[a8,hx,Option.bind_some,Int.ofNat_lt,hi,decide_true,if_true,A5 hF h2 (λp hp=>(h3 p hp).2)]
  rw[bW (by simp; omega)]
  simp[List.set_set]) (λcur hc=>by unfold tP; simp)]
 simp only[aG]
 rw[p7 (l:=c.Chunks) id (by omega) (λcur i x hc hx hm hi=>by
  have h1:=h.cl x hm
  unfold tQ ET RN
  have e1:app [] x.Data=some x.Data:=by rw[bW (by simp; omega)]; rfl
  rw[hH (by omega)]
  simp only[a8,hx,Option.bind_some,Int.ofNat_lt,hi,decide_true,if_true,e1]
  rw[bW (by simp; omega)]
  simp[List.set_set]) (λcur hc=>by unfold tQ; simp)]
 simp only[aG]
 rw[p7 (l:=c.Exps) id (by omega) (λcur i x hc hx hm hi=>by
  have h1:=h.el x hm
  unfold tT ET
  rw[hH (by omega)]
  simp only[a8,hx,Option.bind_some,Int.ofNat_lt,hi,decide_true,if_true]
  rw[bW (by simp; omega)]
  simp) (λcur hc=>by unfold tT; simp)]
 simp[aG]
def lf (v:Int) (l:List bE):List bE:=l.filter λy=> !(y.Vol==v)
def aE0 (v:Int) (s:aH):aH:= { s with Locs:=lf v s.Locs}
def QE (v:Int) (s:aB):aB:= { s with Locs:=lf v s.Locs}
def QF (v:Int) (s:aS):aS:= { s with Locs:=lf v s.Locs}
def ND (y:aB):Bool:= !y.Staged && ((y.Locs.length:Int)==0)
def ret (c:aA) (v:Int) (x:aM):aA:=
 { Seq:=c.Seq,Snaps:=c.Snaps.map (aE0 v),Chunks:=(c.Chunks.map (QE v)).filter λy=> !ND y,Exps:=(c.Exps.map (QF v)).filter λy=> !((y.Locs.length:Int)==0),Vols:=c.Vols.set v.toNat { x with State:=3,Files:=0}}
def rel (c:aA) (v:Int) (x:aM):aA:= { c with Vols:=c.Vols.set v.toNat { x with State:=1,Epoch:=x.Epoch+1}}
theorem n29 {F:Nat} {c:aA} {d:aN} {k:Nat} {e:aA} {n:Int} (hF:1000≤F) (h:Sm c) (hg:gG c=true) (hk:lU.find? (λe=>e.1==d.Kind)=some (d.Kind,k)) (hd:kA F k c d=some (e,n)) (hs:n=0→Sm e):
    NA F c d=some (if n=0 then (if gG e=true then (e,0) else (bS,1)) else (bS,n)):=by
  unfold NA
  rw[hk]
  simp only[m33 hF h,hg,if_true,Option.bind_some,aEZ hF h,hd,aG]
  by_cases e0:n=0
  · rw[if_neg (by decide),if_neg (by simp[e0]),m33 hF (hs e0),if_pos e0]
    simp only[Option.bind_some]
    cases gG e <;> rfl
  · rw[if_neg (by decide),if_pos (by simpa using e0),if_neg e0]
open Go.Vm
theorem o0 {l:List aB}:rZ l↔(∀x∈l,mM x.Id)∧l.Pairwise λy x=>ky y.Id < ky x.Id:=by
 unfold rZ
 refine and_congr_right λ_=> ?_
 rw[List.pairwise_iff_getElem]
 constructor
 ·intro h i j hi hj hij
  exact h i j _ _ (List.getElem?_eq_getElem hi) (List.getElem?_eq_getElem hj) hij
 ·intro h i j x y hx hy hij
  obtain⟨hi,rfl⟩:=List.getElem?_eq_some_iff.1 hx
  obtain⟨hj,rfl⟩:=List.getElem?_eq_some_iff.1 hy
  exact h i j hi hj hij
structure At (l:List aB) (d:bL) (p:Nat):Prop where
 le:p≤l.length
 lo:∀x∈l.take p,ky x.Id < ky d
 hi:∀x∈l.drop p,ky d≤ky x.Id
theorem UI {F:Nat} {l:List aB} {d:bL} (hF:1000≤F) (hr:rZ l) (hd:mM d) (hl:l.length < 1000):∃p:Nat,At l d p∧wN F l d=some ((p:Int),kK l d):=by
 obtain⟨p',e'⟩:=YG hF hr hd hl
 obtain⟨p,hp,e,h1,h2⟩:=bis (F:=F) hr hd hl F 0 l.length (by omega) (Nat.le_refl _) (by omega) (λj x _ hj=>by omega) (λj x hx hj=>by have:=(List.getElem?_eq_some_iff.1 hx).1; omega)
 have e2:∃b,wN F l d=some ((p:Int),b):=by
  unfold wN MB
  rw[show ((0:Int),(l.length:Int))=(((0:Nat):Int),(l.length:Int)) from rfl,e]
  simp only[aG]
  by_cases hlt:p < l.length
  ·have hx:l[p]? =some l[p]:=List.getElem?_eq_getElem hlt
   have hmem:=List.getElem_mem hlt
   generalize l[p]=x at hx hmem
   have gx:=hr.1 x hmem
   have e:zV F x d=some (if ky x.Id < ky d then -1 else if ky d < ky x.Id then 1 else 0):=by unfold zV; rw[MH F gx hd]; rfl
   simp only[Int.ofNat_lt,hlt,decide_true,if_true,a8,hx,Option.bind_some,e,aG]
   exact⟨_,rfl⟩
  ·have hn:¬((p:Int) < (l.length:Int)):=by omega
   simp only[hn,decide_false,Bool.false_eq_true,if_false,aG,Option.bind_some]
   exact⟨_,rfl⟩
 obtain⟨b,hb⟩:=e2
 refine⟨p,⟨hp,λx hx=> ?_,λx hx=> ?_⟩, ?_⟩
 ·obtain⟨i,hi,rfl⟩:=List.getElem_of_mem hx
  simp only[List.length_take] at hi
  rw[List.getElem_take]
  exact h1 i _ (List.getElem?_eq_getElem (by omega)) (by omega)
 ·obtain⟨i,hi,rfl⟩:=List.getElem_of_mem hx
  simp only[List.length_drop] at hi
  rw[List.getElem_drop]
  exact h2 (p+i) _ (List.getElem?_eq_getElem (by omega)) (by omega)
 ·rw[hb] at e' ⊢
  have:=Option.some.inj e'
  rw[(Prod.mk.inj this).2]
theorem CV {α:Type} {l:List α} {p:Nat} {x:α} (h:p≤l.length) (hl:l.length < 1000):pI l (p:Int) x=some (l.take p++x::l.drop p):=by
 unfold pI
 rw[if_pos ⟨by omega,by omega,by omega⟩]
 simp
theorem CW {l:List aB} {p:Nat} {d:bL} (hr:rZ l) (ha:At l d p) (hd:mM d) (h:kK l d=true):∃x,l[p]? =some x∧x.Id=d:=by
 obtain⟨y,hy,e⟩:=List.any_eq_true.1 h
 have e:=of_decide_eq_true e
 have hy2:y∈l.take p++l.drop p:=by rw[List.take_append_drop]; exact hy
 rcases List.mem_append.1 hy2 with h1 | h1
 ·have:=ha.lo y h1
  rw[e] at this; omega
 ·obtain⟨i,hi,e2⟩:=List.getElem_of_mem h1
  simp only[List.length_drop] at hi
  rw[List.getElem_drop] at e2
  have hp:l[p]? =some l[p]:=List.getElem?_eq_getElem (by omega)
  cases i with
  | zero=>exact⟨_,hp,by rw[← e,← e2]; rfl⟩
  | succ i=>
   have h3:=hr.2 p (p+(i+1)) _ _ hp (List.getElem?_eq_getElem (by omega)) (by omega)
   have h4:=ha.hi l[p] (by
    rw[List.drop_eq_getElem_cons (by omega)]
    exact List.mem_cons_self)
   rw[e2,e] at h3
   omega
open Go.Vm
theorem A6 {ρ:Type} {body:Int→Option (Lp Int ρ)} {c:Nat→Bool}:∀(G q:Nat),q < G→(∀k:Nat,k≤q→body (k:Int)=some (if decide (0 < k) && c (k - 1) then .go ((k - 1:Nat):Int) else .brk (k:Int)))→
    ∃p:Nat,p≤q∧aU body G (q:Int)=some (.brk (p:Int))∧(∀j,p≤j→j < q→c j=true)∧(0 < p→c (p - 1)=false)
  | 0,_,h,_=>by omega
  | G+1,q,h,hb=>by
    unfold aU
    rw[hb q (Nat.le_refl _)]
    cases e:decide (0 < q) && c (q - 1) with
    | false=>
      refine⟨q,Nat.le_refl _,by simp,λj h1 h2=>by omega,λh0=> ?_⟩
      simpa [h0] using e
    | true=>
      simp only[Bool.and_eq_true,decide_eq_true_eq] at e
      obtain⟨p,h1,h2,h3,h4⟩:=A6 (body:=body) (c:=c) G (q - 1) (by omega) λk hk=>hb k (by omega)
      refine⟨p,by omega,by simpa using h2,λj hj1 hj2=> ?_,h4⟩
      by_cases ej:j=q - 1
      · rw[ej]; exact e.2
      · exact h3 j hj1 (by omega)
structure Pt (l:List bE) (x:bE) (p:Nat):Prop where
 le:p≤l.length
 hi:∀y∈l.drop p,jK y x=true
 lo:∀y,0 < p→l[p - 1]? =some y→jK y x=false
theorem ZY {F:Nat} {l:List bE} {x:bE} (hF:1000≤F) (hl:l.length≤400):∃p,Pt l x p∧vY F l x=some (l.take p++x::l.drop p):=by
 obtain⟨p,h1,h2,h3,h4⟩:=A6 (body:=λs=>p5 F l x s) (c:=λj=>match l[j]? with | none=>false | some y=>jK y x) F l.length (by omega) (λk hk=>by
  unfold p5
  by_cases h0:0 < k
  ·have hy:l[k - 1]? =some l[k - 1]:=List.getElem?_eq_getElem (by omega)
   generalize l[k - 1]=y at hy
   rw[yF (by omega) h0]
   have hk0:(0:Int) < (k:Int):=by omega
   simp only[a8,hy,hk0,h0,decide_true,Bool.true_and,if_true,Option.bind_some]
   have e:jK y x=(if decide (x.Vol < y.Vol)=true then true else if (y.Vol==x.Vol)=true then (if decide (x.File < y.File)=true then true else if (y.File==x.File)=true then decide (x.Off < y.Off) else false) else false):=by
    rw[Bool.eq_iff_iff,wV]
    by_cases a:x.Vol < y.Vol <;> by_cases b:y.Vol=x.Vol <;> by_cases c:x.File < y.File <;> by_cases d:y.File=x.File <;> simp[a,b,c,d] <;> omega
   rw[e]
   by_cases a:x.Vol < y.Vol <;> by_cases b:y.Vol=x.Vol <;> by_cases c:x.File < y.File <;> by_cases d:y.File=x.File <;> (simp[a,b,c,d,aG] <;> (split <;> rfl))
  ·obtain rfl:k=0:=by omega
   simp[aG])
 refine⟨p,⟨h1,λy hy=> ?_,λy h0 hy=> ?_⟩, ?_⟩
 ·obtain⟨i,hi,rfl⟩:=List.getElem_of_mem hy
  simp only[List.length_drop] at hi
  have:=h3 (p+i) (by omega) (by omega)
  rw[List.getElem?_eq_getElem (show p+i < l.length by omega)] at this
  rw[List.getElem_drop]
  exact this
 ·have:=h4 h0
  simp only[hy] at this
  exact this
 ·unfold vY
  rw[h2]
  simp only[aG]
  rw[CV h1 (by omega)]
  rfl
open Go.Vm
def wX (c:aA) (y:aB):aB:=if kU c y.Id then y else { y with Staged:=false,Data:= []}
def m8 (y:aB):Bool:=y.Staged || decide (0 < (y.Locs.length:Int))
def JZ (c:aA):List aB:=(c.Chunks.filter λy=>m8 (wX c y)).map (wX c)
theorem ZZ {F:Nat} {c:aA} (hF:1000≤F) (h:Sm c):G2 F c=some (JZ c):=by
 have hch:=h.ch
 unfold G2
 rw[mN (l:=c.Chunks) [] (λy=>m8 (wX c y)) (wX c) (by omega) (λi x hx hm hi acc ha=>by
  unfold tM
  simp only
  rw[hH (by omega)]
  simp only[List.length_nil] at ha
  have ea:∀z:aB,app acc [z]=some (acc++ [z]):=λz=>bW (by simp; omega)
  simp only[a8,hx,Option.bind_some,Int.ofNat_lt,hi,decide_true,if_true,m44 hF (c:= { Seq:=c.Seq,Snaps:=c.Snaps,Chunks:=c.Chunks,Exps:=c.Exps,Vols:=c.Vols}) h]
  unfold wX m8
  show _=_
  rw[show kU { Seq:=c.Seq,Snaps:=c.Snaps,Chunks:=c.Chunks,Exps:=c.Exps,Vols:=c.Vols} x.Id=kU c x.Id from rfl]
  generalize kU c x.Id=ub
  obtain⟨id,st,da,lo⟩:=x
  simp only
  cases ub
  ·simp only[Bool.not_false,Bool.false_eq_true,if_true,if_false,aG,Bool.false_or]
   generalize decide (0 < (lo.length:Int))=dl
   cases dl <;> simp[aG,ea]
  ·simp only[Bool.not_true,Bool.false_eq_true,if_true,if_false,aG]
   generalize decide (0 < (lo.length:Int))=dl
   cases dl <;> cases st <;> simp[aG,ea]) (λacc=>by unfold tM; simp)]
 simp[aG,JZ]
theorem QG {α:Type} {l:List α} {q:α→Bool} {i:Nat} {x:α} (hx:l[i]? =some x) (hq:q x=true) (h1:∀y∈l.take i,q y=false) (h2:∀y∈l.drop (i+1),q y=false):l.take i++l.drop (i+1)=l.filter λy=> !q y:=by
 obtain⟨hi,rfl⟩:=List.getElem?_eq_some_iff.1 hx
 have e:l.filter (λy=> !q y)=(l.take i++l[i]::l.drop (i+1)).filter λy=> !q y:=by
  rw[← List.drop_eq_getElem_cons hi,List.take_append_drop]
 rw[e,List.filter_append,List.filter_cons_of_neg (by simp[hq])]
 rw[List.filter_eq_self.2 λy hy=>by simp[h1 y hy],List.filter_eq_self.2 λy hy=>by simp[h2 y hy]]
def jU (c:aA) (n:Int):aA:= { c with Snaps:=c.Snaps.filter λs=> !(s.Seq==n)}
def p8 (c:aA) (n:Int):aA:= { jU c n with Chunks:=JZ (jU c n)}
theorem p9 {c:aA} (h:Sm c) (q:aH→Bool):Sm { c with Snaps:=c.Snaps.filter q}:=
 { h with
  g:=⟨h.g.1,λs hs=>h.g.2.1 s (List.mem_filter.1 hs).1,h.g.2.2⟩
  sn:=Nat.le_trans (List.length_filter_le _ _) h.sn
  sl:=λs hs=>h.sl s (List.mem_filter.1 hs).1
  man:=λs hs=>h.man s (List.mem_filter.1 hs).1}
theorem n73 {F:Nat} {c:aA} {d:aN} (hF:1000≤F) (h:Sm c) (hg:Gd c):VX F c d=some (if c.Snaps.any (λs=>s.Seq==d.Seq) then (0,(p8 c d.Seq).Snaps,(p8 c d.Seq).Chunks) else (8,c.Snaps,c.Chunks)):=by
 have hsn:=h.sn
 have hi:vX F c.Snaps (λx0=>M3 F x0 d)=some (pX c.Snaps λs=>s.Seq==d.Seq):=by
  unfold vX
  refine kG (l:=c.Snaps) (λs:aH=>s.Seq==d.Seq) (by omega) (λi x hx hm hi=> ?_) (by unfold m7; simp)
  unfold m7 M3
  rw[hH (by omega)]
  simp only[a8,hx,Option.bind_some,Int.ofNat_lt,hi,decide_true,if_true]
  split <;> rfl
 unfold VX
 rw[hi]
 simp only[Option.bind_some]
 cases ha:c.Snaps.any (λs=>s.Seq==d.Seq) with
 | false=>
  rw[iL ha]
  rfl
 | true=>
  obtain⟨i,x,h1,h2,h3,h4⟩:=iK ha
  have hil:=(List.getElem?_eq_some_iff.1 h2).1
  rw[h1,hH (by omega)]
  rw[if_neg (by simp)]
  have ed:JT c.Snaps (i:Int) ((i+1:Nat):Int)=some (c.Snaps.filter λs=> !(s.Seq==d.Seq)):=by
   unfold JT
   rw[if_pos ⟨by omega,by omega,by omega⟩]
   simp only[Int.toNat_natCast]
   rw[QG h2 h3 h4 λy hy=>by
    obtain⟨j,hj,rfl⟩:=List.getElem_of_mem hy
    simp only[List.length_drop] at hj
    rw[List.getElem_drop]
    have:=List.pairwise_iff_getElem.1 hg.so i (i+1+j) hil (by omega) (by omega)
    obtain⟨_,e⟩:=List.getElem?_eq_some_iff.1 h2
    rw[e] at this
    have h3:x.Seq=d.Seq:=by simpa using h3
    simp only[beq_eq_false_iff_ne,ne_eq]
    omega]
  rw[ed]
  simp only[Option.bind_some]
  rw[ZZ hF (p9 h _)]
  rfl
open Go.Vm
def qA (m:Nat) (p0:List aB) (q0:List aB) (q1:Int):Option (Lp ((List aB)×Int) ((List aB))):=
 if (decide (q1 < (p0.length:Int)))=true then ((ix p0 q1).bind λx0=>(vK m x0.Data).bind λy0=>(wO m x0.Locs).bind λy1=>(app q0 ([{ { x0 with Data:=y0} with Locs:=y1}]:List aB)).bind λz0=>some (.go (z0,IntKind.wrap .i64 (q1+1)))) else some (.brk (q0,q1))
def A7 (m:Nat) (p0:List aB):Option ((List aB)):=
 after (aU (λs=>qA m p0 s.1 s.2) m ([],0)) λ⟨r0,r1⟩=>some r0
theorem R8 {w:Nat} {p0:List aB} {o:(List aB)} (h:aE) (m:A7 w p0=some o):
 aL Tryz.prog 152 [.sl none 35 (List.map aI p0)] h (λr h'=>∃g:dC,bM g 35 o.length∧bQ h [(g.t,.obj 44 (fl aI o g.sp))]∧r=aZ g∧h'=hp h [(g.t,.obj 44 (fl aI o g.sp))]):=by
 refine fT 29 [.tmp 2] Tryz.func152 rfl rfl rfl rfl ?_
 unfold A7 at m
 refine vs (v0 (vs (v0 (vs (vs (v0 (rE (FG (.obj 44 (fl aI ([]:List aB) g0.sp)) 3 (aZ g0) (fP _)) (pB m (σ:=(List aB)×Int) (τ:=dC) (λg s=> [(dG g s.1)]) (λg s=>bM g 35 (s.1:List aB).length) (λg s=>.c 0 (.sl none 35 (List.map aI p0)) (.c 3 (aZ g) (.c 4 (nZ s.2) .nil))) g0 (bM.g0 35) (lx (.k3 .nil)) ?_ ?_))))))))
 rintro ag0 ⟨q0,q1⟩ x O0 m
 replace m:qA w p0 q0 q1=some x:=m
 unfold qA at m
 refine vs (vs (v0 (cY jG rfl (v0 ?_))))
 apply vi m <;> intro c0 m
 refine v0 (vs (v0 (vs (v0 (vx m fH rfl rfl λx0 _ m=>va (.agg (aI x0)) nT rfl rfl (ve λu=>bG (bH jI++(OB:List AV)) u oK rfl rfl λk115 K0=>qk K0 rfl (ve λu=>aJ 0 (aI x0) u rfl rfl rfl rfl CF rfl rfl λK1=>qk K1 rfl (vs (v0 (vz [(7,some k115,.obj 44 (aI x0))] mixed (λu=>⟨λ_=>aK 0 u rfl,trivial⟩) λu=>zF 0 rfl jP rfl (zL 1 0 (.sl none 1 (List.map cW x0.Data)) rfl lL rfl rfl rfl ?_)))))))))))
 obtain⟨y0,Y0,m⟩:=aC m
 refine zC 2 rfl (cB (MN _ Y0) rfl ER rfl) (zF 3 rfl jQ rfl (zL 4 0 (.sl none 4 (List.map aQ x0.Locs)) rfl fM rfl rfl rfl ?_))
 obtain⟨y1,Y1,m⟩:=aC m
 refine zC 5 rfl (cB (MM _ Y1) rfl EQ rfl) (zF 6 rfl jP rfl (zE 7 rfl (aJ 0 (aI { x0 with Data:=y0}) u rfl rfl rfl rfl CE rfl rfl λK2=>⟨⟨λe=>absurd e (by decide),trivial⟩, ?_⟩)))
 refine zF 8 rfl jQ rfl (zE 9 rfl (aJ 0 (aI { { x0 with Data:=y0} with Locs:=y1}) K2 rfl rfl rfl rfl pT rfl rfl λK3=>⟨⟨λe=>absurd e (by decide),trivial⟩, ?_⟩))
 refine zX (qk (f:=VM 23 _ _ _ _ _ _ _ _ _) K3 rfl (v0 (vl 0 (.agg (aI { { x0 with Data:=y0} with Locs:=y1})) nT rfl rfl rfl (bV (eD (List.map aI ([{ { x0 with Data:=y0} with Locs:=y1}]:List aB)) lK rfl rfl rfl rfl) ?_))))
 obtain⟨z0,Z0,m⟩:=aC m
 exact ve λu=>fS (c:=aI) 1 Z0 lK rfl oK rfl cL rfl rfl O0 u rfl λag1 O1 K4=>qk K4 rfl (v0 (fB m ag1 O1 (nD [1] rfl rfl (.k3 .nil))))
 exact v0 (mL m ag0 O0 (lx (.k3 .nil)))
 rintro ag2 ⟨r0,r1⟩ t0 m
 refine vs (v0 (v0 ?_))
 obtain rfl:=eU m
 exact vr λu=>dZ.one (.inl rfl) (aW (h0:=h) (L':= [(dG ag2 r0)]) (.refl _) u).1 (bB.refl _ _) ⟨ag2,t0,(aW (h0:=h) (L':= [(dG ag2 r0)]) (.refl _) u).2,rfl,rfl⟩
def CX (m:Nat) (p0:aA) (q0:List aH) (q1:Int):Option (Lp ((List aH)×Int) (aA)):=
 if (decide (q1 < (p0.Snaps.length:Int)))=true then ((ix p0.Snaps q1).bind λx0=>(GR m x0.Man).bind λy0=>(wO m x0.Locs).bind λy1=>(app q0 ([{ { x0 with Man:=y0} with Locs:=y1}]:List aH)).bind λz0=>some (.go (z0,IntKind.wrap .i64 (q1+1)))) else some (.brk (q0,q1))
def CY (m:Nat) (p0:aA) (q0:List aS) (q1:Int):Option (Lp ((List aS)×Int) (aA)):=
 if (decide (q1 < (p0.Exps.length:Int)))=true then ((ix p0.Exps q1).bind λx0=>(wO m x0.Locs).bind λy0=>(app q0 ([{ x0 with Locs:=y0}]:List aS)).bind λz0=>some (.go (z0,IntKind.wrap .i64 (q1+1)))) else some (.brk (q0,q1))
def QH (m:Nat) (p0:aA):Option (aA):=
 after (aU (λs=>CX m p0 s.1 s.2) m ([],0)) λ⟨r0,r1⟩=>after (aU (λs=>CY m p0 s.1 s.2) m ([],0)) λ⟨r2,r3⟩=>(A7 m p0.Chunks).bind λy0=>(app ([]:List aM) p0.Vols).bind λz0=>some ({ Seq:=p0.Seq,Snaps:=r0,Chunks:=y0,Exps:=r2,Vols:=z0}:aA)
theorem aE2 {w:Nat} {p0:aA} {o:aA} (h:aE) (m:QH w p0=some o):
 aL Tryz.prog 90 [.agg (aF p0)] h (λr h'=>∃gS:dC,bM gS 4 o.Snaps.length∧∃gC:dC,bM gC 35 o.Chunks.length∧∃gE:dC,bM gE 3 o.Exps.length∧∃gV:dC,bM gV 4 o.Vols.length∧bQ h [(dH gS o.Snaps),(dG gC o.Chunks),(jR gE o.Exps),(lC gV o.Vols)]∧r= .agg ([nZ o.Seq,aZ gS,aZ gC,aZ gE,aZ gV])∧h'=hp h [(dH gS o.Snaps),(dG gC o.Chunks),(jR gE o.Exps),(lC gV o.Vols)]):=by
 refine fT 68 [.cell 2 30] Tryz.func90 rfl rfl rfl rfl ?_
 unfold QH at m
 refine vs (v0 (hX rfl rfl λk2 K3=>ve λu=>bG (gO) u oH rfl rfl λk5 K6=>qk K6 rfl (vs (v0 (vs (vs (v0 (rE (FG (.obj 60 (fl bK ([]:List aH) g0.sp)) 3 (aZ g0) (fP _)) (pB m (σ:=(List aH)×Int) (τ:=dC) (λg s=> [(dH g s.1),(some k5,.obj 30 (gO)),(some k2,.obj 30 (aF p0))]) (λg s=>bM g 4 (s.1:List aH).length) (λg s=>.c 1 (.ptr k2 0) (.c 2 (.ptr k5 0) (.c 3 (aZ g) (.c 4 (nZ s.2) .nil)))) g0 (bM.g0 4) (lx (.k4 .nil)) ?_ ?_)))))))))
 rintro ag0 ⟨q0,q1⟩ x O0 m
 replace m:CX w p0 q0 q1=some x:=m
 unfold CX at m
 refine vs (vs (v0 (dP dQ rfl rfl (vl 2 _ eV rfl rfl rfl (cY iQ rfl (v0 ?_))))))
 apply vi m <;> intro c0 m
 refine v0 (vs (v0 (vs (v0 (dP dQ rfl rfl (vl 2 _ eV rfl rfl rfl (vx m iX rfl rfl λx0 _ m=>va (.agg (bK x0)) sO rfl rfl (ve λu=>bG (VJ) u sP rfl rfl λk121 K0=>qk K0 rfl (ve λu=>aJ 0 (bK x0) u rfl rfl rfl rfl GH rfl rfl λK1=>qk K1 rfl (vs (v0 (vz [(7,some k121,.obj 60 (bK x0))] mixed (λu=>⟨λ_=>aK 0 u rfl,trivial⟩) λu=>zF 0 rfl oL rfl (zL 1 0 (.agg (bC x0.Man)) rfl nU rfl rfl rfl ?_)))))))))))))
 obtain⟨y0,Y0,m⟩:=aC m
 refine zC 2 rfl (cB (YI _ Y0) rfl RX rfl) (zF 3 rfl kO rfl (zL 4 0 (.sl none 4 (List.map aQ x0.Locs)) rfl fM rfl rfl rfl ?_))
 obtain⟨y1,Y1,m⟩:=aC m
 refine zC 5 rfl (cB (MM _ Y1) rfl EQ rfl) (zF 6 rfl oL rfl (zE 7 rfl (aJ 0 (bK { x0 with Man:=y0}) u rfl rfl rfl rfl zS rfl rfl λK2=>⟨⟨λe=>absurd e (by decide),trivial⟩, ?_⟩)))
 refine zF 8 rfl kO rfl (zE 9 rfl (aJ 0 (bK { { x0 with Man:=y0} with Locs:=y1}) K2 rfl rfl rfl rfl pT rfl rfl λK4=>⟨⟨λe=>absurd e (by decide),trivial⟩, ?_⟩))
 refine zX (qk (f:=VM 29 _ _ _ _ _ _ _ _ _) K4 rfl (v0 (vl 0 (.agg (bK { { x0 with Man:=y0} with Locs:=y1})) sO rfl rfl rfl (bV (eD (List.map bK ([{ { x0 with Man:=y0} with Locs:=y1}]:List aH)) wJ rfl rfl rfl rfl) ?_))))
 obtain⟨z0,Z0,m⟩:=aC m
 exact ve λu=>fS (c:=bK) 1 Z0 wJ rfl sP rfl eC rfl rfl O0 u rfl λag1 O1 K5=>qk K5 rfl (v0 (fB m ag1 O1 (nD [1,2,3] rfl rfl (.k4 .nil))))
 exact v0 (mL m ag0 O0 (lx (.k4 .nil)))
 rintro ag2 ⟨r0,r1⟩ t0 m
 refine vs (v0 (vs (vs (v0 (rE (FG (.obj 99 (fl cV ([]:List aS) g0.sp)) 6 (aZ g0) (fP _)) (pB m (σ:=(List aS)×Int) (τ:=dC) (λg s=> [(jR g s.1),(dH ag2 r0),(some k5,.obj 30 (gO)),(some k2,.obj 30 (aF p0))]) (λg s=>bM g 3 (s.1:List aS).length) (λg s=>.c 1 (.ptr k2 0) (.c 2 (.ptr k5 0) (.c 3 (aZ ag2) (.c 6 (aZ g) (.c 7 (nZ s.2) .nil))))) g0 (bM.g0 3) (lx (.k5 .nil)) ?_ ?_))))))
 rintro ag3 ⟨q2,q3⟩ x O2 m
 replace m:CY w p0 q2 q3=some x:=m
 unfold CY at m
 refine vs (vs (v0 (dP fK rfl rfl (vl 3 _ jN rfl rfl rfl (cY qN rfl (v0 ?_))))))
 apply vi m <;> intro c1 m
 refine v0 (vs (v0 (vs (v0 (dP fK rfl rfl (vl 3 _ jN rfl rfl rfl (vx m jY rfl rfl λx1 _ m=>va (.agg (cV x1)) CL rfl rfl (ve λu=>bG ([nZ 0,nZ 0,sZ]) u u6 rfl rfl λk235 K7=>qk K7 rfl (ve λu=>aJ 0 (cV x1) u rfl rfl rfl rfl L2 rfl rfl λK8=>qk K8 rfl (vs (v0 (dP mY rfl rfl (vl 0 _ fM rfl rfl rfl (vk MM EQ m rfl rfl λy2 m=>dP mY rfl rfl (ve λu=>aJ 0 (cV { x1 with Locs:=y2}) u rfl rfl rfl rfl pT rfl rfl λK9=>qk K9 rfl (v0 (vl 0 (.agg (cV { x1 with Locs:=y2})) CL rfl rfl rfl (bV (eD (List.map cV ([{ x1 with Locs:=y2}]:List aS)) pC rfl rfl rfl rfl) ?_))))))))))))))))))
 obtain⟨z1,Z1,m⟩:=aC m
 exact ve λu=>fS (c:=cV) 1 Z1 pC rfl u6 rfl fY rfl rfl O2 u rfl λag4 O3 K10=>qk K10 rfl (v0 (fB m ag4 O3 (nD [1,2,3,4] rfl rfl (.k5 .nil))))
 exact v0 (mL m ag3 O2 (lx (.k5 .nil)))
 rintro ag5 ⟨r2,r3⟩ t1 m
 refine vs (v0 (vs (v0 (vz [(10,some k2,.obj 30 (aF p0))] mixed (λu=>⟨λ_=>aK 3 u rfl,trivial⟩) λu=>zC 0 rfl (eZ (aw _ _ _) rfl) (zF 1 rfl eG rfl (zL 2 0 (.sl none 35 (List.map aI p0.Chunks)) rfl eO rfl rfl rfl (zC 4 rfl (eZ (aw _ _ _) rfl) (zC 5 rfl (eZ (.sc (.slice _ _ _)) rfl) (zF 6 rfl iR rfl (zL 7 0 (.sl none 4 (List.map cS p0.Vols)) rfl kJ rfl rfl rfl (zF 9 rfl dQ rfl ?_)))))))))))
 obtain⟨_,Y2,m⟩:=aC m
 refine zE 3 rfl (cR (R8 _ Y2) rfl MO rfl ?_)
 rintro x h' ⟨ag6,O4,K11,rfl,rfl⟩
 rw[iO]
 refine⟨⟨λ_=>aK 4 (bQ.co u K11) rfl,trivial⟩, ?_⟩
 obtain⟨z2,Z2,m⟩:=aC m
 refine zE 8 rfl (BY (c:=cS) Z2 GA rfl PM rfl eS rfl (bQ.co u K11) rfl λag7 O5 K12=>⟨⟨λ_=>aK 5 K12 rfl,trivial⟩, ?_⟩)
 refine zE 10 rfl (aJ 5 ([nZ p0.Seq,aZ ag2,.sl none 35 (List.map aI p0.Chunks),.sl none 3 (List.map cV p0.Exps),.sl none 4 (List.map cS p0.Vols)]) K12 rfl rfl (cG rfl) (cE (bZ _ _ _) rfl) F9 rfl rfl λK13=>⟨⟨λe=>absurd e (by decide),trivial⟩, ?_⟩)
 refine zF 11 rfl eG rfl (zE 12 rfl (aJ 5 ([nZ p0.Seq,aZ ag2,aZ ag6,.sl none 3 (List.map cV p0.Exps),.sl none 4 (List.map cS p0.Vols)]) K13 rfl rfl (cG rfl) (cE (bZ _ _ _) rfl) CC rfl rfl λK14=>⟨⟨λe=>absurd e (by decide),trivial⟩, ?_⟩))
 refine zF 13 rfl fK rfl (zE 14 rfl (aJ 5 ([nZ p0.Seq,aZ ag2,aZ ag6,aZ ag5,.sl none 4 (List.map cS p0.Vols)]) K14 rfl rfl (cG rfl) (cE (bZ _ _ _) rfl) LM rfl rfl λK15=>⟨⟨λe=>absurd e (by decide),trivial⟩, ?_⟩))
 refine zF 15 rfl iR rfl (zE 16 rfl (aJ 5 ([nZ p0.Seq,aZ ag2,aZ ag6,aZ ag5,aZ ag7]) K15 rfl rfl (cG rfl) (cE (bZ _ _ _) rfl) PK rfl rfl λK16=>⟨⟨λe=>absurd e (by decide),trivial⟩, ?_⟩))
 refine zX (qk (f:=.c 66 _ (.c 65 _ (.c 64 _ (.c 62 _ (.c 57 _ (.c 63 _ (PF 61 _ _ _ _ (.c 56 _ (.c 55 _ (.c 54 _ _)))))))))) K16 rfl (vs (v0 (vl 5 (.agg ([nZ p0.Seq,aZ ag2,aZ ag6,aZ ag5,aZ ag7])) eP rfl rfl rfl (ve λu=>aJ 4 ([nZ p0.Seq,aZ ag2,aZ ag6,aZ ag5,aZ ag7]) u rfl rfl rfl (by repeat (first | exact rfl | refine cE (iE _ _ _) ?_ | refine cE (bZ _ _ _) ?_ | refine cE (fV _ _ _ _) ?_ | refine cE rfl ?_)) kX rfl rfl λK17=>qk K17 rfl ?_)))))
 refine v0 ?_
 cases m
 exact vr λu=>dZ.of1 (.inl rfl) (qT (.agg ([nZ p0.Seq,aZ ag2,aZ ag6,aZ ag5,aZ ag7])) eP rfl (aX 4 u rfl) rfl) (bJ u [3,1,2,0] rfl).2 (bB.refl _ _) ⟨ag2,t0,ag6,O4,ag5,t1,ag7,O5,(bJ u [3,1,2,0] rfl).1,rfl,rfl⟩
def QI (m:Nat) (p0:bE) (p1:bE):Option (Bool):=
 if (p0.Vol !=p1.Vol)=true then (some (decide (p0.Vol < p1.Vol))) else if (p0.File !=p1.File)=true then (some (decide (p0.File < p1.File))) else if (p0.Off !=p1.Off)=true then (some (decide (p0.Off < p1.Off))) else some (decide (p0.Len < p1.Len))
theorem aE3 {u:Nat} {p0:bE} {p1:bE} {o:Bool} (h:aE) (m:QI u p0 p1=some o):
 aL Tryz.prog 191 [.agg (aQ p0),.agg (aQ p1)] h (λr h'=>r= .sc (.bool o)∧h'=h):=by
 refine fT 40 [.tmp 4] Tryz.func191 rfl rfl rfl rfl ?_
 unfold QI at m
 refine v (hX rfl rfl λk2 K3=>hX rfl rfl λk5 K6=>v (vl 1 _ cD rfl rfl rfl (vl 0 _ cD rfl rfl rfl (v ?_))))
 apply vi m <;> intro c0 m
 refine v (vl 1 _ cD rfl rfl rfl (vl 0 _ cD rfl rfl rfl (v ?_)))
 cases m
 exact eA rfl
 refine v (v (vl 1 _ cD rfl rfl rfl (vl 0 _ cD rfl rfl rfl (v ?_))))
 apply vi m <;> intro c1 m
 refine v (vl 1 _ cD rfl rfl rfl (vl 0 _ cD rfl rfl rfl (v ?_)))
 cases m
 exact eA rfl
 refine v (v (vl 1 _ cD rfl rfl rfl (vl 0 _ cD rfl rfl rfl (v ?_))))
 apply vi m <;> intro c2 m
 refine v (vl 1 _ cD rfl rfl rfl (vl 0 _ cD rfl rfl rfl (v ?_)))
 cases m
 exact eA rfl
 refine v (v (vl 1 _ cD rfl rfl rfl (vl 0 _ cD rfl rfl rfl (v ?_))))
 cases m
 exact eA rfl
theorem Z7:aP Tryz.prog 191=true:=by kernel_rfl
def tU (m:Nat) (p0:List bE) (p1:bE) (q0:Int):Option (Lp (Int) ((List bE))):=
 after (if (decide (q0 < (p0.length:Int)))=true then ((ix p0 q0).bind λx0=>(QI m x0 p1).bind λy0=>some (.brk y0)) else some (.brk false):Option (Lp (Bool) (Lp (Int) ((List bE))))) λj0=>if j0=true then (some (.go (IntKind.wrap .i64 (q0+1)))) else some (.brk q0)
def G4 (m:Nat) (p0:List bE) (p1:bE):Option ((List bE)):=
 after (aU (λs=>tU m p0 p1 s) m 0) λr0=>(slc p0 0 r0).bind λx0=>(app ([]:List bE) x0).bind λz0=>(app z0 ([p1]:List bE)).bind λz1=>(slc p0 r0 (p0).length).bind λx1=>(app z1 x1).bind λz2=>some z2
theorem UJ {w:Nat} {p0:List bE} {p1:bE} {o:(List bE)} (h:aE) (m:G4 w p0 p1=some o):
 aL Tryz.prog 185 [.sl none 4 (List.map aQ p0),.agg (aQ p1)] h (λr h'=>r= .sl none 4 (List.map aQ o)∧h'=h):=by
 refine fT 34 [.tmp 4] Tryz.func185 rfl rfl rfl rfl ?_
 unfold G4 at m
 refine v (hX rfl rfl λk2 K3=>v (vs (kD m (σ:=Int) (λs=> [(some k2,.obj 81 (aQ p1))]) (λs=>.c 0 (.sl none 4 (List.map aQ p0)) (.c 3 (.ptr k2 0) (.c 5 (nZ s) .nil))) (lx (.k3 .nil)) ?_ ?_)))
 rintro _ q0 x m
 replace m:tU w p0 p1 q0=some x:=m
 unfold tU at m
 refine vs (vs (fQ m (σ:=Bool) (λs=> [(some k2,.obj 81 (aQ p1))]) (λs=>.c 0 (.sl none 4 (List.map aQ p0)) (.c 3 (.ptr k2 0) (.c 5 (nZ q0) (.c 18 (.sc (.bool s)) .nil)))) (λx m=> ?_) ?_))
 refine v (vq (by kernel_rfl) (cY jO rfl ?_))
 apply vi m <;> intro b0 m
 rw[b0]
 exact vx m lA rfl rfl λx0 _ m=>va (.agg (aQ x0)) oM rfl rfl (vl 0 (.agg (aQ p1)) oM rfl rfl rfl (vk aE3 Z7 m rfl rfl λ_ m=>gJ m))
 rw[b0]
 exact gJ m
 rintro _ j0 m
 refine v ?_
 apply vi m <;> intro c0 m
 exact v (v (v (gY m)))
 exact v (EC m)
 rintro _ r0 m
 refine v (v (vz [(1000000,some k2,.obj 81 (aQ p1))] mixed (λu=>⟨λ_=>aK 0 u rfl,trivial⟩) λu=>zC 0 rfl (eZ (.sc (.slice _ _ _)) rfl) (zC 1 rfl (eZ (.sl _ _ _) rfl) (zI 2 rfl rfl ?_))))
 obtain⟨_,X0,m⟩:=aC m
 refine zC 3 rfl (pP X0 lA rfl rfl rfl rfl) (zL 5 0 (.agg (aQ p1)) rfl oM rfl rfl rfl (zC 6 rfl (eD (List.map aQ ([p1]:List bE)) pF rfl rfl rfl rfl) ?_))
 obtain⟨z0,Z0,m⟩:=aC m
 refine zE 4 rfl (oF (c:=aQ) Z0 pF rfl rfl u nofun rfl λtg0 t0 K0=>⟨⟨λ_=>aK 1 K0 rfl,trivial⟩, ?_⟩)
 obtain⟨z1,Z1,m⟩:=aC m
 refine zE 7 rfl (e8 (c:=aQ) 0 Z1 pF rfl rfl rfl t0 K0 rfl λtg1 t1 K1=>⟨⟨λ_=>aK 1 K1 rfl,trivial⟩, ?_⟩)
 refine zC 8 rfl (hU (ow _ _ _) rfl) (zX (qk (f:=.c 6 _ (.c 28 _ (.c 25 _ (.c 27 _ (.c 26 _ (PF 24 _ _ _ _ _)))))) K1 rfl (v ?_)))
 obtain⟨_,X1,m⟩:=aC m
 refine bV (pP X1 lA rfl rfl rfl rfl) ?_
 obtain⟨z2,Z2,m⟩:=aC m
 refine ve λu=>e8 (c:=aQ) 0 Z2 pF rfl rfl rfl t1 u rfl λtg2 t2 K2=>qk K2 rfl (v ?_)
 obtain rfl:=eU m
 exact vr λu=>dZ.of1 (.inl rfl) (f0 _ _ (ow _ _ _) rfl) (aW (List.nil_sublist _) u).1 ((eQ _ 0 t2 u rfl)) ⟨rfl,rfl⟩
theorem NE:aP Tryz.prog 185=true:=by kernel_rfl
def tV (m:Nat) (p0:List bE) (p1:Int) (q0:List bE) (q1:Int):Option (Lp ((List bE)×Int) ((List bE))):=
 if (decide (q1 < (p0.length:Int)))=true then ((ix p0 q1).bind λx0=>after (if (x0.Vol !=p1)=true then ((ix p0 q1).bind λx1=>(app q0 ([x1]:List bE)).bind λz0=>some (.brk z0)) else some (.brk q0):Option (Lp ((List bE)) (Lp ((List bE)×Int) ((List bE))))) λj0=>some (.go (j0,IntKind.wrap .i64 (q1+1)))) else some (.brk (q0,q1))
def G5 (m:Nat) (p0:List bE) (p1:Int):Option ((List bE)):=
 after (aU (λs=>tV m p0 p1 s.1 s.2) m ([],0)) λ⟨r0,r1⟩=>some r0
theorem UK {w:Nat} {p0:List bE} {p1:Int} {o:(List bE)} (h:aE) (m:G5 w p0 p1=some o):
 aL Tryz.prog 157 [.sl none 4 (List.map aQ p0),nZ p1] h (λr h'=>r= .sl none 4 (List.map aQ o)∧h'=h):=by
 refine fT 28 [.tmp 4] Tryz.func157 rfl rfl rfl rfl ?_
 unfold G5 at m
 refine v (v (v (rE (FG (.tok 81 4 (([]:List bE).length*4)) 5 (ow none 4 (List.map aQ [])) (jD _ _)) (pB m (σ:=(List bE)×Int) (τ:=Option bY) (λg s=> [(g,.tok 81 4 ((s.1:List bE).length*4))]) (λg s=>(g=none→s.1= [])) (λg s=>.c 0 (.sl none 4 (List.map aQ p0)) (.c 1 (nZ p1) (.c 5 (ow g 4 (List.map aQ s.1)) (.c 6 (nZ s.2) .nil)))) none (λ_=>rfl) (lx (.k4 .nil)) ?_ ?_))))
 rintro tg0 ⟨q0,q1⟩ x t0 m
 replace m:tV w p0 p1 q0 q1=some x:=m
 unfold tV at m
 refine v (cY jO rfl (v ?_))
 apply vi m <;> intro c0 m
 refine v (v (v (vx m lA rfl rfl λ_ _ m=>qM m (σ:=(List bE)) (τ:=Option bY) (λg s=> [(g,.tok 81 4 ((s:List bE).length*4))]) (λg s=>(g=none→s= [])) (λg s=>.c 0 (.sl none 4 (List.map aQ p0)) (.c 1 (nZ p1) (.c 5 (ow g 4 (List.map aQ s)) (.c 6 (nZ q1) .nil)))) (λx m=> ?_) ?_)))
 refine v ?_
 apply vi m <;> intro c1 m
 refine v (vx m lA rfl rfl λx0 _ m=>va (.agg (aQ x0)) oM rfl rfl (bV (eD (List.map aQ ([x0]:List bE)) pF rfl rfl rfl rfl) ?_))
 obtain⟨z0,Z0,m⟩:=aC m
 exact ve λu=>e8 (c:=aQ) 0 Z0 pF rfl rfl rfl t0 u rfl λtg1 t1 K0=>qk K0 rfl (fB m tg1 t1 (lx (.k4 .nil)))
 exact v (fB m tg0 t0 (lx (.k4 .nil)))
 rintro tg2 j0 t2 m
 exact v (fB m tg2 t2 (lx (.k4 .nil)))
 exact v (mL m tg0 t0 (lx (.k4 .nil)))
 rintro tg3 ⟨r0,r1⟩ t3 m
 refine v (v ?_)
 obtain rfl:=eU m
 exact vr λu=>dZ.of1 (.inl rfl) (f0 _ _ (ow _ _ _) rfl) (aW (List.nil_sublist _) u).1 ((eQ _ 0 t3 u rfl)) ⟨rfl,rfl⟩
theorem NF:aP Tryz.prog 157=true:=by kernel_rfl
def Z8 (m:Nat) (p0:aN):Option (aN):=
 (GR m p0.Snap.Man).bind λy0=>(wO m p0.Snap.Locs).bind λy1=>(JN m ({ { p0 with Snap:= { p0.Snap with Man:=y0}} with Snap:= { { p0 with Snap:= { p0.Snap with Man:=y0}}.Snap with Locs:=y1}}.Chunks)).bind λy2=>(app ([]:List aO) ({ { p0 with Snap:= { p0.Snap with Man:=y0}} with Snap:= { { p0 with Snap:= { p0.Snap with Man:=y0}}.Snap with Locs:=y1}}.Items)).bind λz0=>some ({ Kind:= { { { p0 with Snap:= { p0.Snap with Man:=y0}} with Snap:= { { p0 with Snap:= { p0.Snap with Man:=y0}}.Snap with Locs:=y1}} with Chunks:=y2}.Kind,Snap:=({ Seq:=({ { { p0 with Snap:= { p0.Snap with Man:=y0}} with Snap:= { { p0 with Snap:= { p0.Snap with Man:=y0}}.Snap with Locs:=y1}} with Chunks:=y2}.Snap).Seq,Man:=({ Name:=(({ { { p0 with Snap:= { p0.Snap with Man:=y0}} with Snap:= { { p0 with Snap:= { p0.Snap with Man:=y0}}.Snap with Locs:=y1}} with Chunks:=y2}.Snap).Man).Name,Parts:=(({ { { p0 with Snap:= { p0.Snap with Man:=y0}} with Snap:= { { p0 with Snap:= { p0.Snap with Man:=y0}}.Snap with Locs:=y1}} with Chunks:=y2}.Snap).Man).Parts}:aY),Locs:=({ { { p0 with Snap:= { p0.Snap with Man:=y0}} with Snap:= { { p0 with Snap:= { p0.Snap with Man:=y0}}.Snap with Locs:=y1}} with Chunks:=y2}.Snap).Locs}:aH),Chunks:= { { { p0 with Snap:= { p0.Snap with Man:=y0}} with Snap:= { { p0 with Snap:= { p0.Snap with Man:=y0}}.Snap with Locs:=y1}} with Chunks:=y2}.Chunks,Seq:= { { { p0 with Snap:= { p0.Snap with Man:=y0}} with Snap:= { { p0 with Snap:= { p0.Snap with Man:=y0}}.Snap with Locs:=y1}} with Chunks:=y2}.Seq,Vol:= { { { p0 with Snap:= { p0.Snap with Man:=y0}} with Snap:= { { p0 with Snap:= { p0.Snap with Man:=y0}}.Snap with Locs:=y1}} with Chunks:=y2}.Vol,Items:=z0}:aN)
theorem W92 {w:Nat} {p0:aN} {o:aN} (h:aE) (m:Z8 w p0=some o):
 aL Tryz.prog 92 [.agg (aD p0)] h (λr h'=>r= .agg (aD o)∧h'=h):=by
 refine fT 26 [.cell 2 62] Tryz.func92 rfl rfl rfl rfl ?_
 unfold Z8 at m
 refine v (hX rfl rfl λk2 K3=>ve λu=>bG (xE) u LT rfl rfl λk5 K6=>qk K6 rfl (v (vz [(10,some k2,.obj 62 (aD p0))] mixed (λu=>⟨λ_=>aK 1 u rfl,trivial⟩) λu=>zF 0 rfl lB rfl (zF 1 rfl oL rfl (zL 2 0 (.agg (bC p0.Snap.Man)) rfl nU rfl rfl rfl ?_)))))
 obtain⟨y0,Y0,m⟩:=aC m
 refine zC 3 rfl (cB (YI _ Y0) rfl RX rfl) (zF 4 rfl lB rfl (zF 5 rfl kO rfl (zL 6 0 (.sl none 4 (List.map aQ p0.Snap.Locs)) rfl fM rfl rfl rfl ?_)))
 obtain⟨y1,Y1,m⟩:=aC m
 refine zC 7 rfl (cB (MM _ Y1) rfl EQ rfl) (zF 8 rfl lB rfl (zF 9 rfl oL rfl (zE 10 rfl (aJ 1 (aD { p0 with Snap:= { p0.Snap with Man:=y0}}) u rfl rfl rfl rfl zS rfl rfl λK0=>⟨⟨λe=>absurd e (by decide),trivial⟩, ?_⟩))))
 refine zF 11 rfl lB rfl (zF 12 rfl kO rfl (zE 13 rfl (aJ 1 (aD { { p0 with Snap:= { p0.Snap with Man:=y0}} with Snap:= { { p0 with Snap:= { p0.Snap with Man:=y0}}.Snap with Locs:=y1}}) K0 rfl rfl rfl rfl pT rfl rfl λK1=>⟨⟨λe=>absurd e (by decide),trivial⟩, ?_⟩)))
 refine zX (qk (f:=I8 15 _ _ _ _ _ _ _ _ _ _ _ _ _) K1 rfl (v (v (vz [(8,some k2,.obj 62 (aD { { p0 with Snap:= { p0.Snap with Man:=y0}} with Snap:= { { p0 with Snap:= { p0.Snap with Man:=y0}}.Snap with Locs:=y1}}))] mixed (λu=>⟨λ_=>aK 1 u rfl,trivial⟩) λu=>zF 0 rfl mX rfl (zL 1 0 (.sl none 35 (List.map aI ({ { p0 with Snap:= { p0.Snap with Man:=y0}} with Snap:= { { p0 with Snap:= { p0.Snap with Man:=y0}}.Snap with Locs:=y1}}.Chunks))) rfl eO rfl rfl rfl ?_)))))
 obtain⟨y2,Y2,m⟩:=aC m
 refine zC 2 rfl (cB (aD2 _ Y2) rfl MO rfl) (zC 3 rfl (eZ (.sc (.slice _ _ _)) rfl) (zF 4 rfl gK rfl (zL 5 0 (.sl none 37 (List.map aV ({ { p0 with Snap:= { p0.Snap with Man:=y0}} with Snap:= { { p0 with Snap:= { p0.Snap with Man:=y0}}.Snap with Locs:=y1}}.Items))) rfl kY rfl rfl rfl (zF 7 rfl mX rfl ?_))))
 obtain⟨z0,Z0,m⟩:=aC m
 refine zE 6 rfl (oF (c:=aV) Z0 LN rfl rfl u nofun rfl λtg0 t0 K2=>⟨⟨λ_=>aK 2 K2 rfl,trivial⟩, ?_⟩)
 refine zE 8 rfl (aJ 2 (aD { { { p0 with Snap:= { p0.Snap with Man:=y0}} with Snap:= { { p0 with Snap:= { p0.Snap with Man:=y0}}.Snap with Locs:=y1}} with Chunks:=y2}) K2 rfl rfl rfl rfl CC rfl rfl λK4=>⟨⟨λe=>absurd e (by decide),trivial⟩, ?_⟩)
 refine zF 9 rfl gK rfl (zE 10 rfl (aJ 2 ([nZ ({ { { p0 with Snap:= { p0.Snap with Man:=y0}} with Snap:= { { p0 with Snap:= { p0.Snap with Man:=y0}}.Snap with Locs:=y1}} with Chunks:=y2}.Kind),nZ (({ { { p0 with Snap:= { p0.Snap with Man:=y0}} with Snap:= { { p0 with Snap:= { p0.Snap with Man:=y0}}.Snap with Locs:=y1}} with Chunks:=y2}.Snap).Seq),.sc (.string ((({ { { p0 with Snap:= { p0.Snap with Man:=y0}} with Snap:= { { p0 with Snap:= { p0.Snap with Man:=y0}}.Snap with Locs:=y1}} with Chunks:=y2}.Snap).Man).Name)),.sl none 3 (List.map bT ((({ { { p0 with Snap:= { p0.Snap with Man:=y0}} with Snap:= { { p0 with Snap:= { p0.Snap with Man:=y0}}.Snap with Locs:=y1}} with Chunks:=y2}.Snap).Man).Parts)),.sl none 4 (List.map aQ (({ { { p0 with Snap:= { p0.Snap with Man:=y0}} with Snap:= { { p0 with Snap:= { p0.Snap with Man:=y0}}.Snap with Locs:=y1}} with Chunks:=y2}.Snap).Locs)),.sl none 35 (List.map aI ({ { { p0 with Snap:= { p0.Snap with Man:=y0}} with Snap:= { { p0 with Snap:= { p0.Snap with Man:=y0}}.Snap with Locs:=y1}} with Chunks:=y2}.Chunks)),nZ ({ { { p0 with Snap:= { p0.Snap with Man:=y0}} with Snap:= { { p0 with Snap:= { p0.Snap with Man:=y0}}.Snap with Locs:=y1}} with Chunks:=y2}.Seq),nZ ({ { { p0 with Snap:= { p0.Snap with Man:=y0}} with Snap:= { { p0 with Snap:= { p0.Snap with Man:=y0}}.Snap with Locs:=y1}} with Chunks:=y2}.Vol),ow tg0 37 (List.map aV z0)]) K4 rfl rfl (jE rfl) (pO _ _ _) aCL rfl rfl λK5=>⟨⟨λe=>absurd e (by decide),trivial⟩, ?_⟩))
 refine zX (qk (f:=.c 24 _ (.c 22 _ (.c 23 _ (fq6 21 _ _ _ _ _ _ _)))) K5 rfl (v (vl 2 (.agg ([nZ ({ { { p0 with Snap:= { p0.Snap with Man:=y0}} with Snap:= { { p0 with Snap:= { p0.Snap with Man:=y0}}.Snap with Locs:=y1}} with Chunks:=y2}.Kind),nZ (({ { { p0 with Snap:= { p0.Snap with Man:=y0}} with Snap:= { { p0 with Snap:= { p0.Snap with Man:=y0}}.Snap with Locs:=y1}} with Chunks:=y2}.Snap).Seq),.sc (.string ((({ { { p0 with Snap:= { p0.Snap with Man:=y0}} with Snap:= { { p0 with Snap:= { p0.Snap with Man:=y0}}.Snap with Locs:=y1}} with Chunks:=y2}.Snap).Man).Name)),.sl none 3 (List.map bT ((({ { { p0 with Snap:= { p0.Snap with Man:=y0}} with Snap:= { { p0 with Snap:= { p0.Snap with Man:=y0}}.Snap with Locs:=y1}} with Chunks:=y2}.Snap).Man).Parts)),.sl none 4 (List.map aQ (({ { { p0 with Snap:= { p0.Snap with Man:=y0}} with Snap:= { { p0 with Snap:= { p0.Snap with Man:=y0}}.Snap with Locs:=y1}} with Chunks:=y2}.Snap).Locs)),.sl none 35 (List.map aI ({ { { p0 with Snap:= { p0.Snap with Man:=y0}} with Snap:= { { p0 with Snap:= { p0.Snap with Man:=y0}}.Snap with Locs:=y1}} with Chunks:=y2}.Chunks)),nZ ({ { { p0 with Snap:= { p0.Snap with Man:=y0}} with Snap:= { { p0 with Snap:= { p0.Snap with Man:=y0}}.Snap with Locs:=y1}} with Chunks:=y2}.Seq),nZ ({ { { p0 with Snap:= { p0.Snap with Man:=y0}} with Snap:= { { p0 with Snap:= { p0.Snap with Man:=y0}}.Snap with Locs:=y1}} with Chunks:=y2}.Vol),ow tg0 37 (List.map aV z0)])) pG rfl rfl rfl ?_)))
 refine ve λu=>aJ 1 ([nZ ({ { { p0 with Snap:= { p0.Snap with Man:=y0}} with Snap:= { { p0 with Snap:= { p0.Snap with Man:=y0}}.Snap with Locs:=y1}} with Chunks:=y2}.Kind),nZ (({ { { p0 with Snap:= { p0.Snap with Man:=y0}} with Snap:= { { p0 with Snap:= { p0.Snap with Man:=y0}}.Snap with Locs:=y1}} with Chunks:=y2}.Snap).Seq),.sc (.string ((({ { { p0 with Snap:= { p0.Snap with Man:=y0}} with Snap:= { { p0 with Snap:= { p0.Snap with Man:=y0}}.Snap with Locs:=y1}} with Chunks:=y2}.Snap).Man).Name)),.sl none 3 (List.map bT ((({ { { p0 with Snap:= { p0.Snap with Man:=y0}} with Snap:= { { p0 with Snap:= { p0.Snap with Man:=y0}}.Snap with Locs:=y1}} with Chunks:=y2}.Snap).Man).Parts)),.sl none 4 (List.map aQ (({ { { p0 with Snap:= { p0.Snap with Man:=y0}} with Snap:= { { p0 with Snap:= { p0.Snap with Man:=y0}}.Snap with Locs:=y1}} with Chunks:=y2}.Snap).Locs)),.sl none 35 (List.map aI ({ { { p0 with Snap:= { p0.Snap with Man:=y0}} with Snap:= { { p0 with Snap:= { p0.Snap with Man:=y0}}.Snap with Locs:=y1}} with Chunks:=y2}.Chunks)),nZ ({ { { p0 with Snap:= { p0.Snap with Man:=y0}} with Snap:= { { p0 with Snap:= { p0.Snap with Man:=y0}}.Snap with Locs:=y1}} with Chunks:=y2}.Seq),nZ ({ { { p0 with Snap:= { p0.Snap with Man:=y0}} with Snap:= { { p0 with Snap:= { p0.Snap with Man:=y0}}.Snap with Locs:=y1}} with Chunks:=y2}.Vol),ow tg0 37 (List.map aV z0)]) u rfl rfl rfl (by repeat (first | exact rfl | refine cE (iE _ _ _) ?_ | refine cE (bZ _ _ _) ?_ | refine cE (fV _ _ _ _) ?_ | refine cE rfl ?_)) wL rfl rfl λK7=>qk K7 rfl ?_
 refine v ?_
 cases m
 exact vr λu=>dZ.of1 (.inl rfl) (qT (.agg ([nZ ({ { { p0 with Snap:= { p0.Snap with Man:=y0}} with Snap:= { { p0 with Snap:= { p0.Snap with Man:=y0}}.Snap with Locs:=y1}} with Chunks:=y2}.Kind),nZ (({ { { p0 with Snap:= { p0.Snap with Man:=y0}} with Snap:= { { p0 with Snap:= { p0.Snap with Man:=y0}}.Snap with Locs:=y1}} with Chunks:=y2}.Snap).Seq),.sc (.string ((({ { { p0 with Snap:= { p0.Snap with Man:=y0}} with Snap:= { { p0 with Snap:= { p0.Snap with Man:=y0}}.Snap with Locs:=y1}} with Chunks:=y2}.Snap).Man).Name)),.sl none 3 (List.map bT ((({ { { p0 with Snap:= { p0.Snap with Man:=y0}} with Snap:= { { p0 with Snap:= { p0.Snap with Man:=y0}}.Snap with Locs:=y1}} with Chunks:=y2}.Snap).Man).Parts)),.sl none 4 (List.map aQ (({ { { p0 with Snap:= { p0.Snap with Man:=y0}} with Snap:= { { p0 with Snap:= { p0.Snap with Man:=y0}}.Snap with Locs:=y1}} with Chunks:=y2}.Snap).Locs)),.sl none 35 (List.map aI ({ { { p0 with Snap:= { p0.Snap with Man:=y0}} with Snap:= { { p0 with Snap:= { p0.Snap with Man:=y0}}.Snap with Locs:=y1}} with Chunks:=y2}.Chunks)),nZ ({ { { p0 with Snap:= { p0.Snap with Man:=y0}} with Snap:= { { p0 with Snap:= { p0.Snap with Man:=y0}}.Snap with Locs:=y1}} with Chunks:=y2}.Seq),nZ ({ { { p0 with Snap:= { p0.Snap with Man:=y0}} with Snap:= { { p0 with Snap:= { p0.Snap with Man:=y0}}.Snap with Locs:=y1}} with Chunks:=y2}.Vol),ow tg0 37 (List.map aV z0)])) pG rfl (aX 1 u rfl) rfl) (aW (List.nil_sublist _) u).1 (bB.agg (.k8 (.cons ((eQ _ 0 t0 u rfl)) .nil))) ⟨rfl,rfl⟩
theorem aE4:aP Tryz.prog 92=true:=by kernel_rfl
def z7 (m:Nat) (p0:aA) (p1:Int) (p2:Int) (p3:Int):Option (Bool):=
 after (if (decide (0≤p1))=true then (if (decide (p1 < (p0.Vols.length:Int)))=true then ((ix p0.Vols p1).bind λx0=>if (x0.State==p2)=true then (some (.brk true)) else (ix p0.Vols p1).bind λx1=>some (.brk (x1.State==p3))) else some (.brk false)) else some (.brk false):Option (Lp (Bool) (Bool))) λj0=>some j0
theorem UL {w:Nat} {p0:aA} {p1:Int} {p2:Int} {p3:Int} {o:Bool} (h:aE) {p0K:bY} {gS:dC} (ok_Snaps:bM gS 4 p0.Snaps.length) {gC:dC} (oC:bM gC 35 p0.Chunks.length) {gE:dC} (oE:bM gE 3 p0.Exps.length) {gV:dC} (oV:bM gV 4 p0.Vols.length) (K0:bQ h (hC p0K p0 gS gC gE gV)) (m:z7 w p0 p1 p2 p3=some o):
 aL Tryz.prog 155 [.ptr p0K 0,nZ p1,nZ p2,nZ p3] (hp h (hC p0K p0 gS gC gE gV)) (λr h'=>bQ h (hC p0K p0 gS gC gE gV)∧r= .sc (.bool o)∧h'=hp h (hC p0K p0 gS gC gE gV)):=by
 refine B9 K0 44 [.tmp 8] Tryz.func155 rfl rfl rfl rfl ?_
 unfold z7 at m
 refine vs (v0 (vs (fQ m (σ:=Bool) (λs=>(hC p0K p0 gS gC gE gV)) (λs=>.c 8 (.sc (.bool s)) .nil) (λx m=> ?_) ?_)))
 refine v0 ?_
 apply vi m <;> intro b0 m
 rw[b0]
 refine kQ rfl (dP iR rfl rfl (vl 0 (aZ gV) kJ rfl rfl rfl (bV (eR xX oV rfl) ?_)))
 apply vi m <;> intro b1 m
 rw[b1]
 refine kQ rfl (dP iR rfl rfl (vl 0 (aZ gV) kJ rfl rfl rfl ?_))
 obtain⟨x0,X0,m⟩:=aC m
 refine bV (dJ X0 pD oV rfl rfl) (bV (cZ (bM.ne oV X0) rH rfl rfl) (vn (λu=>eT (fo:=2) (nZ x0.State) X0 eS oV cD rfl (aK 4 u rfl) (λ_=>rfl)) ?_))
 apply vi m <;> intro b2 m
 rw[b2]
 exact iZ m
 rw[b2]
 refine kQ rfl (dP iR rfl rfl (vl 0 (aZ gV) kJ rfl rfl rfl ?_))
 obtain⟨x1,X1,m⟩:=aC m
 exact bV (dJ X1 pD oV rfl rfl) (bV (cZ (bM.ne oV X1) rH rfl rfl) (vn (λu=>eT (fo:=2) (nZ x1.State) X1 eS oV cD rfl (aK 4 u rfl) (λ_=>rfl)) (iZ m)))
 rw[b1]
 exact iZ m
 rw[b0]
 exact iZ m
 rintro _ j0 m
 refine v0 ?_
 obtain rfl:=eU m
 exact vr λu=>dZ.of1 (.inl rfl) (f0 _ _ (.sc (.bool _)) rfl) (bJ u [0,1,2,3,4] rfl).2 (bB.refl _ _) ⟨(bJ u [0,1,2,3,4] rfl).1,rfl,rfl⟩
theorem NG:aP Tryz.prog 155=true:=by kernel_rfl
def qB (m:Nat) (p0:List aB) (p1:aB) (q0:Int):Option (Lp (Int) ((List aB))):=
 after (if (decide (q0 < (p0.length:Int)))=true then ((ix p0 q0).bind λx0=>(MC m x0.Id p1.Id).bind λy0=>some (.brk y0)) else some (.brk false):Option (Lp (Bool) (Lp (Int) ((List aB))))) λj0=>if j0=true then (some (.go (IntKind.wrap .i64 (q0+1)))) else some (.brk q0)
def E3 (m:Nat) (p0:List aB) (p1:aB):Option ((List aB)):=
 after (aU (λs=>qB m p0 p1 s) m 0) λr0=>after (if (decide (r0 < (p0.length:Int)))=true then ((ix p0 r0).bind λx0=>some (.brk (decide (x0.Id=p1.Id)))) else some (.brk false):Option (Lp (Bool) ((List aB)))) λj0=>if j0=true then ((A7 m p0).bind λy0=>(vK m p1.Data).bind λy1=>(ix y0 r0).bind λx1=>(ix (y0.set r0.toNat ({ x1 with Staged:=true})) r0).bind λx2=>some ((y0.set r0.toNat ({ x1 with Staged:=true})).set r0.toNat ({ x2 with Data:=y1}))) else (slc p0 0 r0).bind λx3=>(app ([]:List aB) x3).bind λz0=>(app z0 ([p1]:List aB)).bind λz1=>(slc p0 r0 (p0).length).bind λx4=>(app z1 x4).bind λz2=>some z2
theorem Z9 {w:Nat} {p0:List aB} {p1:aB} {o:(List aB)} (h:aE) (m:E3 w p0 p1=some o):
 aL Tryz.prog 153 [.sl none 35 (List.map aI p0),.agg (aI p1)] h (λr h'=>∃g:dC,bM g 35 o.length∧bQ h [(g.t,.obj 44 (fl aI o g.sp))]∧r=aZ g∧h'=hp h [(g.t,.obj 44 (fl aI o g.sp))]):=by
 refine fT 65 [.tmp 4] Tryz.func153 rfl rfl rfl rfl ?_
 unfold E3 at m
 refine vs (v0 (hX rfl rfl λk2 K3=>vs (v0 (vs (kD m (σ:=Int) (λs=> [(some k2,.obj 44 (aI p1))]) (λs=>.c 0 (.sl none 35 (List.map aI p0)) (.c 3 (.ptr k2 0) (.c 5 (nZ s) .nil))) (lx (.k3 .nil)) ?_ ?_)))))
 rintro _ q0 x m
 replace m:qB w p0 p1 q0=some x:=m
 unfold qB at m
 refine vs (vs (fQ m (σ:=Bool) (λs=> [(some k2,.obj 44 (aI p1))]) (λs=>.c 0 (.sl none 35 (List.map aI p0)) (.c 3 (.ptr k2 0) (.c 5 (nZ q0) (.c 21 (.sc (.bool s)) .nil)))) (λx m=> ?_) ?_))
 refine v0 (zM (by kernel_rfl) (cY jG rfl ?_))
 apply vi m <;> intro b0 m
 rw[b0]
 exact vx m fH rfl rfl λx0 _ m=>bV (o9 oI rfl rfl) (va (.agg (bH x0.Id)) fL rfl rfl (dP oI rfl rfl (vl 0 (.agg (bH p1.Id)) fL rfl rfl rfl (vk XL RQ m rfl rfl λ_ m=>gJ m))))
 rw[b0]
 exact gJ m
 rintro _ j0 m
 refine v0 ?_
 apply vi m <;> intro c0 m
 exact v0 (v0 (v0 (gY m)))
 exact v0 (EC m)
 rintro _ r0 m
 refine vs (vs (fQ m (σ:=Bool) (λs=> [(some k2,.obj 44 (aI p1))]) (λs=>.c 0 (.sl none 35 (List.map aI p0)) (.c 3 (.ptr k2 0) (.c 5 (nZ r0) (.c 37 (.sc (.bool s)) .nil)))) (λx m=> ?_) ?_))
 refine v0 (zM (by kernel_rfl) (cY jG rfl ?_))
 apply vi m <;> intro b1 m
 rw[b1]
 exact vx m fH rfl rfl λx1 _ m=>bV (o9 oI rfl rfl) (va (.agg (bH x1.Id)) fL rfl rfl (dP oI rfl rfl (vl 0 (.agg (bH p1.Id)) fL rfl rfl rfl (bV (vU EG RF u5 EF rfl rfl) (gJ m)))))
 rw[b1]
 exact gJ m
 rintro _ j1 m
 refine v0 ?_
 apply vi m <;> intro c1 m
 refine vs (v0 ?_)
 obtain⟨y0,Y0,m⟩:=aC m
 refine ve λu=>cR (R8 _ Y0) rfl MO rfl ?_
 rintro x h' ⟨ag0,O0,K0,rfl,rfl⟩
 refine qk (bQ.co u K0) (iO _ _ _) (vs (v0 (dP jP rfl rfl (vl 1 _ lL rfl rfl rfl (vk MN ER m rfl rfl λy1 m=> ?_)))))
 obtain⟨x2,X0,m⟩:=aC m
 refine bV (dJ X0 fH O0 rfl rfl) (bV (cZ (bM.ne O0 X0) oJ rfl rfl) (ve λu=>dA (fo:=32) ({ x2 with Staged:=true}:aB) 0 u X0 cL O0 rfl rfl rfl rfl (cU.refl _ _) VP rfl rfl λK1=>qk K1 rfl ?_))
 obtain⟨x3,X1,m⟩:=aC m
 refine bV (dJ X1 fH (bM.set O0) rfl rfl) (bV (cZ (bM.ne (bM.set O0) X1) jP rfl rfl) (ve λu=>dA (fo:=33) ({ x3 with Data:=y1}:aB) 0 u X1 cL (bM.set O0) rfl rfl rfl rfl (cU.refl _ _) CE rfl rfl λK2=>qk K2 rfl (vs (v0 (v0 ?_)))))
 cases m
 exact vr λu=>dZ.one (.inl rfl) (aW (h0:=h) (L':= [(dG ag0 ((y0.set r0.toNat ({ x2 with Staged:=true})).set r0.toNat ({ x3 with Data:=y1})))]) (.cons_cons _ (.cons _ (.refl _))) u).1 (bB.refl _ _) ⟨ag0,(bM.set (bM.set O0)),(aW (h0:=h) (L':= [(dG ag0 ((y0.set r0.toNat ({ x2 with Staged:=true})).set r0.toNat ({ x3 with Data:=y1})))]) (.cons_cons _ (.cons _ (.refl _))) u).2,rfl,rfl⟩
 refine v0 (vs (v0 (vs (v0 (vz [(1000000,some k2,.obj 44 (aI p1))] mixed (λu=>⟨λ_=>aK 0 u rfl,trivial⟩) λu=>zC 0 rfl (eZ (.sc (.slice _ _ _)) rfl) (zC 1 rfl (eZ (.sl _ _ _) rfl) (zI 2 rfl rfl ?_)))))))
 obtain⟨_,X2,m⟩:=aC m
 refine zC 3 rfl (pP X2 fH rfl rfl rfl rfl) (zL 5 0 (.agg (aI p1)) rfl nT rfl rfl rfl (zC 6 rfl (eD (List.map aI ([p1]:List aB)) lK rfl rfl rfl rfl) ?_))
 obtain⟨z0,Z0,m⟩:=aC m
 refine zE 4 rfl (BY (c:=aI) Z0 lK rfl oK rfl cL rfl u rfl λag1 O1 K4=>⟨⟨λ_=>aK 1 K4 rfl,trivial⟩, ?_⟩)
 obtain⟨z1,Z1,m⟩:=aC m
 refine zE 7 rfl (fS (c:=aI) 0 Z1 lK rfl oK rfl cL rfl rfl O1 K4 rfl λag2 O2 K5=>⟨⟨λ_=>aK 1 K5 rfl,trivial⟩, ?_⟩)
 refine zC 8 rfl (hU (aw _ _ _) rfl) (zX (qk (f:=.c 7 _ (.c 59 _ (.c 56 _ (.c 58 _ (.c 57 _ (PF 55 _ _ _ _ _)))))) K5 rfl (vs (v0 ?_))))
 obtain⟨_,X3,m⟩:=aC m
 refine bV (pP X3 fH rfl rfl rfl rfl) ?_
 obtain⟨z2,Z2,m⟩:=aC m
 refine ve λu=>fS (c:=aI) 0 Z2 lK rfl oK rfl cL rfl rfl O2 u rfl λag3 O3 K6=>qk K6 rfl (v0 ?_)
 obtain rfl:=eU m
 exact vr λu=>dZ.one (.inl rfl) (aW (h0:=h) (L':= [(dG ag3 z2)]) (.cons_cons _ (.cons _ (.refl _))) u).1 (bB.refl _ _) ⟨ag3,O3,(aW (h0:=h) (L':= [(dG ag3 z2)]) (.cons_cons _ (.cons _ (.refl _))) u).2,rfl,rfl⟩
theorem aAA:aP Tryz.prog 153=true:=by kernel_rfl
open Go.Vm
theorem aE5 {F:Nat} {c:aA} (hF:1000≤F) (h:Sm c):QH F c=some c:=by
 rw[← m14 (F:=F) hF h]
 rfl
theorem UM {n:Nat} (h:n < 1000000000):IntKind.wrap .u64 (n:Int)=n:=by
 have e:IntKind.wrap .u64 (n:Int)=(n:Int) % 18446744073709551616:=rfl
 rw[e]; omega
theorem QJ (p:Int):0≤IntKind.wrap .u64 p:=by
 have e:IntKind.wrap .u64 p=p % 18446744073709551616:=rfl
 rw[e]; omega
theorem QL (p:Int) {n:Nat} (h0:0 < n) (hn:n < 1000000000):∃j:Nat,j < n∧IntKind.wrap .i64 ((IntKind.wrap .u64 p).tmod (n:Int))=(j:Int):=by
 have h1:=QJ p
 generalize IntKind.wrap .u64 p=a at h1
 rw[Int.tmod_eq_emod_of_nonneg h1]
 have h2:0≤a % (n:Int):=Int.emod_nonneg _ (by omega)
 have h3:a % (n:Int) < n:=Int.emod_lt_of_pos _ (by omega)
 refine⟨(a % (n:Int)).toNat,by omega, ?_⟩
 rw[wr (by omega) (by omega)]
 omega
open Go.Vm
def tW (m:Nat) (p0:aA) (p1:Int) (q0:List aH) (q1:Int):Option (Lp ((List aH)×Int) (Bool×(List aH)×(List aB))):=
 if (decide (q1 < (p0.Snaps.length:Int)))=true then ((ix p0.Snaps q1).bind λx0=>after (if (x0.Seq !=p1)=true then ((ix p0.Snaps q1).bind λx1=>(app q0 ([x1]:List aH)).bind λz0=>some (.brk z0)) else some (.brk q0):Option (Lp ((List aH)) (Lp ((List aH)×Int) (Bool×(List aH)×(List aB))))) λj0=>some (.go (j0,IntKind.wrap .i64 (q1+1)))) else some (.brk (q0,q1))
def tX (m:Nat) (p0:aA) (r0:List aH) (q0:List aB) (q1:Int):Option (Lp ((List aB)×Int) (Bool×(List aH)×(List aB))):=
 if (decide (q1 < (p0.Chunks.length:Int)))=true then (after ((ix p0.Chunks q1).bind λx0=>(VV m ({ Seq:=p0.Seq,Snaps:=r0,Chunks:=p0.Chunks,Exps:=p0.Exps,Vols:=p0.Vols}:aA) x0.Id).bind λy0=>after (if (!y0)=true then (if ((({ { x0 with Staged:=false} with Data:=([]:List Int)}.Locs).length:Int)==0)=true then (some (.ret (.brk q0))) else some (.brk { { x0 with Staged:=false} with Data:=([]:List Int)})) else some (.brk x0):Option (Lp (aB) (Lp ((List aB)) (Lp ((List aB)×Int) (Bool×(List aH)×(List aB)))))) λj0=>(app q0 ([j0]:List aB)).bind λz0=>some (.brk z0):Option (Lp ((List aB)) (Lp ((List aB)×Int) (Bool×(List aH)×(List aB))))) λj1=>some (.go (j1,IntKind.wrap .i64 (q1+1)))) else some (.brk (q0,q1))
def CZ (m:Nat) (p0:aA) (p1:Int):Option (Bool×(List aH)×(List aB)):=
 after (aU (λs=>tW m p0 p1 s.1 s.2) m ([],0)) λ⟨r0,r1⟩=>if ((r0.length:Int)==(p0.Snaps.length:Int))=true then (some (false,p0.Snaps,p0.Chunks)) else after (aU (λs=>tX m p0 r0 s.1 s.2) m ([],0)) λ⟨r2,r3⟩=>some (true,r0,r2)
theorem aAB {w:Nat} {p0:aA} {p1:Int} {o:Bool×(List aH)×(List aB)} (h:aE) {p0K:bY} {gS:dC} (ok_Snaps:bM gS 4 p0.Snaps.length) {gC:dC} (oC:bM gC 35 p0.Chunks.length) {gE:dC} (oE:bM gE 3 p0.Exps.length) {gV:dC} (oV:bM gV 4 p0.Vols.length) (K0:bQ h (hC p0K p0 gS gC gE gV)) (m:CZ w p0 p1=some o):
 aL Tryz.prog 154 [.ptr p0K 0,nZ p1] (hp h (hC p0K p0 gS gC gE gV)) (λr h'=>∃g_Snaps':dC,bM g_Snaps' 4 (o.2.1:List aH).length∧∃g_Chunks':dC,bM g_Chunks' 35 (o.2.2:List aB).length∧bQ h (hL p0K p0.Seq g_Snaps' g_Chunks' gE gV o.2.1 o.2.2 p0.Exps p0.Vols)∧r= .sc (.bool o.1)∧h'=hp h (hL p0K p0.Seq g_Snaps' g_Chunks' gE gV o.2.1 o.2.2 p0.Exps p0.Vols)):=by
 refine B9 K0 88 [.tmp 4] Tryz.func154 rfl rfl rfl rfl ?_
 unfold CZ at m
 refine vs (v0 (vs (v0 (vs (vs (v0 (rE (FG (.obj 60 (fl bK ([]:List aH) g0.sp)) 5 (aZ g0) (fP _)) (pB m (σ:=(List aH)×Int) (τ:=dC) (λg s=>((dH g s.1)::(hC p0K p0 gS gC gE gV))) (λg s=>bM g 4 (s.1:List aH).length) (λg s=>.c 0 (.ptr p0K 0) (.c 1 (nZ p1) (.c 5 (aZ g) (.c 6 (nZ s.2) .nil)))) g0 (bM.g0 4) (lx (.k4 .nil)) ?_ ?_))))))))
 rintro ag0 ⟨q0,q1⟩ x O0 m
 replace m:tW w p0 p1 q0 q1=some x:=m
 unfold tW at m
 refine vs (vs (v0 (kQ rfl (dP dQ rfl rfl (vl 1 (aZ gS) eV rfl rfl rfl (bV (eR iQ ok_Snaps rfl) (v0 ?_)))))))
 apply vi m <;> intro c0 m
 refine v0 (vs (v0 (vs (v0 (kQ rfl (dP dQ rfl rfl (vl 1 (aZ gS) eV rfl rfl rfl ?_)))))))
 obtain⟨x0,X0,m⟩:=aC m
 refine bV (dJ X0 iX ok_Snaps rfl rfl) (bV (cZ (bM.ne ok_Snaps X0) uZ rfl rfl) (vn (λu=>eT (fo:=0) (nZ x0.Seq) X0 eC ok_Snaps cD rfl (aK 2 u rfl) (λ_=>rfl)) (qM m (σ:=(List aH)) (τ:=dC) (λg s=>((dH g s)::(hC p0K p0 gS gC gE gV))) (λg s=>bM g 4 (s:List aH).length) (λg s=>.c 0 (.ptr p0K 0) (.c 1 (nZ p1) (.c 5 (aZ g) (.c 6 (nZ q1) .nil)))) (λx m=> ?_) ?_)))
 refine v0 ?_
 apply vi m <;> intro c1 m
 refine v0 (kQ rfl (dP dQ rfl rfl (vl 1 (aZ gS) eV rfl rfl rfl ?_)))
 obtain⟨x1,X1,m⟩:=aC m
 refine bV (dJ X1 iX ok_Snaps rfl rfl) (vn (λu=>eT (fo:=0) (.agg (bK x1)) X1 eC ok_Snaps sO rfl (aK 2 u rfl) (λ_=>rfl)) (bV (eD (List.map bK ([x1]:List aH)) wJ rfl rfl rfl rfl) ?_))
 obtain⟨z0,Z0,m⟩:=aC m
 exact ve λu=>fS (c:=bK) 0 Z0 wJ rfl sP rfl eC rfl rfl O0 u rfl λag1 O1 K1=>qk K1 rfl (fB m ag1 O1 (lx (.k4 .nil)))
 exact v0 (fB m ag0 O0 (lx (.k4 .nil)))
 rintro ag2 j0 O2 m
 exact v0 (fB m ag2 O2 (lx (.k4 .nil)))
 exact v0 (mL m ag0 O0 (lx (.k4 .nil)))
 rintro ag3 ⟨r0,r1⟩ t0 m
 refine vs (vs (v0 (bV (eR iQ t0 rfl) (kQ rfl (dP dQ rfl rfl (vl 1 (aZ gS) eV rfl rfl rfl (bV (eR iQ ok_Snaps rfl) (v0 ?_))))))))
 apply vi m <;> intro c2 m
 refine vs (v0 (v0 ?_))
 cases m
 exact vr λu=>dZ.of1 (.inl rfl) (f0 _ _ (.sc (.bool _)) rfl) (bJ u [1,2,3,4,5] rfl).2 (bB.refl _ _) ⟨gS,ok_Snaps,gC,oC,(bJ u [1,2,3,4,5] rfl).1,rfl,rfl⟩
 refine v0 (vs (v0 (kQ rfl (dP dQ rfl rfl (ve λu=>aJ 1 ([nZ p0.Seq,aZ ag3,aZ gC,aZ gE,aZ gV]) u rfl rfl (cG rfl) (cE (bZ _ _ _) rfl) F9 rfl rfl λK2=>qk K2 rfl (vs (v0 (vs (vs (v0 (rE (FG (.obj 44 (fl aI ([]:List aB) g0.sp)) 7 (aZ g0) (fP _)) (pB m (σ:=(List aB)×Int) (τ:=dC) (λg s=> [(dG g s.1),(dH ag3 r0),(hO p0K p0.Seq ag3 gC gE gV),(dH gS p0.Snaps),(dG gC p0.Chunks),(jR gE p0.Exps),(lC gV p0.Vols)]) (λg s=>bM g 35 (s.1:List aB).length) (λg s=>.c 0 (.ptr p0K 0) (.c 7 (aZ g) (.c 8 (nZ s.2) .nil))) g0 (bM.g0 35) (lx (.k3 .nil)) ?_ ?_))))))))))))
 rintro ag4 ⟨q2,q3⟩ x O3 m
 replace m:tX w p0 r0 q2 q3=some x:=m
 unfold tX at m
 refine vs (vs (v0 (kQ rfl (dP eG rfl rfl (vl 2 (aZ gC) eO rfl rfl rfl (bV (eR jG oC rfl) (v0 ?_)))))))
 apply vi m <;> intro c3 m
 refine v0 (vs (qM m (σ:=(List aB)) (τ:=dC) (λg s=> [(dG g s),(dH ag3 r0),(hO p0K p0.Seq ag3 gC gE gV),(dH gS p0.Snaps),(dG gC p0.Chunks),(jR gE p0.Exps),(lC gV p0.Vols)]) (λg s=>bM g 35 (s:List aB).length) (λg s=>.c 0 (.ptr p0K 0) (.c 7 (aZ g) (.c 8 (nZ q3) .nil))) (λx m=> ?_) ?_))
 refine v0 (vs (v0 (kQ rfl (dP eG rfl rfl (vl 2 (aZ gC) eO rfl rfl rfl ?_)))))
 obtain⟨x2,X2,m⟩:=aC m
 refine bV (dJ X2 fH oC rfl rfl) (vn (λu=>eT (fo:=0) (.agg (aI x2)) X2 cL oC nT rfl (aK 4 u rfl) (λ_=>rfl)) (ve λu=>bG (bH jI++(OB:List AV)) u oK rfl rfl λk465 K3=>qk K3 rfl (ve λu=>aJ 0 (aI x2) u rfl rfl rfl rfl CF rfl rfl λK4=>qk K4 rfl (vs (vs (v0 (zM (by kernel_rfl) (kQ rfl (vl 3 (.agg ([nZ p0.Seq,aZ ag3,aZ gC,aZ gE,aZ gV])) eP rfl rfl rfl (dP oI rfl rfl (vl 0 (.agg (bH x2.Id)) fL rfl rfl rfl ?_)))))))))))
 obtain⟨_,Y0,m⟩:=aC m
 refine vn (λu=>cB (fA (.cons (Br.agg (.cons (Br.refl _ _) (.cons (Br.aw 2 eC t0 u rfl) (.cons (Br.aw 5 cL oC u rfl) (.cons (Br.aw 6 fY oE u rfl) (.cons (Br.aw 7 eS oV u rfl) .nil)))))) (.cons (Br.refl _ _) .nil)) rfl (W38 _ Y0)) rfl YN rfl) (fQ m (σ:=aB) (λs=> [(some k465,.obj 44 (aI s)),(dG ag4 q2),(dH ag3 r0),(hO p0K p0.Seq ag3 gC gE gV),(dH gS p0.Snaps),(dG gC p0.Chunks),(jR gE p0.Exps),(lC gV p0.Vols)]) (λs=>.c 0 (.ptr p0K 0) (.c 7 (aZ ag4) (.c 8 (nZ q3) (.c 9 (.ptr k465 0) .nil)))) (λx m=> ?_) ?_)
 refine v0 ?_
 apply vi m <;> intro c4 m
 refine vs (v0 (dP oJ rfl rfl (ve λu=>aJ 0 (aI { x2 with Staged:=false}) u rfl rfl rfl rfl VP rfl rfl λK5=>qk K5 rfl (dP jP rfl rfl (ve λu=>xS 0 (aI { { x2 with Staged:=false} with Data:=([]:List Int)}) u rfl rfl rfl rfl (.cons (aR _) .nil) CE rfl rfl λK6=>qk K6 rfl (vs (v0 (dP jQ rfl rfl (vl 0 _ fM rfl rfl rfl (cY jO rfl (v0 ?_)))))))))))
 apply vi m <;> intro c5 m
 exact v0 (vxt m rfl λm=>fB m ag4 O3 (nD [1,2,3,4,5,6,7] rfl rfl (.k3 .nil)))
 exact v0 (gJ m)
 exact v0 (gJ m)
 rintro _ j1 m
 refine v0 (vl 0 (.agg (aI j1)) nT rfl rfl rfl (bV (eD (List.map aI ([j1]:List aB)) lK rfl rfl rfl rfl) ?_))
 obtain⟨z1,Z1,m⟩:=aC m
 exact ve λu=>fS (c:=aI) 1 Z1 lK rfl oK rfl cL rfl rfl O3 u rfl λag5 O4 K7=>qk K7 rfl (fB m ag5 O4 (nD [1,2,3,4,5,6,7] rfl rfl (.k3 .nil)))
 rintro ag6 j2 O5 m
 exact v0 (fB m ag6 O5 (lx (.k3 .nil)))
 exact v0 (mL m ag4 O3 (lx (.k3 .nil)))
 rintro ag7 ⟨r2,r3⟩ t1 m
 refine vs (v0 (kQ rfl (dP eG rfl rfl (ve λu=>aJ 2 ([nZ p0.Seq,aZ ag3,aZ ag7,aZ gE,aZ gV]) u rfl rfl (cG rfl) (cE (bZ _ _ _) rfl) CC rfl rfl λK8=>qk K8 rfl (vs (v0 (v0 ?_)))))))
 cases m
 exact vr λu=>dZ.of1 (.inl rfl) (f0 _ _ (.sc (.bool _)) rfl) (bJ u [2,1,0,5,6] rfl).2 (bB.refl _ _) ⟨ag3,t0,ag7,t1,(bJ u [2,1,0,5,6] rfl).1,rfl,rfl⟩
theorem R9:aP Tryz.prog 154=true:=by kernel_rfl
def mF (m:Nat) (p0:aA) (p1:aO) (p2:bE) (q0:Int):Option (Lp (Int) (Lp (Int×(List aB)×(List aS)) (Bool×Int×AX))):=
 if (decide (q0 < (p0.Snaps.length:Int)))=true then ((ix p0.Snaps q0).bind λx0=>if (x0.Seq==p1.Seq)=true then ((ix p0.Snaps q0).bind λx1=>(G4 m x1.Locs p2).bind λy0=>(ix p0.Snaps q0).bind λx2=>some (.ret (.ret (true,p0.Seq,p0.Snaps.set q0.toNat ({ x2 with Locs:=y0}),p0.Chunks,p0.Exps)))) else some (.go (IntKind.wrap .i64 (q0+1)))) else some (.brk q0)
def tY (m:Nat) (p0:aA) (p1:aO) (q0:Int):Option (Lp (Int) (Lp (Int×(List aB)×(List aS)) (Bool×Int×AX))):=
 after (if (decide (q0 < (p0.Exps.length:Int)))=true then ((ix p0.Exps q0).bind λx0=>some (.brk (decide (x0.Seq < p1.Seq)))) else some (.brk false):Option (Lp (Bool) (Lp (Int) (Lp (Int×(List aB)×(List aS)) (Bool×Int×AX))))) λj0=>if j0=true then (some (.go (IntKind.wrap .i64 (q0+1)))) else some (.brk q0)
def G6 (m:Nat) (p0:aA) (p1:aO) (p2:bE):Option (Bool×Int×AX):=
 after (if (p1.Kind==1)=true then ((KB m ({ Seq:=p0.Seq,Snaps:=p0.Snaps,Chunks:=p0.Chunks,Exps:=p0.Exps,Vols:=p0.Vols}:aA) p1.Id).bind λy0=>if (decide (y0 < 0))=true then (some (.ret (false,p0.Seq,p0.Snaps,p0.Chunks,p0.Exps))) else (ix p0.Chunks y0).bind λx0=>(G4 m x0.Locs p2).bind λy1=>(ix p0.Chunks y0).bind λx1=>some (.brk (p0.Seq,p0.Chunks.set y0.toNat ({ x1 with Locs:=y1}),p0.Exps))) else if (p1.Kind==2)=true then (after (aU (λs=>mF m p0 p1 p2 s) m 0) λr0=>some (.ret (false,p0.Seq,p0.Snaps,p0.Chunks,p0.Exps))) else after (aU (λs=>tY m p0 p1 s) m 0) λr1=>after (if (decide (r1 < (p0.Exps.length:Int)))=true then ((ix p0.Exps r1).bind λx2=>some (.brk (x2.Seq==p1.Seq))) else some (.brk false):Option (Lp (Bool) (Lp (Int×(List aB)×(List aS)) (Bool×Int×AX)))) λj0=>if j0=true then ((ix p0.Exps r1).bind λx3=>(G4 m x3.Locs p2).bind λy2=>(ix p0.Exps r1).bind λx4=>some (.ret (true,p0.Seq,p0.Snaps,p0.Chunks,p0.Exps.set r1.toNat ({ x4 with Locs:=y2})))) else (slc p0.Exps 0 r1).bind λx5=>(app ([]:List aS) x5).bind λz0=>(app z0 ([({ Seq:=p1.Seq,Of:=p1.Of,Locs:=([p2]:List bE)}:aS)]:List aS)).bind λz1=>(slc p0.Exps r1 (p0.Exps).length).bind λx6=>(app z1 x6).bind λz2=>after (if (decide (p0.Seq≤p1.Seq))=true then (some (.brk (decide (p1.Seq < 4611686018427387904)))) else some (.brk false):Option (Lp (Bool) (Lp (Int×(List aB)×(List aS)) (Bool×Int×AX)))) λj1=>after (if j1=true then (some (.brk (IntKind.wrap .i64 (p1.Seq+1)))) else some (.brk p0.Seq):Option (Lp (Int) (Lp (Int×(List aB)×(List aS)) (Bool×Int×AX)))) λj2=>some (.brk (j2,p0.Chunks,z2)):Option (Lp (Int×(List aB)×(List aS)) (Bool×Int×AX))) λ⟨j3,j4,j5⟩=>some (true,j3,p0.Snaps,j4,j5)
theorem aE6 {w:Nat} {p0:aA} {p1:aO} {p2:bE} {o:Bool×Int×AX} (h:aE) {p0K:bY} {gS:dC} (ok_Snaps:bM gS 4 p0.Snaps.length) {gC:dC} (oC:bM gC 35 p0.Chunks.length) {gE:dC} (oE:bM gE 3 p0.Exps.length) {gV:dC} (oV:bM gV 4 p0.Vols.length) (K0:bQ h (hC p0K p0 gS gC gE gV)) (m:G6 w p0 p1 p2=some o):
 aL Tryz.prog 156 [.ptr p0K 0,.agg (aV p1),.agg (aQ p2)] (hp h (hC p0K p0 gS gC gE gV)) (λr h'=>∃g_Snaps':dC,bM g_Snaps' 4 (o.2.2.1:List aH).length∧∃g_Chunks':dC,bM g_Chunks' 35 (o.2.2.2.1:List aB).length∧∃g_Exps':dC,bM g_Exps' 3 (o.2.2.2.2:List aS).length∧bQ h (hL p0K o.2.1 g_Snaps' g_Chunks' g_Exps' gV o.2.2.1 o.2.2.2.1 o.2.2.2.2 p0.Vols)∧r= .sc (.bool o.1)∧h'=hp h (hL p0K o.2.1 g_Snaps' g_Chunks' g_Exps' gV o.2.2.1 o.2.2.2.1 o.2.2.2.2 p0.Vols)):=by
 refine B9 K0 184 [.tmp 6] Tryz.func156 rfl rfl rfl rfl ?_
 unfold G6 at m
 refine vs (v0 (hX rfl rfl λk2 K3=>hX rfl rfl λk5 K6=>vs (vs (v0 (dP lR rfl rfl (vl 1 _ cD rfl rfl rfl (v0 (vs (v0 (qM m (σ:=Int×(List aB)×(List aS)) (τ:=dC×dC) (λg s=>((some k5,.obj 81 (aQ p2))::(some k2,.obj 38 (aV p1))::(hL p0K s.1 gS g.1 g.2 gV p0.Snaps s.2.1 s.2.2 p0.Vols))) (λg s=>bM g.1 35 (s.2.1:List aB).length∧bM g.2 3 (s.2.2:List aS).length) (λg s=>.nil) (λx m=> ?_) ?_))))))))))
 refine v0 ?_
 apply vi m <;> intro c0 m
 refine vs (v0 (zM (by kernel_rfl) (kQ rfl (vl 2 (.agg ([nZ p0.Seq,aZ gS,aZ gC,aZ gE,aZ gV])) eP rfl rfl rfl (dP uW rfl rfl (vl 1 (.agg (bH p1.Id)) fL rfl rfl rfl ?_))))))
 obtain⟨_,Y0,m⟩:=aC m
 refine vn (λu=>cB (fA (.cons (Br.agg (.cons (Br.refl _ _) (.cons (Br.aw 3 eC ok_Snaps u rfl) (.cons (Br.aw 4 cL oC u rfl) (.cons (Br.aw 5 fY oE u rfl) (.cons (Br.aw 6 eS oV u rfl) .nil)))))) (.cons (Br.refl _ _) .nil)) rfl (W88 _ Y0)) rfl PU rfl) (vs (vs (v0 (v0 ?_))))
 apply vi m <;> intro c1 m
 refine vs (v0 (v0 (gM m λm=> ?_)))
 cases m
 exact vr λu=>dZ.of1 (.inl rfl) (f0 _ _ (.sc (.bool _)) rfl) (bJ u [2,3,4,5,6] rfl).2 (bB.refl _ _) ⟨gS,ok_Snaps,gC,oC,gE,oE,(bJ u [2,3,4,5,6] rfl).1,rfl,rfl⟩
 refine v0 (v0 (vz [(1000000,some p0K,.obj 30 ([nZ p0.Seq,aZ gS,aZ gC,aZ gE,aZ gV])),(17,gC.t,.obj 44 (fl aI (p0.Chunks:List aB) gC.sp)),(1000000,some k5,.obj 81 (aQ p2))] mixed (λu=>⟨λ_=>aK 2 u rfl,λ_=>aK 4 u rfl,λ_=>aK 0 u rfl,trivial⟩) λu=>zP 0 rfl rfl (zN 1 rfl rfl (zF 2 rfl eG rfl (zL 3 0 (aZ gC) rfl eO rfl rfl rfl (zI 4 rfl rfl (zP 5 rfl rfl (zN 6 rfl rfl (zF 7 rfl eG rfl (zL 8 0 (aZ gC) rfl eO rfl rfl rfl (zI 9 rfl rfl ?_)))))))))))
 obtain⟨x0,X0,m⟩:=aC m
 refine zC 10 rfl (dJ X0 fH oC rfl rfl) (zC 11 rfl (cZ (bM.ne oC X0) jQ rfl rfl) (zR 12 rfl (λ_ _ hi hB=>eT (fo:=34) (.sl none 4 (List.map aQ x0.Locs)) X0 cL oC fM rfl (f8.get 1 hi rfl (hB 17 (by kernel_rfl))) (λ_=>rfl)) (zL 13 2 (.agg (aQ p2)) rfl oM rfl rfl rfl ?_)))
 obtain⟨y0,Y1,m⟩:=aC m
 refine zC 14 rfl (cB (UJ _ Y1) rfl NE rfl) ?_
 obtain⟨x1,X1,m⟩:=aC m
 refine zC 15 rfl (dJ X1 fH oC rfl rfl) (zC 16 rfl (cZ (bM.ne oC X1) jQ rfl rfl) (zE 17 rfl (dA (fo:=34) ({ x1 with Locs:=y0}:aB) 4 u X1 cL oC rfl rfl rfl rfl (cU.refl _ _) pT rfl rfl λK1=>⟨⟨λ_=>aK 2 K1 rfl,λe=>absurd e (by decide),λ_=>aK 0 K1 rfl,trivial⟩, ?_⟩)))
 exact zX (qk (f:=B6 144 _ _ _ _ _ _ _ _ _ _ _ _ _ _ _ _ _ _) K1 rfl (fB m (gC,gE) ⟨(bM.set oC),oE⟩ (lx .nil)))
 refine vs (v0 (v0 ?_))
 apply vi m <;> intro c2 m
 refine vs (vs (v0 (kD m (σ:=Int) (λs=>((some k5,.obj 81 (aQ p2))::(some k2,.obj 38 (aV p1))::(hC p0K p0 gS gC gE gV))) (λs=>.c 0 (.ptr p0K 0) (.c 4 (.ptr k2 0) (.c 5 (.ptr k5 0) (.c 8 (nZ s) .nil)))) (lx (.k4 .nil)) ?_ ?_)))
 rintro _ q0 x m
 replace m:mF w p0 p1 p2 q0=some x:=m
 unfold mF at m
 refine vs (vs (v0 (kQ rfl (dP dQ rfl rfl (vl 2 (aZ gS) eV rfl rfl rfl (bV (eR iQ ok_Snaps rfl) (v0 ?_)))))))
 apply vi m <;> intro c3 m
 refine v0 (vs (v0 (vs (v0 (zM (by kernel_rfl) (kQ rfl (dP dQ rfl rfl (vl 2 (aZ gS) eV rfl rfl rfl ?_))))))))
 obtain⟨x2,X2,m⟩:=aC m
 refine bV (dJ X2 iX ok_Snaps rfl rfl) (bV (cZ (bM.ne ok_Snaps X2) uZ rfl rfl) (vn (λu=>eT (fo:=0) (nZ x2.Seq) X2 eC ok_Snaps cD rfl (aK 3 u rfl) (λ_=>rfl)) (dP kZ rfl rfl (vl 1 _ cD rfl rfl rfl (v0 ?_)))))
 apply vi m <;> intro c4 m
 refine vs (v0 (vz [(1000000,some p0K,.obj 30 ([nZ p0.Seq,aZ gS,aZ gC,aZ gE,aZ gV])),(17,gS.t,.obj 60 (fl bK (p0.Snaps:List aH) gS.sp)),(1000000,some k5,.obj 81 (aQ p2))] mixed (λu=>⟨λ_=>aK 2 u rfl,λ_=>aK 3 u rfl,λ_=>aK 0 u rfl,trivial⟩) λu=>zP 0 rfl rfl (zN 1 rfl rfl (zF 2 rfl dQ rfl (zL 3 0 (aZ gS) rfl eV rfl rfl rfl (zI 4 rfl rfl (zP 5 rfl rfl (zN 6 rfl rfl (zF 7 rfl dQ rfl (zL 8 0 (aZ gS) rfl eV rfl rfl rfl (zI 9 rfl rfl ?_)))))))))))
 obtain⟨x3,X3,m⟩:=aC m
 refine zC 10 rfl (dJ X3 iX ok_Snaps rfl rfl) (zC 11 rfl (cZ (bM.ne ok_Snaps X3) kO rfl rfl) (zR 12 rfl (λ_ _ hi hB=>eT (fo:=3) (.sl none 4 (List.map aQ x3.Locs)) X3 eC ok_Snaps fM rfl (f8.get 1 hi rfl (hB 17 (by kernel_rfl))) (λ_=>rfl)) (zL 13 2 (.agg (aQ p2)) rfl oM rfl rfl rfl ?_)))
 obtain⟨y1,Y2,m⟩:=aC m
 refine zC 14 rfl (cB (UJ _ Y2) rfl NE rfl) ?_
 obtain⟨x4,X4,m⟩:=aC m
 refine zC 15 rfl (dJ X4 iX ok_Snaps rfl rfl) (zC 16 rfl (cZ (bM.ne ok_Snaps X4) kO rfl rfl) (zE 17 rfl (dA (fo:=3) ({ x4 with Locs:=y1}:aH) 3 u X4 eC ok_Snaps rfl rfl rfl rfl (cU.refl _ _) pT rfl rfl λK2=>⟨⟨λ_=>aK 2 K2 rfl,λe=>absurd e (by decide),λ_=>aK 0 K2 rfl,trivial⟩, ?_⟩)))
 refine zX (qk (f:=B6 183 _ _ _ _ _ _ _ _ _ _ _ _ _ _ _ _ _ _) K2 rfl (vs (v0 (v0 (gM m λm=>gM m λm=> ?_)))))
 cases m
 exact vr λu=>dZ.of1 (.inl rfl) (f0 _ _ (.sc (.bool _)) rfl) (bJ u [2,3,4,5,6] rfl).2 (bB.refl _ _) ⟨gS,(bM.set ok_Snaps),gC,oC,gE,oE,(bJ u [2,3,4,5,6] rfl).1,rfl,rfl⟩
 exact v0 (v0 (gJ m))
 exact v0 (zK m)
 rintro _ r0 m
 refine vs (v0 (v0 (gM m λm=> ?_)))
 cases m
 exact vr λu=>dZ.of1 (.inl rfl) (f0 _ _ (.sc (.bool _)) rfl) (bJ u [2,3,4,5,6] rfl).2 (bB.refl _ _) ⟨gS,ok_Snaps,gC,oC,gE,oE,(bJ u [2,3,4,5,6] rfl).1,rfl,rfl⟩
 refine vs (v0 (vs (kD m (σ:=Int) (λs=>((some k5,.obj 81 (aQ p2))::(some k2,.obj 38 (aV p1))::(hC p0K p0 gS gC gE gV))) (λs=>.c 0 (.ptr p0K 0) (.c 4 (.ptr k2 0) (.c 5 (.ptr k5 0) (.c 9 (nZ s) .nil)))) (lx (.k4 .nil)) ?_ ?_)))
 rintro _ q1 x m
 replace m:tY w p0 p1 q1=some x:=m
 unfold tY at m
 refine vs (vs (fQ m (σ:=Bool) (λs=>((some k5,.obj 81 (aQ p2))::(some k2,.obj 38 (aV p1))::(hC p0K p0 gS gC gE gV))) (λs=>.c 0 (.ptr p0K 0) (.c 4 (.ptr k2 0) (.c 5 (.ptr k5 0) (.c 9 (nZ q1) (.c 32 (.sc (.bool s)) .nil))))) (λx m=> ?_) ?_))
 refine v0 (zM (by kernel_rfl) (kQ rfl (dP fK rfl rfl (vl 2 (aZ gE) jN rfl rfl rfl (bV (eR qN oE rfl) ?_)))))
 apply vi m <;> intro b0 m
 rw[b0]
 refine kQ rfl (dP fK rfl rfl (vl 2 (aZ gE) jN rfl rfl rfl ?_))
 obtain⟨x5,X5,m⟩:=aC m
 exact bV (dJ X5 jY oE rfl rfl) (bV (cZ (bM.ne oE X5) GJ rfl rfl) (vn (λu=>eT (fo:=0) (nZ x5.Seq) X5 fY oE cD rfl (aK 5 u rfl) (λ_=>rfl)) (dP kZ rfl rfl (vl 1 _ cD rfl rfl rfl (mC m)))))
 rw[b0]
 exact mC m
 rintro _ j0 m
 refine v0 ?_
 apply vi m <;> intro c5 m
 exact v0 (v0 (v0 (gJ m)))
 exact v0 (zK m)
 rintro _ r1 m
 refine vs (vs (fQ m (σ:=Bool) (λs=>((some k5,.obj 81 (aQ p2))::(some k2,.obj 38 (aV p1))::(hC p0K p0 gS gC gE gV))) (λs=>.c 0 (.ptr p0K 0) (.c 4 (.ptr k2 0) (.c 5 (.ptr k5 0) (.c 9 (nZ r1) (.c 54 (.sc (.bool s)) .nil))))) (λx m=> ?_) ?_))
 refine v0 (zM (by kernel_rfl) (kQ rfl (dP fK rfl rfl (vl 2 (aZ gE) jN rfl rfl rfl (bV (eR qN oE rfl) ?_)))))
 apply vi m <;> intro b1 m
 rw[b1]
 refine kQ rfl (dP fK rfl rfl (vl 2 (aZ gE) jN rfl rfl rfl ?_))
 obtain⟨x6,X6,m⟩:=aC m
 exact bV (dJ X6 jY oE rfl rfl) (bV (cZ (bM.ne oE X6) GJ rfl rfl) (vn (λu=>eT (fo:=0) (nZ x6.Seq) X6 fY oE cD rfl (aK 5 u rfl) (λ_=>rfl)) (dP kZ rfl rfl (vl 1 _ cD rfl rfl rfl (mC m)))))
 rw[b1]
 exact mC m
 rintro _ j1 m
 refine v0 ?_
 apply vi m <;> intro c6 m
 refine vs (v0 (vz [(1000000,some p0K,.obj 30 ([nZ p0.Seq,aZ gS,aZ gC,aZ gE,aZ gV])),(17,gE.t,.obj 99 (fl cV (p0.Exps:List aS) gE.sp)),(1000000,some k5,.obj 81 (aQ p2))] mixed (λu=>⟨λ_=>aK 2 u rfl,λ_=>aK 5 u rfl,λ_=>aK 0 u rfl,trivial⟩) λu=>zP 0 rfl rfl (zN 1 rfl rfl (zF 2 rfl fK rfl (zL 3 0 (aZ gE) rfl jN rfl rfl rfl (zI 4 rfl rfl (zP 5 rfl rfl (zN 6 rfl rfl (zF 7 rfl fK rfl (zL 8 0 (aZ gE) rfl jN rfl rfl rfl (zI 9 rfl rfl ?_)))))))))))
 obtain⟨x7,X7,m⟩:=aC m
 refine zC 10 rfl (dJ X7 jY oE rfl rfl) (zC 11 rfl (cZ (bM.ne oE X7) mY rfl rfl) (zR 12 rfl (λ_ _ hi hB=>eT (fo:=2) (.sl none 4 (List.map aQ x7.Locs)) X7 fY oE fM rfl (f8.get 1 hi rfl (hB 17 (by kernel_rfl))) (λ_=>rfl)) (zL 13 2 (.agg (aQ p2)) rfl oM rfl rfl rfl ?_)))
 obtain⟨y2,Y3,m⟩:=aC m
 refine zC 14 rfl (cB (UJ _ Y3) rfl NE rfl) ?_
 obtain⟨x8,X8,m⟩:=aC m
 refine zC 15 rfl (dJ X8 jY oE rfl rfl) (zC 16 rfl (cZ (bM.ne oE X8) mY rfl rfl) (zE 17 rfl (dA (fo:=2) ({ x8 with Locs:=y2}:aS) 5 u X8 fY oE rfl rfl rfl rfl (cU.refl _ _) pT rfl rfl λK4=>⟨⟨λ_=>aK 2 K4 rfl,λe=>absurd e (by decide),λ_=>aK 0 K4 rfl,trivial⟩, ?_⟩)))
 refine zX (qk (f:=B6 71 _ _ _ _ _ _ _ _ _ _ _ _ _ _ _ _ _ _) K4 rfl (vs (v0 (v0 (gM m λm=> ?_)))))
 cases m
 exact vr λu=>dZ.of1 (.inl rfl) (f0 _ _ (.sc (.bool _)) rfl) (bJ u [2,3,4,5,6] rfl).2 (bB.refl _ _) ⟨gS,ok_Snaps,gC,oC,gE,(bM.set oE),(bJ u [2,3,4,5,6] rfl).1,rfl,rfl⟩
 refine v0 (vs (v0 (vs (rE (λu=>iW.fzO (n:=184) (f:=_) 5 2 ([nZ p0.Seq,aZ gS,aZ gC,.sl none 3 (List.map cV p0.Exps),aZ gV]) u rfl (.cons (Fz.refl _ _ _) (.cons (Fz.refl _ _ _) (.cons (Fz.refl _ _ _) (.cons (Fz.aw 5 fY oE u rfl (.refl _)) (.cons (Fz.refl _ _ _) .nil)))))) (v0 (vz [(1000000,some p0K,.obj 30 ([nZ p0.Seq,aZ gS,aZ gC,.sl none 3 (List.map cV p0.Exps),aZ gV])),(1000000,some k2,.obj 38 (aV p1)),(1000000,some k5,.obj 81 (aQ p2))] mixed (λu=>⟨λ_=>aK 2 u rfl,λ_=>aK 1 u rfl,λ_=>aK 0 u rfl,trivial⟩) λu=>zC 0 rfl (eZ (.sc (.slice _ _ _)) rfl) (zP 1 rfl rfl (zN 2 rfl rfl (zF 3 rfl fK rfl (zL 4 0 (.sl none 3 (List.map cV p0.Exps)) rfl jN rfl rfl rfl (zI 5 rfl rfl ?_)))))))))))
 obtain⟨_,X9,m⟩:=aC m
 refine zC 6 rfl (pP X9 jY rfl rfl rfl rfl) (zF 8 rfl kZ rfl (zL 9 1 (nZ p1.Seq) rfl cD rfl rfl rfl (zF 10 rfl uX rfl (zL 11 1 (nZ p1.Of) rfl cD rfl rfl rfl (zL 12 2 (.agg (aQ p2)) rfl oM rfl rfl rfl (zC 13 rfl (eD (List.map aQ ([p2]:List bE)) pF rfl rfl rfl rfl) (zC 14 rfl (eK (cV ({ Seq:=p1.Seq,Of:=p1.Of,Locs:=([p2]:List bE)}:aS)) W0 rfl) (zC 15 rfl (eD (List.map cV ([({ Seq:=p1.Seq,Of:=p1.Of,Locs:=([p2]:List bE)}:aS)]:List aS)) pC rfl rfl rfl rfl) ?_))))))))
 obtain⟨z0,Z0,m⟩:=aC m
 refine zE 7 rfl (BY (c:=cV) Z0 pC rfl u6 rfl fY rfl u rfl λag0 O0 K5=>⟨⟨λ_=>aK 3 K5 rfl,λ_=>aK 2 K5 rfl,λ_=>aK 1 K5 rfl,trivial⟩, ?_⟩)
 obtain⟨z1,Z1,m⟩:=aC m
 refine zE 16 rfl (fS (c:=cV) 0 Z1 pC rfl u6 rfl fY rfl rfl O0 K5 rfl λag1 O1 K7=>⟨⟨λ_=>aK 3 K7 rfl,λ_=>aK 2 K7 rfl,λ_=>aK 1 K7 rfl,trivial⟩, ?_⟩)
 refine zC 17 rfl (hU (aw _ _ _) rfl) (zX (qk (f:=.c 10 _ (.c 88 _ (.c 79 _ (VM 87 _ _ _ _ _ _ _ _ (fq7 78 _ _ _ _ _ _ _ _))))) K7 rfl (vs (v0 (kQ rfl (dP fK rfl rfl (vl 3 _ jN rfl rfl rfl ?_)))))))
 obtain⟨_,X10,m⟩:=aC m
 refine bV (pP X10 jY rfl rfl rfl rfl) ?_
 obtain⟨z2,Z2,m⟩:=aC m
 refine ve λu=>fS (c:=cV) 0 Z2 pC rfl u6 rfl fY rfl rfl O1 u rfl λag2 O2 K8=>qk K8 rfl (kQ rfl (dP fK rfl rfl (ve λu=>aJ 3 ([nZ p0.Seq,aZ gS,aZ gC,aZ ag2,aZ gV]) u rfl rfl (cG rfl) (cE (bZ _ _ _) rfl) LM rfl rfl λK9=>qk K9 rfl (vs (fQ m (σ:=Bool) (λs=> [(jR ag2 z2),(some k5,.obj 81 (aQ p2)),(some k2,.obj 38 (aV p1)),(hO p0K p0.Seq gS gC ag2 gV),(dH gS p0.Snaps),(dG gC p0.Chunks),(lC gV p0.Vols)]) (λs=>.c 0 (.ptr p0K 0) (.c 4 (.ptr k2 0) (.c 111 (.sc (.bool s)) .nil))) (λx m=> ?_) ?_)))))
 refine v0 (zM (by kernel_rfl) (dP kZ rfl rfl (vl 2 _ cD rfl rfl rfl (kQ rfl (dP nS rfl rfl (vl 3 _ cD rfl rfl rfl ?_))))))
 apply vi m <;> intro b2 m
 rw[b2]
 exact dP kZ rfl rfl (vl 2 _ cD rfl rfl rfl (gY m))
 rw[b2]
 exact gY m
 rintro _ j2 m
 refine fQ m (σ:=Int) (λs=> [(jR ag2 z2),(some k5,.obj 81 (aQ p2)),(some k2,.obj 38 (aV p1)),(hO p0K s gS gC ag2 gV),(dH gS p0.Snaps),(dG gC p0.Chunks),(lC gV p0.Vols)]) (λs=>.nil) (λx m=> ?_) ?_
 refine v0 ?_
 apply vi m <;> intro c7 m
 exact v0 (dP kZ rfl rfl (vl 2 _ cD rfl rfl rfl (kQ rfl (dP nS rfl rfl (ve λu=>aJ 3 ([nZ (IntKind.wrap .i64 (p1.Seq+1)),aZ gS,aZ gC,aZ ag2,aZ gV]) u rfl rfl rfl rfl DN rfl rfl λK10=>qk K10 rfl (gq0 m))))))
 exact v0 (gq0 m)
 rintro _ j3 m
 exact fB m (gC,ag2) ⟨oC,O2⟩ (nD [1,2,3,4,5,0,6] rfl rfl .nil)
 rintro⟨ag3,ag4⟩ ⟨j4,j5,j6⟩ ⟨O3,O4⟩ m
 refine vs (v0 (v0 ?_))
 cases m
 exact vr λu=>dZ.of1 (.inl rfl) (f0 _ _ (.sc (.bool _)) rfl) (bJ u [2,3,4,5,6] rfl).2 (bB.refl _ _) ⟨gS,ok_Snaps,ag3,O3,ag4,O4,(bJ u [2,3,4,5,6] rfl).1,rfl,rfl⟩
theorem aAC:aP Tryz.prog 156=true:=by kernel_rfl
end Go.Proofs.YtbbifdfldpfphaaGreat
