import Derived.Test.YtbbifdfldpfphaaGreatK8P6
import Derived.Test.YtbbifdfldpfphaaGreatK8P3
import Derived.Test.YtbbifdfldpfphaaGreatK8P5
import Derived.Test.YtbbifdfldpfphaaGreatK8P4
set_option linter.unusedSimpArgs false
set_option linter.unusedVariables false
set_option maxHeartbeats 4000000
set_option maxRecDepth 100000
namespace Go.Proofs.YtbbifdfldpfphaaGreat
open Go.Vm
def IF (m:Nat) (p0:List aH):Option (List aH):=app [] p0
theorem aBS {w:Nat} {p0:List aH} {o:List aH} (h:aF) (m:IF w p0=some o):
 aM Tryz.prog 132 [.sl none 4 (List.map bJ p0)] h (λr h'=>∃g:dD,bK g 4 o.length∧bP h [(g.t,.obj 60 (fl bJ o g.sp))]∧r=aZ g∧h'=hp h [(g.t,.obj 60 (fl bJ o g.sp))]):=by
 refine iT 8 [.tmp 2] Tryz.func132 rfl rfl rfl rfl ?_
 unfold IF at m
 refine fV λK1 H1=>dQ (qC (hH (.sc (.slice _ _ _)) rfl) (eS (H1 _ _ (fV λK1 H1=>fV λK2 H2=>dQ (vE rfl (kK (jK rfl (by rw[jL]; rfl) (by rw[bF]; exact rfl) (.inl ⟨_,_,_,rfl,λb hb=> ?_⟩))))))))
 refine eS (H2 _ _ (mM rfl (λhc=> ?_) (λhc=> ?_)))
 have h0:p0= []:=by
   cases p0 with
   | nil=>rfl
   | cons x l=>have:=hb (by simp); rw[this] at hc; cases hc
 subst h0
 obtain⟨rfl, -⟩:=jE m
 exact fV λK1 H1=>dQ (qC (hH (.sc (.slice _ _ _)) rfl) (eS (H1 _ _ (gZ (dW.one (.inl rfl) (iE.refl _) (fP _) ⟨g0,bK.g0 _,bP.none (bP.nil _),rfl,rfl⟩)))))
 exact lE (H1 _ _ (fV λK1 H1=>dQ (kK (qF (c:=bJ) (bP.nil _) D8 λu=>vE rfl (kK (f8 (c:=bJ) 0 m D8 rfl xS rfl eM rfl rfl (bK.g0 _) u rfl λg ok u=>qC (hH (aw _ _ _) rfl) (eS (H1 _ _ (gZ (dW.one (.inl rfl) (iE.refl _) (bD.refl _ _) ⟨g,ok,u,rfl,rfl⟩))))))))))
theorem aBT:aP Tryz.prog 132=true:=by kernel_rfl
def IG (m:Nat) (p0:List aB):Option (List aB):=app [] p0
theorem aBU {w:Nat} {p0:List aB} {o:List aB} (h:aF) (m:IG w p0=some o):
 aM Tryz.prog 133 [.sl none 35 (List.map aK p0)] h (λr h'=>∃g:dD,bK g 35 o.length∧bP h [(g.t,.obj 44 (fl aK o g.sp))]∧r=aZ g∧h'=hp h [(g.t,.obj 44 (fl aK o g.sp))]):=by
 refine iT 8 [.tmp 2] Tryz.func133 rfl rfl rfl rfl ?_
 unfold IG at m
 refine fV λK1 H1=>dQ (qC (hH (.sc (.slice _ _ _)) rfl) (eS (H1 _ _ (fV λK1 H1=>fV λK2 H2=>dQ (vE rfl (kK (jK rfl (by rw[h9]; rfl) (by rw[bF]; exact rfl) (.inl ⟨_,_,_,rfl,λb hb=> ?_⟩))))))))
 refine eS (H2 _ _ (mM rfl (λhc=> ?_) (λhc=> ?_)))
 have h0:p0= []:=by
   cases p0 with
   | nil=>rfl
   | cons x l=>have:=hb (by simp); rw[this] at hc; cases hc
 subst h0
 obtain⟨rfl, -⟩:=jE m
 exact fV λK1 H1=>dQ (qC (hH (.sc (.slice _ _ _)) rfl) (eS (H1 _ _ (gZ (dW.one (.inl rfl) (iE.refl _) (fP _) ⟨g0,bK.g0 _,bP.none (bP.nil _),rfl,rfl⟩)))))
 exact lE (H1 _ _ (fV λK1 H1=>dQ (kK (qF (c:=aK) (bP.nil _) o8 λu=>vE rfl (kK (f8 (c:=aK) 0 m o8 rfl qL rfl cY rfl rfl (bK.g0 _) u rfl λg ok u=>qC (hH (aw _ _ _) rfl) (eS (H1 _ _ (gZ (dW.one (.inl rfl) (iE.refl _) (bD.refl _ _) ⟨g,ok,u,rfl,rfl⟩))))))))))
theorem aBV:aP Tryz.prog 133=true:=by kernel_rfl
def IH (m:Nat) (p0:List aT):Option (List aT):=app [] p0
theorem aBW {w:Nat} {p0:List aT} {o:List aT} (h:aF) (m:IH w p0=some o):
 aM Tryz.prog 134 [.sl none 3 (List.map cH p0)] h (λr h'=>∃g:dD,bK g 3 o.length∧bP h [(g.t,.obj 99 (fl cH o g.sp))]∧r=aZ g∧h'=hp h [(g.t,.obj 99 (fl cH o g.sp))]):=by
 refine iT 8 [.tmp 2] Tryz.func134 rfl rfl rfl rfl ?_
 unfold IH at m
 refine fV λK1 H1=>dQ (qC (hH (.sc (.slice _ _ _)) rfl) (eS (H1 _ _ (fV λK1 H1=>fV λK2 H2=>dQ (vE rfl (kK (jK rfl (by rw[iR]; rfl) (by rw[bF]; exact rfl) (.inl ⟨_,_,_,rfl,λb hb=> ?_⟩))))))))
 refine eS (H2 _ _ (mM rfl (λhc=> ?_) (λhc=> ?_)))
 have h0:p0= []:=by
   cases p0 with
   | nil=>rfl
   | cons x l=>have:=hb (by simp); rw[this] at hc; cases hc
 subst h0
 obtain⟨rfl, -⟩:=jE m
 exact fV λK1 H1=>dQ (qC (hH (.sc (.slice _ _ _)) rfl) (eS (H1 _ _ (gZ (dW.one (.inl rfl) (iE.refl _) (fP _) ⟨g0,bK.g0 _,bP.none (bP.nil _),rfl,rfl⟩)))))
 exact lE (H1 _ _ (fV λK1 H1=>dQ (kK (qF (c:=cH) (bP.nil _) o9 λu=>vE rfl (kK (f8 (c:=cH) 0 m o9 rfl sP rfl f9 rfl rfl (bK.g0 _) u rfl λg ok u=>qC (hH (aw _ _ _) rfl) (eS (H1 _ _ (gZ (dW.one (.inl rfl) (iE.refl _) (bD.refl _ _) ⟨g,ok,u,rfl,rfl⟩))))))))))
theorem aBX:aP Tryz.prog 134=true:=by kernel_rfl
def II (m:Nat) (p0:List aQ):Option (List aQ):=app [] p0
theorem aBY {w:Nat} {p0:List aQ} {o:List aQ} (h:aF) (m:II w p0=some o):
 aM Tryz.prog 135 [.sl none 4 (List.map dG p0)] h (λr h'=>∃g:dD,bK g 4 o.length∧bP h [(g.t,.obj 49 (fl dG o g.sp))]∧r=aZ g∧h'=hp h [(g.t,.obj 49 (fl dG o g.sp))]):=by
 refine iT 8 [.tmp 2] Tryz.func135 rfl rfl rfl rfl ?_
 unfold II at m
 refine fV λK1 H1=>dQ (qC (hH (.sc (.slice _ _ _)) rfl) (eS (H1 _ _ (fV λK1 H1=>fV λK2 H2=>dQ (vE rfl (kK (jK rfl (by rw[lZ]; rfl) (by rw[bF]; exact rfl) (.inl ⟨_,_,_,rfl,λb hb=> ?_⟩))))))))
 refine eS (H2 _ _ (mM rfl (λhc=> ?_) (λhc=> ?_)))
 have h0:p0= []:=by
   cases p0 with
   | nil=>rfl
   | cons x l=>have:=hb (by simp); rw[this] at hc; cases hc
 subst h0
 obtain⟨rfl, -⟩:=jE m
 exact fV λK1 H1=>dQ (qC (hH (.sc (.slice _ _ _)) rfl) (eS (H1 _ _ (gZ (dW.one (.inl rfl) (iE.refl _) (fP _) ⟨g0,bK.g0 _,bP.none (bP.nil _),rfl,rfl⟩)))))
 exact lE (H1 _ _ (fV λK1 H1=>dQ (kK (qF (c:=dG) (bP.nil _) L7 λu=>vE rfl (kK (f8 (c:=dG) 0 m L7 rfl QX rfl eT rfl rfl (bK.g0 _) u rfl λg ok u=>qC (hH (aw _ _ _) rfl) (eS (H1 _ _ (gZ (dW.one (.inl rfl) (iE.refl _) (bD.refl _ _) ⟨g,ok,u,rfl,rfl⟩))))))))))
theorem aBZ:aP Tryz.prog 135=true:=by kernel_rfl
def tT (m:Nat) (y0:(List aH)) (q0:List aH) (q1:Int):Option (Lp ((List aH)×Int) (aA)):=
 if (decide (q1 < (y0.length:Int)))=true then ((ix q0 q1).bind λx0=>(NZ m x0.Man).bind λy1=>(CH m x0.Locs).bind λy2=>some (.go ((q0.set q1.toNat ({ x0 with Man:=y1})).set q1.toNat ({ ({ x0 with Man:=y1}:aH) with Locs:=y2}),IntKind.wrap .i64 (q1+1)))) else some (.brk (q0,q1))
def tU (m:Nat) (y0:(List aB)) (q0:List aB) (q1:Int):Option (Lp ((List aB)×Int) (aA)):=
 if (decide (q1 < (y0.length:Int)))=true then ((ix q0 q1).bind λx0=>(M96 m x0.Data).bind λy1=>(CH m x0.Locs).bind λy2=>some (.go ((q0.set q1.toNat ({ x0 with Data:=y1})).set q1.toNat ({ ({ x0 with Data:=y1}:aB) with Locs:=y2}),IntKind.wrap .i64 (q1+1)))) else some (.brk (q0,q1))
def tV (m:Nat) (y0:(List aT)) (q0:List aT) (q1:Int):Option (Lp ((List aT)×Int) (aA)):=
 if (decide (q1 < (y0.length:Int)))=true then ((ix q0 q1).bind λx0=>(CH m x0.Locs).bind λy1=>(ix q0 q1).bind λx1=>some (.go (q0.set q1.toNat ({ x1 with Locs:=y1}),IntKind.wrap .i64 (q1+1)))) else some (.brk (q0,q1))
def N0 (m:Nat) (p0:aA):Option (aA):=
 (IF m p0.Snaps).bind λy0=>(IG m p0.Chunks).bind λy1=>(IH m p0.Exps).bind λy2=>(II m p0.Vols).bind λy3=>after (aS (λs=>tT m y0 s.1 s.2) m (y0,0)) λ⟨r0,r1⟩=>after (aS (λs=>tU m y1 s.1 s.2) m (y1,0)) λ⟨r2,r3⟩=>after (aS (λs=>tV m y2 s.1 s.2) m (y2,0)) λ⟨r4,r5⟩=>some ({ Seq:=p0.Seq,Snaps:=r0,Chunks:=r2,Exps:=r4,Vols:=y3}:aA)
theorem aHK {w:Nat} {p0:aA} {o:aA} (h:aF) (m:N0 w p0=some o):
 aM Tryz.prog 77 [.agg (aC p0)] h (λr h'=>∃gS:dI,nG aH.Locs 4 4 gS (o.Snaps:List aH)∧∃gC:dI,nG aB.Locs 35 4 gC (o.Chunks:List aB)∧∃gE:dI,nG aT.Locs 3 4 gE (o.Exps:List aT)∧∃gV:dD,bK gV 4 o.Vols.length∧bP h ([bL gS o.Snaps,aY gC o.Chunks,bR gE o.Exps,a8 gV o.Vols]++((bO gS o.Snaps)++((bB gC o.Chunks)++(bS gE o.Exps))))∧r= .agg ([nZ o.Seq,aZ gS.a,aZ gC.a,aZ gE.a,aZ gV])∧h'=hp h ([bL gS o.Snaps,aY gC o.Chunks,bR gE o.Exps,a8 gV o.Vols]++((bO gS o.Snaps)++((bB gC o.Chunks)++(bS gE o.Exps))))):=by
 refine fK 98 [.cell 2 30] Tryz.func77 rfl rfl rfl rfl ?_
 unfold N0 at m
 refine vs (v0 (gX rfl rfl λk2 K3=>ve λu=>bG (i7) u sK rfl rfl λk5 K6=>qk K6 rfl (vs (v0 (vz [(13,some k2,.obj 30 (aC p0))] mixed (λu=>⟨λ_=>aO 1 u rfl,trivial⟩) λu=>zF 0 rfl eL rfl (zL 1 0 (.sl none 4 (List.map bJ p0.Snaps)) rfl fI rfl rfl rfl (zF 3 rfl eW rfl (zL 4 0 (.sl none 35 (List.map aK p0.Chunks)) rfl fD rfl rfl rfl (zF 6 rfl eU rfl (zL 7 0 (.sl none 3 (List.map cH p0.Exps)) rfl iG rfl rfl rfl (zF 9 rfl iW rfl (zL 10 0 (.sl none 4 (List.map dG p0.Vols)) rfl iH rfl rfl rfl ?_))))))))))))
 obtain⟨y0,Y0,m⟩:=aD m
 refine zE 2 rfl (dR (aBS _ Y0) rfl aBT rfl ?_)
 rintro x h' ⟨ag0,O0,K0,rfl,rfl⟩
 rw[kM]
 refine⟨⟨λ_=>aO 2 (bP.co u K0) rfl,trivial⟩, ?_⟩
 refine zF 12 rfl eL rfl ?_
 obtain⟨y1,Y1,m⟩:=aD m
 refine zE 5 rfl (dR (aBU _ Y1) rfl aBV rfl ?_)
 rintro x h' ⟨ag1,O1,K1,rfl,rfl⟩
 rw[kM]
 refine⟨⟨λ_=>aO 3 (bP.co (bP.co u K0) K1) rfl,trivial⟩, ?_⟩
 obtain⟨y2,Y2,m⟩:=aD m
 refine zE 8 rfl (dR (aBW _ Y2) rfl aBX rfl ?_)
 rintro x h' ⟨ag2,O2,K2,rfl,rfl⟩
 rw[kM]
 refine⟨⟨λ_=>aO 4 (bP.co (bP.co (bP.co u K0) K1) K2) rfl,trivial⟩, ?_⟩
 obtain⟨y3,Y3,m⟩:=aD m
 refine zE 11 rfl (dR (aBY _ Y3) rfl aBZ rfl ?_)
 rintro x h' ⟨ag3,O3,K4,rfl,rfl⟩
 rw[kM]
 refine⟨⟨λ_=>aO 5 (bP.co (bP.co (bP.co (bP.co u K0) K1) K2) K4) rfl,trivial⟩, ?_⟩
 refine zE 13 rfl (aL 5 ([nZ p0.Seq,aZ ag0,.sl none 35 (List.map aK p0.Chunks),.sl none 3 (List.map cH p0.Exps),.sl none 4 (List.map dG p0.Vols)]) (bP.co (bP.co (bP.co (bP.co u K0) K1) K2) K4) rfl rfl (cM rfl) (cG (cC _ _ _) rfl) L5 rfl rfl λK5=>⟨⟨λe=>absurd e (by decide),trivial⟩, ?_⟩)
 refine zF 14 rfl eW rfl (zE 15 rfl (aL 5 ([nZ p0.Seq,aZ ag0,aZ ag1,.sl none 3 (List.map cH p0.Exps),.sl none 4 (List.map dG p0.Vols)]) K5 rfl rfl (cM rfl) (cG (cC _ _ _) rfl) D9 rfl rfl λK7=>⟨⟨λe=>absurd e (by decide),trivial⟩, ?_⟩))
 refine zF 16 rfl eU rfl (zE 17 rfl (aL 5 ([nZ p0.Seq,aZ ag0,aZ ag1,aZ ag2,.sl none 4 (List.map dG p0.Vols)]) K7 rfl rfl (cM rfl) (cG (cC _ _ _) rfl) L6 rfl rfl λK8=>⟨⟨λe=>absurd e (by decide),trivial⟩, ?_⟩))
 refine zF 18 rfl iW rfl (zE 19 rfl (aL 5 ([nZ p0.Seq,aZ ag0,aZ ag1,aZ ag2,aZ ag3]) K8 rfl rfl (cM rfl) (cG (cC _ _ _) rfl) UY rfl rfl λK9=>⟨⟨λe=>absurd e (by decide),trivial⟩, ?_⟩))
 refine zX (qk (f:=.c 23 _ (.c 22 _ (.c 21 _ (.c 19 _ (.c 16 _ (.c 13 _ (.c 20 _ (.c 10 _ (.c 18 _ (.c 17 _ (.c 15 _ (.c 14 _ (.c 12 _ (.c 11 _ (.c 9 _ (.c 8 _ _)))))))))))))))) K9 rfl (vs (vs (qE (toN (L':=([a8 ag3 y3,bR (⟨ag2,List.replicate (y2:List aT).length none⟩:dI) y2,cD ag1 y1,cP ag0 y0,(some k5,.obj 30 (i7)),OC k2 p0.Seq ag0 ag1 ((⟨ag2,List.replicate (y2:List aT).length none⟩:dI).a) ag3]++(bS (⟨ag2,List.replicate (y2:List aT).length none⟩:dI) y2))) (λ_=>rfl) [[_], [_], [_], [_], [_], [_]] rfl 1 rfl rfl) (qE (toN (L':=([a8 ag3 y3,bR (⟨ag2,List.replicate (y2:List aT).length none⟩:dI) y2,aY (⟨ag1,List.replicate (y1:List aB).length none⟩:dI) y1,cP ag0 y0,(some k5,.obj 30 (i7)),OC k2 p0.Seq ag0 ((⟨ag1,List.replicate (y1:List aB).length none⟩:dI).a) ((⟨ag2,List.replicate (y2:List aT).length none⟩:dI).a) ag3]++((bS (⟨ag2,List.replicate (y2:List aT).length none⟩:dI) y2)++(bB (⟨ag1,List.replicate (y1:List aB).length none⟩:dI) y1)))) (λ_=>rfl) [[_], [_], [_], [_], [_], [_],_] rfl 2 rfl rfl) (qE (toN (L':=([a8 ag3 y3,bR (⟨ag2,List.replicate (y2:List aT).length none⟩:dI) y2,aY (⟨ag1,List.replicate (y1:List aB).length none⟩:dI) y1,bL (⟨ag0,List.replicate (y0:List aH).length none⟩:dI) y0,(some k5,.obj 30 (i7)),OC k2 p0.Seq ((⟨ag0,List.replicate (y0:List aH).length none⟩:dI).a) ((⟨ag1,List.replicate (y1:List aB).length none⟩:dI).a) ((⟨ag2,List.replicate (y2:List aT).length none⟩:dI).a) ag3]++((bS (⟨ag2,List.replicate (y2:List aT).length none⟩:dI) y2)++((bB (⟨ag1,List.replicate (y1:List aB).length none⟩:dI) y1)++(bO (⟨ag0,List.replicate (y0:List aH).length none⟩:dI) y0))))) (λ_=>rfl) [[_], [_], [_], [_], [_], [_],_,_] rfl 3 rfl rfl) (v0 (dX eL rfl rfl (vl 5 (aw (⟨ag0,List.replicate (y0:List aH).length none⟩:dI).a.t (⟨ag0,List.replicate (y0:List aH).length none⟩:dI).a.n (⟨ag0,List.replicate (y0:List aH).length none⟩:dI).a.cap) fI rfl rfl rfl (bU (fB kZ ((CL.zero (l:=aH.Locs) (szi:=4) O0).k.a) rfl) ?_))))))))))
 refine WE m (σ:=(List aH)×Int) (τ:=dI) (λg s=>([a8 ag3 y3,bR (⟨ag2,List.replicate (y2:List aT).length none⟩:dI) y2,aY (⟨ag1,List.replicate (y1:List aB).length none⟩:dI) y1,bL g s.1,(some k5,.obj 30 (i7)),OC k2 p0.Seq g.a ((⟨ag1,List.replicate (y1:List aB).length none⟩:dI).a) ((⟨ag2,List.replicate (y2:List aT).length none⟩:dI).a) ag3]++((bS (⟨ag2,List.replicate (y2:List aT).length none⟩:dI) y2)++((bB (⟨ag1,List.replicate (y1:List aB).length none⟩:dI) y1)++(bO g s.1))))) (λg s=>CL aH.Locs 4 4 g (s.1:List aH) s.2.toNat (y0:List aH).length) (λg s=>nG aH.Locs 4 4 g (s.1:List aH)) (λg s=>.c 1 (.ptr k2 0) (.c 2 (.ptr k5 0) (.c 26 (nZ (y0.length:Int)) (.c 27 (nZ s.2) .nil)))) (⟨ag0,List.replicate (y0:List aH).length none⟩:dI) (CL.zero (l:=aH.Locs) (szi:=4) O0) (lx (.k4 .nil)) ?_ ?_
 rintro ng0 ⟨q0,q1⟩ x O4 m
 replace m:tT w y0 q0 q1=some x:=m
 unfold tT at m
 refine vs (v0 (vs (v0 ?_)))
 apply vi m <;> intro c0 m
 refine v0 (vs (v0 (vs (v0 (vs (v0 (dX eL rfl rfl (vl 5 (aZ ng0.a) fI rfl rfl rfl ?_))))))))
 obtain⟨x0,X0,m⟩:=aD m
 refine bU (dF (O4.k.ix X0) jL O4.k.z rfl rfl) (qE (NL (L':=([a8 ag3 y3,bR (⟨ag2,List.replicate (y2:List aT).length none⟩:dI) y2,aY (⟨ag1,List.replicate (y1:List aB).length none⟩:dI) y1,bL ng0 q0,(some k5,.obj 30 (i7)),OC k2 p0.Seq ng0.a ((⟨ag1,List.replicate (y1:List aB).length none⟩:dI).a) ((⟨ag2,List.replicate (y2:List aT).length none⟩:dI).a) ag3]++((bS (⟨ag2,List.replicate (y2:List aT).length none⟩:dI) y2)++((bB (⟨ag1,List.replicate (y1:List aB).length none⟩:dI) y1)++(lG 81 aN ((nl aH.Locs (zg (q0:List aH) ng0.gs)).eraseIdx q1.toNat)))))) [[_], [_], [_], [_], [_], [_],_,_,_] rfl 8 (q1.toNat) rfl rfl) (v0 (vz [(14,ng0.a.t,.obj 60 (fl mA (zg (q0:List aH) ng0.gs) ng0.a.sp))] mixed (λu=>⟨λ_=>aO 3 u rfl,trivial⟩) λu=>zC 0 rfl (fA (wD _ _) rfl) (zC 1 rfl (fA (wD _ _) rfl) (zC 2 rfl (fA (wD _ _) rfl) (zC 3 rfl (iV (bK.ne O4.k.z (O4.k.ix X0)) rfl) (zC 4 rfl (cW (bK.ne O4.k.z (O4.k.ix X0)) rF rfl rfl) (zO 5 rfl (λ_ _ hi hB=>eJ (fo:=1) (.agg (bI x0.Man)) (O4.k.ix X0) mU O4.k.z pQ rfl (fS.get 0 hi rfl (hB 14 (by kernel_rfl))) (λ_=>rfl)) ?_))))))))
 obtain⟨y4,Y4,m⟩:=aD m
 refine zC 6 rfl (bV (aHJ _ Y4) rfl aBR rfl) (zC 7 rfl (fA (wD _ _) rfl) (zC 8 rfl (iV (bK.ne O4.k.z (O4.k.ix X0)) rfl) (zC 9 rfl (cW (bK.ne O4.k.z (O4.k.ix X0)) lB rfl rfl) (zO 10 rfl (λ_ _ hi hB=>iN (eJ (fo:=3) (awO aN 4 (gx ng0.gs q1.toNat) x0.Locs) (O4.k.ix X0) mU O4.k.z fT rfl (fS.get 0 hi rfl (hB 14 (by kernel_rfl))) (λ_=>rfl)) (bD.of_eq (congrArg (λz=>awO aN 4 z x0.Locs) (O4.post _ (Nat.le_refl _))))) ?_))))
 obtain⟨y5,Y5,m⟩:=aD m
 refine zE 11 rfl (dR (RH _ Y5) rfl RI rfl ?_)
 rintro x h' ⟨ag4,O5,K10,rfl,rfl⟩
 rw[kM]
 refine⟨⟨λ_=>aO 4 (bP.co u K10) rfl,trivial⟩, ?_⟩
 refine zC 12 rfl (iV (bK.ne O4.k.z (O4.k.ix X0)) rfl) (zC 13 rfl (cW (bK.ne O4.k.z (O4.k.ix X0)) rF rfl rfl) (zE 14 rfl (cX (fo:=1) (x':=(({ x0 with Man:=y4}:aH),(gx ng0.gs q1.toNat))) 4 (bP.co u K10) (O4.k.ix X0) mU O4.k.z rfl rfl rfl rfl (cS.refl _ _) zR rfl rfl ?_)))
 intro K11
 have hs0:tI aH.Locs 4 4 ng0 (q0:List aH):=O4.k
 have hn0:hp h _=hp h ([jZ ag4 y5,a8 ag3 y3,bR (⟨ag2,List.replicate (y2:List aT).length none⟩:dI) y2,aY (⟨ag1,List.replicate (y1:List aB).length none⟩:dI) y1,bL ng0 (q0.set q1.toNat ({ x0 with Man:=y4})),(some k5,.obj 30 (i7)),OC k2 p0.Seq ng0.a ((⟨ag1,List.replicate (y1:List aB).length none⟩:dI).a) ((⟨ag2,List.replicate (y2:List aT).length none⟩:dI).a) ag3]++((bS (⟨ag2,List.replicate (y2:List aT).length none⟩:dI) y2)++((bB (⟨ag1,List.replicate (y1:List aB).length none⟩:dI) y1)++(lG 81 aN ((nl aH.Locs (zg (q0.set q1.toNat ({ x0 with Man:=y4}):List aH) ng0.gs)).eraseIdx q1.toNat)))))∧bP h ([jZ ag4 y5,a8 ag3 y3,bR (⟨ag2,List.replicate (y2:List aT).length none⟩:dI) y2,aY (⟨ag1,List.replicate (y1:List aB).length none⟩:dI) y1,bL ng0 (q0.set q1.toNat ({ x0 with Man:=y4})),(some k5,.obj 30 (i7)),OC k2 p0.Seq ng0.a ((⟨ag1,List.replicate (y1:List aB).length none⟩:dI).a) ((⟨ag2,List.replicate (y2:List aT).length none⟩:dI).a) ag3]++((bS (⟨ag2,List.replicate (y2:List aT).length none⟩:dI) y2)++((bB (⟨ag1,List.replicate (y1:List aB).length none⟩:dI) y1)++(lG 81 aN ((nl aH.Locs (zg (q0.set q1.toNat ({ x0 with Man:=y4}):List aH) ng0.gs)).eraseIdx q1.toNat))))):=eqN (L:=_) K11 (by unfold bL; (try unfold bO); rw[(hs0.set (x':=({ x0 with Man:=y4}:aH)) X0 rfl).2.2,← (hs0.set (x':=({ x0 with Man:=y4}:aH)) X0 rfl).2.1]; first | done | rfl)
 refine qJ hn0.1 (⟨⟨λe=>absurd e (by decide),trivial⟩, ?_⟩)
 refine zC 15 rfl (iV (bK.ne ((O4.set (x':=({ x0 with Man:=y4}:aH)) X0 rfl).k.z) ((O4.set (x':=({ x0 with Man:=y4}:aH)) X0 rfl).k.ix (cR (x':=({ x0 with Man:=y4}:aH)) X0))) rfl) (zC 16 rfl (cW (bK.ne ((O4.set (x':=({ x0 with Man:=y4}:aH)) X0 rfl).k.z) ((O4.set (x':=({ x0 with Man:=y4}:aH)) X0 rfl).k.ix (cR (x':=({ x0 with Man:=y4}:aH)) X0))) lB rfl rfl) (zE 17 rfl (cX (fo:=3) (x':=(({ ({ x0 with Man:=y4}:aH) with Locs:=y5}:aH),some ag4)) 4 hn0.2 ((O4.set (x':=({ x0 with Man:=y4}:aH)) X0 rfl).k.ix (cR (x':=({ x0 with Man:=y4}:aH)) X0)) mU ((O4.set (x':=({ x0 with Man:=y4}:aH)) X0 rfl).k.z) rfl rfl (cM rfl) (cG (cC _ _ _) rfl) (cS.refl _ _) pO rfl rfl ?_)))
 intro K12
 have O6:=(O4.set (x':=({ x0 with Man:=y4}:aH)) X0 rfl).step (x':=({ ({ x0 with Man:=y4}:aH) with Locs:=y5}:aH)) (cR (x':=({ x0 with Man:=y4}:aH)) X0) ag4 O5
 have hr0:=A3 (L':=(eC ag4 y5)::(([a8 ag3 y3,bR (⟨ag2,List.replicate (y2:List aT).length none⟩:dI) y2,aY (⟨ag1,List.replicate (y1:List aB).length none⟩:dI) y1,(ng0.a.t,.obj 60 (fl mA (((zg (q0.set q1.toNat ({ x0 with Man:=y4}):List aH) ng0.gs)).set q1.toNat (({ ({ x0 with Man:=y4}:aH) with Locs:=y5}:aH),some ag4)) ng0.a.sp)),(some k5,.obj 30 (i7)),OC k2 p0.Seq ng0.a ((⟨ag1,List.replicate (y1:List aB).length none⟩:dI).a) ((⟨ag2,List.replicate (y2:List aT).length none⟩:dI).a) ag3]:HL)++((bS (⟨ag2,List.replicate (y2:List aT).length none⟩:dI) y2)++((bB (⟨ag1,List.replicate (y1:List aB).length none⟩:dI) y1)++(lG 81 aN ((nl aH.Locs (zg (q0.set q1.toNat ({ x0 with Man:=y4}):List aH) ng0.gs)).eraseIdx q1.toNat)))))) K12 [[_], [_], [_], [_], [_], [_], [_],_,_,_] rfl [0,1,2,3,4,5,6,7,8,9] rfl rfl
 have hj0:=vM (L':=([a8 ag3 y3,bR (⟨ag2,List.replicate (y2:List aT).length none⟩:dI) y2,aY (⟨ag1,List.replicate (y1:List aB).length none⟩:dI) y1,bL (⟨ng0.a,ng0.gs.set q1.toNat (some ag4)⟩:dI) ((q0.set q1.toNat ({ x0 with Man:=y4})).set q1.toNat ({ ({ x0 with Man:=y4}:aH) with Locs:=y5})),(some k5,.obj 30 (i7)),OC k2 p0.Seq ((⟨ng0.a,ng0.gs.set q1.toNat (some ag4)⟩:dI).a) ((⟨ag1,List.replicate (y1:List aB).length none⟩:dI).a) ((⟨ag2,List.replicate (y2:List aT).length none⟩:dI).a) ag3]++((bS (⟨ag2,List.replicate (y2:List aT).length none⟩:dI) y2)++((bB (⟨ag1,List.replicate (y1:List aB).length none⟩:dI) y1)++(bO (⟨ng0.a,ng0.gs.set q1.toNat (some ag4)⟩:dI) ((q0.set q1.toNat ({ x0 with Man:=y4})).set q1.toNat ({ ({ x0 with Man:=y4}:aH) with Locs:=y5}))))))) [[_], [_], [_], [_], [_], [_],_,_,_] rfl 8 (zs:=nl aH.Locs (zg (q0.set q1.toNat ({ x0 with Man:=y4}):List aH) ng0.gs)) (j:=q1.toNat) (aH.Locs ({ ({ x0 with Man:=y4}:aH) with Locs:=y5}:aH),some ag4) (mH ((O4.set (x':=({ x0 with Man:=y4}:aH)) X0 rfl).k.nlat (cR (x':=({ x0 with Man:=y4}:aH)) X0))) rfl hr0.2 (by rw[← ((O4.set (x':=({ x0 with Man:=y4}:aH)) X0 rfl).k.setL (x':=({ ({ x0 with Man:=y4}:aH) with Locs:=y5}:aH)) (cR (x':=({ x0 with Man:=y4}:aH)) X0) ag4 O5).2.2,((O4.set (x':=({ x0 with Man:=y4}:aH)) X0 rfl).k.setL (x':=({ ({ x0 with Man:=y4}:aH) with Locs:=y5}:aH)) (cR (x':=({ x0 with Man:=y4}:aH)) X0) ag4 O5).2.1]; rfl)
 refine qJ (hr0.1.trans hj0.1) (⟨⟨λe=>absurd e (by decide),trivial⟩, ?_⟩)
 exact zX (qk (f:=QU 49 _ _ _ _ _ _ _ _ _ _ _ _ _ _ _ _ _) hj0.2 rfl (v0 (eH m (⟨ng0.a,ng0.gs.set q1.toNat (some ag4)⟩:dI) O6 (lx (.k4 .nil)))))
 exact v0 (lN m ng0 (O4.all c0) (lx (.k4 .nil)))
 rintro ng1 ⟨r0,r1⟩ t0 m
 refine vs (vs (v0 (dX eW rfl rfl (vl 5 (aw (⟨ag1,List.replicate (y1:List aB).length none⟩:dI).a.t (⟨ag1,List.replicate (y1:List aB).length none⟩:dI).a.n (⟨ag1,List.replicate (y1:List aB).length none⟩:dI).a.cap) fD rfl rfl rfl (bU (fB lI ((CL.zero (l:=aB.Locs) (szi:=4) O1).k.a) rfl) (WE m (σ:=(List aB)×Int) (τ:=dI) (λg s=>([a8 ag3 y3,bR (⟨ag2,List.replicate (y2:List aT).length none⟩:dI) y2,aY g s.1,bL ng1 r0,(some k5,.obj 30 (i7)),OC k2 p0.Seq ng1.a g.a ((⟨ag2,List.replicate (y2:List aT).length none⟩:dI).a) ag3]++((bS (⟨ag2,List.replicate (y2:List aT).length none⟩:dI) y2)++((bB g s.1)++(bO ng1 r0))))) (λg s=>CL aB.Locs 35 4 g (s.1:List aB) s.2.toNat (y1:List aB).length) (λg s=>nG aB.Locs 35 4 g (s.1:List aB)) (λg s=>.c 1 (.ptr k2 0) (.c 2 (.ptr k5 0) (.c 53 (nZ (y1.length:Int)) (.c 54 (nZ s.2) .nil)))) (⟨ag1,List.replicate (y1:List aB).length none⟩:dI) (CL.zero (l:=aB.Locs) (szi:=4) O1) (lx (.k4 .nil)) ?_ ?_))))))
 rintro ng2 ⟨q2,q3⟩ x O7 m
 replace m:tU w y1 q2 q3=some x:=m
 unfold tU at m
 refine vs (v0 (vs (v0 ?_)))
 apply vi m <;> intro c1 m
 refine v0 (vs (v0 (vs (v0 (vs (v0 (dX eW rfl rfl (vl 5 (aZ ng2.a) fD rfl rfl rfl ?_))))))))
 obtain⟨x1,X1,m⟩:=aD m
 refine bU (dF (O7.k.ix X1) h9 O7.k.z rfl rfl) (qE (NL (L':=([a8 ag3 y3,bR (⟨ag2,List.replicate (y2:List aT).length none⟩:dI) y2,aY ng2 q2,bL ng1 r0,(some k5,.obj 30 (i7)),OC k2 p0.Seq ng1.a ng2.a ((⟨ag2,List.replicate (y2:List aT).length none⟩:dI).a) ag3]++((bS (⟨ag2,List.replicate (y2:List aT).length none⟩:dI) y2)++((lG 81 aN ((nl aB.Locs (zg (q2:List aB) ng2.gs)).eraseIdx q3.toNat))++(bO ng1 r0))))) [[_], [_], [_], [_], [_], [_],_,_,_] rfl 7 (q3.toNat) rfl rfl) (v0 (vz [(14,ng2.a.t,.obj 44 (fl kO (zg (q2:List aB) ng2.gs) ng2.a.sp))] mixed (λu=>⟨λ_=>aO 2 u rfl,trivial⟩) λu=>zC 0 rfl (fA (wD _ _) rfl) (zC 1 rfl (fA (wD _ _) rfl) (zC 2 rfl (fA (wD _ _) rfl) (zC 3 rfl (iV (bK.ne O7.k.z (O7.k.ix X1)) rfl) (zC 4 rfl (cW (bK.ne O7.k.z (O7.k.ix X1)) lS rfl rfl) (zO 5 rfl (λ_ _ hi hB=>eJ (fo:=33) (.sl none 1 (List.map fX x1.Data)) (O7.k.ix X1) kC O7.k.z nY rfl (fS.get 0 hi rfl (hB 14 (by kernel_rfl))) (λ_=>rfl)) (zC 7 rfl (fA (wD _ _) rfl) (zC 8 rfl (iV (bK.ne O7.k.z (O7.k.ix X1)) rfl) (zC 9 rfl (cW (bK.ne O7.k.z (O7.k.ix X1)) jQ rfl rfl) (zO 10 rfl (λ_ _ hi hB=>iN (eJ (fo:=34) (awO aN 4 (gx ng2.gs q3.toNat) x1.Locs) (O7.k.ix X1) kC O7.k.z fT rfl (fS.get 0 hi rfl (hB 14 (by kernel_rfl))) (λ_=>rfl)) (bD.of_eq (congrArg (λz=>awO aN 4 z x1.Locs) (O7.post _ (Nat.le_refl _))))) ?_))))))))))))
 obtain⟨y6,Y6,m⟩:=aD m
 refine zE 6 rfl (dR (W96 _ Y6) rfl aE9 rfl ?_)
 rintro x h' ⟨tg0,t1,K13,rfl,rfl⟩
 rw[kM]
 refine⟨⟨λ_=>aO 3 (bP.co u K13) rfl,trivial⟩, ?_⟩
 obtain⟨y7,Y7,m⟩:=aD m
 refine zE 11 rfl (dR (RH _ Y7) rfl RI rfl ?_)
 rintro x h' ⟨ag5,O8,K14,rfl,rfl⟩
 rw[kM]
 refine⟨⟨λ_=>aO 4 (bP.co (bP.co u K13) K14) rfl,trivial⟩, ?_⟩
 refine zC 12 rfl (iV (bK.ne O7.k.z (O7.k.ix X1)) rfl) (zC 13 rfl (cW (bK.ne O7.k.z (O7.k.ix X1)) lS rfl rfl) (zE 14 rfl (GB (s:=67) (.sl none 1 (List.map fX y6)) (aU (.cons_cons _ (.cons _ (.refl _))) (bP.co (bP.co u K13) K14)).1 (Fz.ale (aU (.cons_cons _ (.cons _ (.refl _))) (bP.co (bP.co u K13) K14)).1 (sB _ 1 t1 (bP.co (bP.co u K13) K14) rfl (.refl _))) (cX (fo:=33) (x':=(({ x1 with Data:=y6}:aB),(gx ng2.gs q3.toNat))) 3 ((aU (.cons_cons _ (.cons _ (.refl _))) (bP.co (bP.co u K13) K14)).2) (O7.k.ix X1) kC O7.k.z rfl rfl rfl rfl (cS.refl _ _) EB rfl rfl ?_))))
 intro K15
 have hs1:tI aB.Locs 35 4 ng2 (q2:List aB):=O7.k
 have hn1:hp h _=hp h ([jZ ag5 y7,a8 ag3 y3,bR (⟨ag2,List.replicate (y2:List aT).length none⟩:dI) y2,aY ng2 (q2.set q3.toNat ({ x1 with Data:=y6})),bL ng1 r0,(some k5,.obj 30 (i7)),OC k2 p0.Seq ng1.a ng2.a ((⟨ag2,List.replicate (y2:List aT).length none⟩:dI).a) ag3]++((bS (⟨ag2,List.replicate (y2:List aT).length none⟩:dI) y2)++((lG 81 aN ((nl aB.Locs (zg (q2.set q3.toNat ({ x1 with Data:=y6}):List aB) ng2.gs)).eraseIdx q3.toNat))++(bO ng1 r0))))∧bP h ([jZ ag5 y7,a8 ag3 y3,bR (⟨ag2,List.replicate (y2:List aT).length none⟩:dI) y2,aY ng2 (q2.set q3.toNat ({ x1 with Data:=y6})),bL ng1 r0,(some k5,.obj 30 (i7)),OC k2 p0.Seq ng1.a ng2.a ((⟨ag2,List.replicate (y2:List aT).length none⟩:dI).a) ag3]++((bS (⟨ag2,List.replicate (y2:List aT).length none⟩:dI) y2)++((lG 81 aN ((nl aB.Locs (zg (q2.set q3.toNat ({ x1 with Data:=y6}):List aB) ng2.gs)).eraseIdx q3.toNat))++(bO ng1 r0)))):=eqN (L:=_) K15 (by unfold aY; (try unfold bB); rw[(hs1.set (x':=({ x1 with Data:=y6}:aB)) X1 rfl).2.2,← (hs1.set (x':=({ x1 with Data:=y6}:aB)) X1 rfl).2.1]; first | done | rfl)
 refine qJ hn1.1 (⟨⟨λe=>absurd e (by decide),trivial⟩, ?_⟩)
 refine zC 15 rfl (iV (bK.ne ((O7.set (x':=({ x1 with Data:=y6}:aB)) X1 rfl).k.z) ((O7.set (x':=({ x1 with Data:=y6}:aB)) X1 rfl).k.ix (cR (x':=({ x1 with Data:=y6}:aB)) X1))) rfl) (zC 16 rfl (cW (bK.ne ((O7.set (x':=({ x1 with Data:=y6}:aB)) X1 rfl).k.z) ((O7.set (x':=({ x1 with Data:=y6}:aB)) X1 rfl).k.ix (cR (x':=({ x1 with Data:=y6}:aB)) X1))) jQ rfl rfl) (zE 17 rfl (cX (fo:=34) (x':=(({ ({ x1 with Data:=y6}:aB) with Locs:=y7}:aB),some ag5)) 3 hn1.2 ((O7.set (x':=({ x1 with Data:=y6}:aB)) X1 rfl).k.ix (cR (x':=({ x1 with Data:=y6}:aB)) X1)) kC ((O7.set (x':=({ x1 with Data:=y6}:aB)) X1 rfl).k.z) rfl rfl (cM rfl) (cG (cC _ _ _) rfl) (cS.refl _ _) pO rfl rfl ?_)))
 intro K16
 have O9:=(O7.set (x':=({ x1 with Data:=y6}:aB)) X1 rfl).step (x':=({ ({ x1 with Data:=y6}:aB) with Locs:=y7}:aB)) (cR (x':=({ x1 with Data:=y6}:aB)) X1) ag5 O8
 have hr1:=A3 (L':=(eC ag5 y7)::(([a8 ag3 y3,bR (⟨ag2,List.replicate (y2:List aT).length none⟩:dI) y2,(ng2.a.t,.obj 44 (fl kO (((zg (q2.set q3.toNat ({ x1 with Data:=y6}):List aB) ng2.gs)).set q3.toNat (({ ({ x1 with Data:=y6}:aB) with Locs:=y7}:aB),some ag5)) ng2.a.sp)),bL ng1 r0,(some k5,.obj 30 (i7)),OC k2 p0.Seq ng1.a ng2.a ((⟨ag2,List.replicate (y2:List aT).length none⟩:dI).a) ag3]:HL)++((bS (⟨ag2,List.replicate (y2:List aT).length none⟩:dI) y2)++((lG 81 aN ((nl aB.Locs (zg (q2.set q3.toNat ({ x1 with Data:=y6}):List aB) ng2.gs)).eraseIdx q3.toNat))++(bO ng1 r0))))) K16 [[_], [_], [_], [_], [_], [_], [_],_,_,_] rfl [0,1,2,3,4,5,6,7,8,9] rfl rfl
 have hj1:=vM (L':=([a8 ag3 y3,bR (⟨ag2,List.replicate (y2:List aT).length none⟩:dI) y2,aY (⟨ng2.a,ng2.gs.set q3.toNat (some ag5)⟩:dI) ((q2.set q3.toNat ({ x1 with Data:=y6})).set q3.toNat ({ ({ x1 with Data:=y6}:aB) with Locs:=y7})),bL ng1 r0,(some k5,.obj 30 (i7)),OC k2 p0.Seq ng1.a ((⟨ng2.a,ng2.gs.set q3.toNat (some ag5)⟩:dI).a) ((⟨ag2,List.replicate (y2:List aT).length none⟩:dI).a) ag3]++((bS (⟨ag2,List.replicate (y2:List aT).length none⟩:dI) y2)++((bB (⟨ng2.a,ng2.gs.set q3.toNat (some ag5)⟩:dI) ((q2.set q3.toNat ({ x1 with Data:=y6})).set q3.toNat ({ ({ x1 with Data:=y6}:aB) with Locs:=y7})))++(bO ng1 r0))))) [[_], [_], [_], [_], [_], [_],_,_,_] rfl 7 (zs:=nl aB.Locs (zg (q2.set q3.toNat ({ x1 with Data:=y6}):List aB) ng2.gs)) (j:=q3.toNat) (aB.Locs ({ ({ x1 with Data:=y6}:aB) with Locs:=y7}:aB),some ag5) (mH ((O7.set (x':=({ x1 with Data:=y6}:aB)) X1 rfl).k.nlat (cR (x':=({ x1 with Data:=y6}:aB)) X1))) rfl hr1.2 (by rw[← ((O7.set (x':=({ x1 with Data:=y6}:aB)) X1 rfl).k.setL (x':=({ ({ x1 with Data:=y6}:aB) with Locs:=y7}:aB)) (cR (x':=({ x1 with Data:=y6}:aB)) X1) ag5 O8).2.2,((O7.set (x':=({ x1 with Data:=y6}:aB)) X1 rfl).k.setL (x':=({ ({ x1 with Data:=y6}:aB) with Locs:=y7}:aB)) (cR (x':=({ x1 with Data:=y6}:aB)) X1) ag5 O8).2.1]; rfl)
 refine qJ (hr1.1.trans hj1.1) (⟨⟨λe=>absurd e (by decide),trivial⟩, ?_⟩)
 exact zX (qk (f:=fq5 76 _ _ _ _ _ (.c 67 _ (S9 71 _ _ _ _ (fq6 66 _ _ _ _ _ _ _)))) hj1.2 rfl (v0 (eH m (⟨ng2.a,ng2.gs.set q3.toNat (some ag5)⟩:dI) O9 (lx (.k4 .nil)))))
 exact v0 (lN m ng2 (O7.all c1) (lx (.k4 .nil)))
 rintro ng3 ⟨r2,r3⟩ t2 m
 refine vs (vs (v0 (dX eU rfl rfl (vl 5 (aw (⟨ag2,List.replicate (y2:List aT).length none⟩:dI).a.t (⟨ag2,List.replicate (y2:List aT).length none⟩:dI).a.n (⟨ag2,List.replicate (y2:List aT).length none⟩:dI).a.cap) iG rfl rfl rfl (bU (fB pN ((CL.zero (l:=aT.Locs) (szi:=4) O2).k.a) rfl) (WE m (σ:=(List aT)×Int) (τ:=dI) (λg s=>([a8 ag3 y3,bR g s.1,aY ng3 r2,bL ng1 r0,(some k5,.obj 30 (i7)),OC k2 p0.Seq ng1.a ng3.a g.a ag3]++((bS g s.1)++((bB ng3 r2)++(bO ng1 r0))))) (λg s=>CL aT.Locs 3 4 g (s.1:List aT) s.2.toNat (y2:List aT).length) (λg s=>nG aT.Locs 3 4 g (s.1:List aT)) (λg s=>.c 1 (.ptr k2 0) (.c 2 (.ptr k5 0) (.c 80 (nZ (y2.length:Int)) (.c 81 (nZ s.2) .nil)))) (⟨ag2,List.replicate (y2:List aT).length none⟩:dI) (CL.zero (l:=aT.Locs) (szi:=4) O2) (lx (.k4 .nil)) ?_ ?_))))))
 rintro ng4 ⟨q4,q5⟩ x O10 m
 replace m:tV w y2 q4 q5=some x:=m
 unfold tV at m
 refine vs (v0 (vs (v0 ?_)))
 apply vi m <;> intro c2 m
 refine v0 (vs (v0 (vs (v0 (qE (NL (L':=([a8 ag3 y3,bR ng4 q4,aY ng3 r2,bL ng1 r0,(some k5,.obj 30 (i7)),OC k2 p0.Seq ng1.a ng3.a ng4.a ag3]++((lG 81 aN ((nl aT.Locs (zg (q4:List aT) ng4.gs)).eraseIdx q5.toNat))++((bB ng3 r2)++(bO ng1 r0))))) [[_], [_], [_], [_], [_], [_],_,_,_] rfl 6 (q5.toNat) rfl rfl) (v0 (vz [(1000000,some k2,.obj 30 ([nZ p0.Seq,aZ ng1.a,aZ ng3.a,aZ ng4.a,aZ ag3])),(12,ng4.a.t,.obj 99 (fl mV (zg (q4:List aT) ng4.gs) ng4.a.sp))] mixed (λu=>⟨λ_=>aO 5 u rfl,λ_=>aO 1 u rfl,trivial⟩) λu=>zF 0 rfl eU rfl (zL 1 0 (aZ ng4.a) rfl iG rfl rfl rfl (zI 2 rfl rfl (zF 3 rfl eU rfl (zL 4 0 (aZ ng4.a) rfl iG rfl rfl rfl (zI 5 rfl rfl ?_))))))))))))
 obtain⟨x2,X2,m⟩:=aD m
 refine zC 6 rfl (dF (O10.k.ix X2) iR O10.k.z rfl rfl) (zC 7 rfl (cW (bK.ne O10.k.z (O10.k.ix X2)) mR rfl rfl) (zO 8 rfl (λ_ _ hi hB=>iN (eJ (fo:=2) (awO aN 4 (gx ng4.gs q5.toNat) x2.Locs) (O10.k.ix X2) tM O10.k.z fT rfl (fS.get 1 hi rfl (hB 12 (by kernel_rfl))) (λ_=>rfl)) (bD.of_eq (congrArg (λz=>awO aN 4 z x2.Locs) (O10.post _ (Nat.le_refl _))))) ?_))
 obtain⟨y8,Y8,m⟩:=aD m
 refine zE 9 rfl (dR (RH _ Y8) rfl RI rfl ?_)
 rintro x h' ⟨ag6,O11,K17,rfl,rfl⟩
 rw[kM]
 refine⟨⟨λ_=>aO 6 (bP.co u K17) rfl,λ_=>aO 2 (bP.co u K17) rfl,trivial⟩, ?_⟩
 obtain⟨x3,X3,m⟩:=aD m
 refine zC 10 rfl (dF (O10.k.ix X3) iR O10.k.z rfl rfl) (zC 11 rfl (cW (bK.ne O10.k.z (O10.k.ix X3)) mR rfl rfl) (zE 12 rfl (cX (fo:=2) (x':=(({ x3 with Locs:=y8}:aT),some ag6)) 2 (bP.co u K17) (O10.k.ix X3) tM O10.k.z rfl rfl (cM rfl) (cG (cC _ _ _) rfl) (cS.refl _ _) pO rfl rfl ?_)))
 intro K18
 have O12:=O10.step (x':=({ x3 with Locs:=y8}:aT)) X3 ag6 O11
 have hr2:=A3 (L':=(eC ag6 y8)::(([a8 ag3 y3,(ng4.a.t,.obj 99 (fl mV (((zg (q4:List aT) ng4.gs)).set q5.toNat (({ x3 with Locs:=y8}:aT),some ag6)) ng4.a.sp)),aY ng3 r2,bL ng1 r0,(some k5,.obj 30 (i7)),OC k2 p0.Seq ng1.a ng3.a ng4.a ag3]:HL)++((lG 81 aN ((nl aT.Locs (zg (q4:List aT) ng4.gs)).eraseIdx q5.toNat))++((bB ng3 r2)++(bO ng1 r0))))) K18 [[_], [_], [_], [_], [_], [_], [_],_,_,_] rfl [0,1,2,3,4,5,6,7,8,9] rfl rfl
 have hj2:=vM (L':=([a8 ag3 y3,bR (⟨ng4.a,ng4.gs.set q5.toNat (some ag6)⟩:dI) (q4.set q5.toNat ({ x3 with Locs:=y8})),aY ng3 r2,bL ng1 r0,(some k5,.obj 30 (i7)),OC k2 p0.Seq ng1.a ng3.a ((⟨ng4.a,ng4.gs.set q5.toNat (some ag6)⟩:dI).a) ag3]++((bS (⟨ng4.a,ng4.gs.set q5.toNat (some ag6)⟩:dI) (q4.set q5.toNat ({ x3 with Locs:=y8})))++((bB ng3 r2)++(bO ng1 r0))))) [[_], [_], [_], [_], [_], [_],_,_,_] rfl 6 (zs:=nl aT.Locs (zg (q4:List aT) ng4.gs)) (j:=q5.toNat) (aT.Locs ({ x3 with Locs:=y8}:aT),some ag6) (mH (O10.k.nlat X3)) rfl hr2.2 (by rw[← (O10.k.setL (x':=({ x3 with Locs:=y8}:aT)) X3 ag6 O11).2.2,(O10.k.setL (x':=({ x3 with Locs:=y8}:aT)) X3 ag6 O11).2.1]; rfl)
 refine qJ (hr2.1.trans hj2.1) (⟨⟨λ_=>aO 5 hj2.2 rfl,λe=>absurd e (by decide),trivial⟩, ?_⟩)
 exact zX (qk (f:=LW 95 _ _ _ _ _ _ _ _ _ _ _ _ _) hj2.2 rfl (v0 (eH m (⟨ng4.a,ng4.gs.set q5.toNat (some ag6)⟩:dI) O12 (lx (.k4 .nil)))))
 exact v0 (lN m ng4 (O10.all c2) (lx (.k4 .nil)))
 rintro ng5 ⟨r4,r5⟩ t3 m
 refine vs (v0 (vl 5 (.agg ([nZ p0.Seq,aZ ng1.a,aZ ng3.a,aZ ng5.a,aZ ag3])) cZ rfl rfl rfl (ve λu=>aL 4 ([nZ p0.Seq,aZ ng1.a,aZ ng3.a,aZ ng5.a,aZ ag3]) u rfl rfl rfl (by repeat (first | exact rfl | refine cG (jG _ _ _) ?_ | refine cG (cC _ _ _) ?_ | refine cG (gG _ _ _ _) ?_ | refine cG rfl ?_)) m8 rfl rfl λK19=>qk K19 rfl ?_)))
 refine v0 ?_
 cases m
 exact vr λu=>dW.of1 (.inl rfl) (sE (.agg ([nZ p0.Seq,aZ ng1.a,aZ ng3.a,aZ ng5.a,aZ ag3])) cZ rfl (aW 4 u rfl) rfl) (tJ (L':=([bL ng1 r0,aY ng3 r2,bR ng5 r4,a8 ag3 y3]++((bO ng1 r0)++((bB ng3 r2)++(bS ng5 r4))))) u [[_], [_], [_], [_], [_], [_],_,_,_] rfl [3,2,1,0,8,7,6] rfl rfl).2 (bD.refl _ _) ⟨ng1,t0,ng3,t2,ng5,t3,ag3,O3,(tJ (L':=([bL ng1 r0,aY ng3 r2,bR ng5 r4,a8 ag3 y3]++((bO ng1 r0)++((bB ng3 r2)++(bS ng5 r4))))) u [[_], [_], [_], [_], [_], [_],_,_,_] rfl [3,2,1,0,8,7,6] rfl rfl).1,rfl,rfl⟩
theorem aHL:aP Tryz.prog 77=true:=by kernel_rfl
end Go.Proofs.YtbbifdfldpfphaaGreat
namespace Go.Vm
def rJ (l:List (Int×Nat)):List (Value×Value):=l.map λx=>(.int .i64 x.1,.func (.func x.2) #[] #[])
theorem oR (x:Int):∀(l:List (Int×Nat)) (ents:List MapEntry) (i:Nat),ents.map (λe=>(e.key,e.val))=rJ l→
    (∀e,l.find? (λe=>e.1==x)=some e→∃j,Instr.findNow (.int .i64) (.int .i64 x) ents i=some (some (j,.func (.func e.2) #[] #[])))∧
    (l.find? (λe=>e.1==x)=none→Instr.findNow (.int .i64) (.int .i64 x) ents i=some none)
  | [], [],i,_=>⟨λe h=>by simp at h,λ_=>rfl⟩
  | [],_::_,_,h=>by simp[rJ] at h
  | _::_, [],_,h=>by simp[rJ] at h
  | y::l,e::ents,i,h=>by
    simp only[List.map_cons,rJ,List.cons.injEq,Prod.mk.injEq] at h
    obtain⟨⟨h1,h2⟩,h3⟩:=h
    obtain⟨ih1,ih2⟩:=oR x l ents (i+1) h3
    have hn:Instr.findNow (.int .i64) (.int .i64 x) (e::ents) i=(if (y.1==x)=true then some (some (i,e.val)) else Instr.findNow (.int .i64) (.int .i64 x) ents (i+1)):=by
      simp only[Instr.findNow,h1,Instr.sameNow,if_true]
      by_cases q:x=y.1
      · subst q; simp
      · have q1:(x==y.1)=false:=by simpa using q
        have q2:(y.1==x)=false:=by simpa using Ne.symm q
        rw[q1,q2]; simp
    rw[hn]
    simp only[List.find?_cons]
    cases q:(y.1==x)
    · exact⟨λe' he=>by obtain⟨j,hj⟩:=ih1 e' (by simpa using he); exact⟨j,by simpa using hj⟩,λhe=>by simpa using ih2 (by simpa using he)⟩
    · exact⟨λe' he=>by simp at he; subst he; exact⟨i,by simp[h2]⟩,λhe=>by simp at he⟩
section
variable {P:Program} {h h0:aF} {L:HL} {n:Nat} {kvs:KV} {ty:TypeId} {pos:String} {dK:Array Edge}
theorem IJ {l:List (Int×Nat)} {x:Int} {dst:Option Tmp} {t kt et:TypeId} {m y:Operand} {q:bT} {z:Value} (ht:P.underlying t=some (.map kt et)) (hz:(P.info? et).bind (·.zero)=some z) (hkt:P.underlying kt=some (.int .i64))
    (hm:dB n kvs m= .mpv q) (hy:dB n kvs y= .sc (.int .i64 x)) (hq:h q=some (.mp (rJ l))):
    eB P ⟨dst,.lookup t m y true,ty,pos,dK,none⟩ (match l.find? (λe=>e.1==x) with | some e=>.tup [.fn (.func e.2) [],.sc (.bool true)] | none=>.tup [.any,.sc (.bool false)]) (fm n kvs) h:=by
  refine dY (x:=match l.find? (λe=>e.1==x) with | some e=>.tup [.fn (.func e.2) [],.sc (.bool true)] | none=>.tup [.any,.sc (.bool false)]) (λE w ac r hv=> ?_) ⟨rfl,rfl⟩
  have vm:=hv m (by simp[Op.operands])
  have vy:=hv y (by simp[Op.operands])
  rw[bF,hm] at vm; rw[bF,hy] at vy
  simp only[VR] at vm vy
  obtain⟨g,hg,em⟩:=vm
  obtain⟨g',ents,clk,e1,e2,e3⟩:=r.mp q _ hq
  rw[hg] at e1; cases e1
  have hck:=λb=>oF (P:=P) hkt 9999 x b w
  obtain⟨f1,f2⟩:=oR x l ents.toList 0 e3
  have hz1:(zeroValue et).run P w= .ok z w:=by
    cases hi:P.info? et with
    | none=>rw[hi] at hz; simp at hz
    | some i=>
      rw[hi] at hz
      simp at hz
      simp[zeroValue,typeInfo,hi,hz]
  have hgo:(getObj g).run P w= .ok (.map ents clk) w:=by simp[getObj,Sem.run,e2]
  simp only[execOp,em,vy,Instr.lookup,Sem.run_bind,run_underlying ht,Result.andThen_ok,hgo,Sem.run_pure,hck,Instr.findKey,run_underlying hkt]
  cases ha:l.find? (λe=>e.1==x) with
  | some e=>
    obtain⟨j,a1⟩:=f1 e ha
    refine⟨.tuple #[.func (.func e.2) #[] #[],.bool true],by simp[a1], ?_⟩
    simp only[VR]
    exact⟨_,rfl,by simp[cI,VR]⟩
  | none=>
    have a1:=f2 ha
    refine⟨.tuple #[z,.bool false],by simp[a1,hz1], ?_⟩
    simp only[VR]
    exact⟨_,rfl,by simp[cI,VR]⟩
theorem yR {K:AV→aF→Prop} {l:List (Int×Nat)} {x:Int} {f:Nat} {dst:Option Tmp} {t kt et:TypeId} {m y v:Operand} {q:bT} (i:Nat) (hk:bP h0 L) (ht:P.underlying t=some (.map kt et)) (hkt:P.underlying kt=some (.int .i64))
    (hm:dB n kvs m= .mpv q) (hy:dB n kvs y= .sc (.int .i64 x)) (hv:dB n kvs v= .fn (.func f) []) (hi:L[i]? =some (some q,.mp (rJ l))) (hnew:l.find? (λe=>e.1==x)=none)
    (k:bP h0 (L.set i (some q,.mp (rJ (l++ [(x,f)]))))→K (.sc undef) (hp h0 (L.set i (some q,.mp (rJ (l++ [(x,f)])))))):
    i8 P ⟨dst,.insert t m y v,ty,pos,dK,none⟩ K (fm n kvs) (hp h0 L):=by
  intro E w a r hva Nx Qx hn
  have vm:=hva m (by simp[Op.operands])
  have vy:=hva y (by simp[Op.operands])
  have vv:=hva v (by simp[Op.operands])
  rw[bF,hm] at vm; rw[bF,hy] at vy; rw[bF,hv] at vv
  simp only[VR] at vm vy vv
  obtain⟨g,hg,em⟩:=vm
  obtain⟨cs,ev,hcs⟩:=vv
  have hc0:cs= #[]:=by
    have:cs.toList= []:=by
      cases hh:cs.toList with
      | nil=>rfl
      | cons a b=>rw[hh] at hcs; simp only[cI] at hcs
    simpa using this
  subst hc0
  obtain⟨g',ents,clk,e1,e2,e3⟩:=r.mp q _ (aW i hk hi)
  rw[hg] at e1; cases e1
  have hq:=aW i hk hi
  have hck:=λb=>oF (P:=P) hkt 9999 x b w
  obtain⟨f1,f2⟩:=oR x l ents.toList 0 e3
  have hf:=f2 hnew
  have hgo:(getObj g).run P w= .ok (.map ents clk) w:=by simp[getObj,Sem.run,e2]
  have hglt:=(Array.getElem?_eq_some_iff.1 e2).1
  obtain⟨h1,h2,_⟩:=kL (e':=.mp (rJ (l++ [(x,f)]))) i hk hi (.inl rfl)
  have hes:(ents.push { key:=.int .i64 x,val:=.func (.func f) #[] #[],born:=clk}).toList.map (λe=>(e.key,e.val))=rJ (l++ [(x,f)]):=by
    simp only[Array.toList_push,List.map_append,e3,rJ,List.map_cons,List.map_nil]
  have hfind:(Instr.findKey kt (.int .i64 x) ents.toList).run P w= .ok none w:=by
    simp only[Instr.findKey,Sem.run_bind,run_underlying hkt,Result.andThen_ok,hf,Sem.run_pure]
  have hrun:(execOp a.eval ⟨dst,.insert t m y v,ty,pos,dK,none⟩).run P w= .ok .skip { w with heap:=w.heap.setIfInBounds g (.map (ents.push { key:=.int .i64 x,val:=.func (.func f) #[] #[],born:=clk}) (clk+1))}:=by
    simp only[execOp,em,vy,ev,Instr.mapUpdate,Sem.run_bind,run_underlying ht,Result.andThen_ok,hgo,hck,hfind]
    simp[setObj,Sem.run,e2]
  obtain⟨k1,r1⟩:=r.set_mp hq hg (ents.push { key:=.int .i64 x,val:=.func (.func f) #[] #[],born:=clk}) (clk+1) (w':= { w with heap:=w.heap.setIfInBounds g (.map (ents.push { key:=.int .i64 x,val:=.func (.func f) #[] #[],born:=clk}) (clk+1))}) (by simp[hglt]) (λg' hg'=>by simp[Ne.symm hg']) (by simp) rfl rfl rfl
  unfold Oper.wp
  rw[hrun]
  rw[hes,h1] at r1
  exact hn (.sc undef) undef _ E _ k1 r1 (by simp only[VR]) (k h2)
end
theorem EY {P:Program} {f:FuncId} {args:List AV} {Q Q':AV→aF→Prop} {H:aF} (hc:aM P f args H Q) (hq:∀r h',Q r h'→Q' r h'):aM P f args H Q':=hc.mono hq
end Go.Vm
namespace Go.Proofs.YtbbifdfldpfphaaGreat
open Go.Vm
def nQ:List (Int×Nat):= [(1,72),(2,73),(3,74),(4,75),(5,76)]
def oU (m:Nat) (f:Nat) (d:aA) (x:aV):Option (aA×Int):=
 if f=74 then (XP m d x).bind λo=>some ({ Seq:=o.2.1,Snaps:=o.2.2.1,Chunks:=o.2.2.2.1,Exps:=o.2.2.2.2.1,Vols:=o.2.2.2.2.2},o.1)
 else none
def RQ (m:Nat) (p0:aA) (p1:aV):Option (aA×Int):=
 match nQ.find? (λe=>e.1==p1.Kind) with
 | none=>some (bY,1)
 | some e=>(Q4 m p0).bind λy=>if (y !=0)=true then some (bY,1) else (N0 m p0).bind λd=>
 after ((oU m e.2 d p1).bind λs=>some (.brk s):Option (Lp (aA×Int) (aA×Int))) λs=>if (s.2 !=0)=true then some (bY,s.2) else (Q4 m s.1).bind λy2=>if (y2 !=0)=true then some (bY,1) else some (s.1,0)
abbrev N1 (k:bT) (d:aA) (a b c:dI) (v:dD):HL:= [OC k d.Seq a.a b.a c.a v,bL a d.Snaps,aY b d.Chunks,bR c d.Exps,a8 v d.Vols]++((bO a d.Snaps)++((bB b d.Chunks)++(bS c d.Exps)))
abbrev N2 (k:bT) (d:aA) (a b c v:dD):HL:= [OC k d.Seq a b c v,cP a d.Snaps,cD b d.Chunks,eO c d.Exps,a8 v d.Vols]
theorem aHM {h:aF} {k:bT} {d:aA} {a b c:dI} {v:dD} (oa:nG aH.Locs 4 4 a d.Snaps) (ob:nG aB.Locs 35 4 b d.Chunks) (oc:nG aT.Locs 3 4 c d.Exps) (m:bP h (N1 k d a b c v)) {n:Nat} {f:FR}:
 bP h (N2 k d a.a b.a c.a v)∧f0 (fm n f.k) (hp h (N2 k d a.a b.a c.a v)) (fm n f.k) (hp h (N1 k d a b c v)):=by
 obtain⟨k1,l1⟩:=KT (ty:=81) (n:=n) (f:=f) (h0:=h) (L':= [OC k d.Seq a.a b.a c.a v,cP a.a d.Snaps,aY b d.Chunks,bR c d.Exps,a8 v d.Vols]++((bB b d.Chunks)++(bS c d.Exps))) [[_], [_], [_], [_], [_],_,_,_] rfl 1 5 fC wP oa.k rfl rfl (by decide) rfl m
 obtain⟨k2,l2⟩:=KT (ty:=81) (n:=n) (f:=f) (h0:=h) (L':= [OC k d.Seq a.a b.a c.a v,cP a.a d.Snaps,cD b.a d.Chunks,bR c d.Exps,a8 v d.Vols]++(bS c d.Exps)) [[_], [_], [_], [_], [_],_,_] rfl 2 5 fC tL ob.k rfl rfl (by decide) rfl k1
 obtain⟨k3,l3⟩:=KT (ty:=81) (n:=n) (f:=f) (h0:=h) (L':=N2 k d a.a b.a c.a v) [[_], [_], [_], [_], [_],_] rfl 3 5 fC CM oc.k rfl rfl (by decide) rfl k2
 exact⟨k3,(l1.trans l2).trans l3⟩
theorem WG {w:Nat} {f:Nat} {d:aA} {x:aV} {s:aA×Int} (h:aF) {k:bT} {a b c:dI} {v:dD} (oa:nG aH.Locs 4 4 a d.Snaps) (ob:nG aB.Locs 35 4 b d.Chunks) (oc:nG aT.Locs 3 4 c d.Exps) (ov:bK v 4 d.Vols.length) (u:bP h (N1 k d a b c v)) (m:oU w f d x=some s):
 aM Tryz.prog f [.ptr k 0,.agg (aJ x)] (hp h (N1 k d a b c v)) (λr h'=>∃a' b' c' v':dD,bK a' 4 s.1.Snaps.length∧bK b' 35 s.1.Chunks.length∧bK c' 3 s.1.Exps.length∧bK v' 4 s.1.Vols.length∧bP h (N2 k s.1 a' b' c' v')∧r=nZ s.2∧h'=hp h (N2 k s.1 a' b' c' v')):=by
 obtain⟨kp,lp⟩:=aHM oa ob oc u (n:= [AV.ptr k 0,AV.agg (aJ x)].length) (f:=B4 0 [AV.ptr k 0,AV.agg (aJ x)])
 unfold oU at m
 split at m
 rename_i e; subst e
 obtain⟨o,ho,m⟩:=aD m
 cases m
 refine EY (W74 (p0:=d) h oa ob oc ov u ho) ?_
 rintro r h' ⟨a',oa',b',ob',c',oc',v',ov',hk',e1,e2⟩
 exact⟨a',b',c',v',oa',ob',oc',ov',hk',e1,e2⟩
 cases m
theorem RR {f:Nat} {u:Nat} {d:aA} {x:aV} {s:aA×Int} (m:oU u f d x=some s):aP Tryz.prog f=true:=by
 unfold oU at m
 split at m
 rename_i e; subst e; exact aHH
 cases m
theorem W29 {j:Nat} {p0:aA} {p1:aV} {o:aA×Int} (h:aF) (m:RQ j p0 p1=some o):
 aM Tryz.prog 29 [.agg (aC p0),.agg (aJ p1)] h (λr h'=>r= .tup [.agg (aC o.1),nZ o.2]∧h'=h):=by
 refine fK 44 [.cell 4 30,.tmp 5] Tryz.func29 rfl rfl rfl rfl ?_
 unfold RQ at m
 repeat refine vs ?_
 refine v0 ?_
 refine gX rfl rfl λk2 K3=> ?_
 refine gX rfl rfl λk3 K3=> ?_
 refine ve λu=>bG (i7) u sK rfl rfl λk4 K9=>qk K9 rfl ?_
 repeat refine vs ?_
 refine v0 ?_
 refine ve λu=>BY u λkm K3=>qk K3 rfl ?_
 refine ve λu=>yR (l:= []) 0 u xW u3 rfl rfl rfl rfl rfl λK3=>qk K3 rfl ?_
 refine ve λu=>yR 0 u xW u3 rfl rfl rfl rfl rfl λK3=>qk K3 rfl ?_
 refine ve λu=>yR 0 u xW u3 rfl rfl rfl rfl rfl λK3=>qk K3 rfl ?_
 refine ve λu=>yR 0 u xW u3 rfl rfl rfl rfl rfl λK3=>qk K3 rfl ?_
 refine ve λu=>yR 0 u xW u3 rfl rfl rfl rfl rfl λK3=>qk K3 rfl ?_
 repeat refine vs ?_
 refine v0 (dX B8 rfl rfl (vl 2 _ cB rfl rfl rfl ?_))
 have hz:(Tryz.prog.info? 117).bind (·.zero)=some (.nilFunc):=by kernel_rfl
 cases hf:nQ.find? (λe=>e.1==p1.Kind) with
 | none=>
 rw[hf] at m
 refine vn (λu=>iN (IJ (l:=nQ) xW hz u3 rfl rfl (aW 0 u rfl)) (bD.of_eq (y:=.tup [.any,.sc (.bool false)]) (by rw[hf]))) ?_
 repeat refine vs ?_
 refine v0 (v0 ?_)
 repeat refine vs ?_
 refine v0 (bU (eI (i7) GL rfl) ?_)
 refine ve λu=>aL 1 (i7) u rfl rfl rfl rfl m8 rfl rfl λK0=>qk K0 rfl ?_
 refine v0 ?_
 cases m
 exact vr λu=>dW.of2 (.inl rfl) (sE (.agg (i7)) cZ rfl (aW 1 u rfl) rfl) (gN _ _ (.sc (.int _ _)) rfl) (aU (List.nil_sublist _) u).1 (bD.agg (.cons (bD.refl _ _) (.cons (a9 _) (.cons (a9 _) (.cons (a9 _) (.cons (a9 _) .nil)))))) (bD.refl _ _) ⟨rfl,rfl⟩
 | some e=>
 rw[hf] at m
 refine vn (λu=>iN (IJ (l:=nQ) xW hz u3 rfl rfl (aW 0 u rfl)) (bD.of_eq (y:=.tup [.fn (.func e.2) [],.sc (.bool true)]) (by rw[hf]))) ?_
 repeat refine vs ?_
 refine v0 (vl 3 (.agg (aC p0)) cZ rfl rfl rfl ?_)
 refine vk W31 MW m rfl rfl λ_ m=> ?_
 refine v0 ?_
 apply vi m <;> intro hc m
 repeat refine vs ?_
 refine v0 (bU (eI (i7) GL rfl) ?_)
 refine ve λu=>aL 1 (i7) u rfl rfl rfl rfl m8 rfl rfl λK0=>qk K0 rfl ?_
 refine v0 ?_
 cases m
 exact vr λu=>dW.of2 (.inl rfl) (sE (.agg (i7)) cZ rfl (aW 1 u rfl) rfl) (gN _ _ (.sc (.int _ _)) rfl) (aU (List.nil_sublist _) u).1 (bD.agg (.cons (bD.refl _ _) (.cons (a9 _) (.cons (a9 _) (.cons (a9 _) (.cons (a9 _) .nil)))))) (bD.refl _ _) ⟨rfl,rfl⟩
 refine v0 ?_
 repeat refine vs ?_
 refine v0 (vl 3 (.agg (aC p0)) cZ rfl rfl rfl ?_)
 obtain⟨d,Y0,m⟩:=aD m
 refine ve λu=>dR (aHK _ Y0) rfl aHL rfl ?_
 rintro x h' ⟨gs,oks,gc,okc,ge,oke,gv,okv,K1,rfl,rfl⟩
 have w:=ER (L':= [bL gs d.Snaps,aY gc d.Chunks,bR ge d.Exps,a8 gv d.Vols,(some km,.mp (rJ nQ)),(some k4,.obj 30 (i7)),(some k3,.obj 62 (aJ p1)),(some k2,.obj 30 (aC p0))]++((bO gs d.Snaps)++((bB gc d.Chunks)++(bS ge d.Exps)))) u K1 [[_], [_], [_], [_],_,_,_] [[_], [_], [_], [_]] rfl rfl [0,1,2,3,7,8,9,10,4,5,6] rfl rfl
 refine qk w.2 w.1 ?_
 refine ve λu=>bG (i7) u sK rfl rfl λk9 K2=>qk K2 rfl ?_
 refine ve λu=>aL 0 ([nZ d.Seq,aZ gs.a,aZ gc.a,aZ ge.a,aZ gv]) u rfl rfl rfl (by repeat (first | exact rfl | refine cG (cC _ _ _) ?_ | refine cG rfl ?_)) m8 rfl rfl λK4=>qk K4 rfl ?_
 repeat refine vs ?_
 refine oG m (σ:=aA×Int) (τ:=dD×dD×dD×dD) (λg s=> [OC k9 s.1.Seq g.1 g.2.1 g.2.2.1 g.2.2.2,cP g.1 s.1.Snaps,cD g.2.1 s.1.Chunks,eO g.2.2.1 s.1.Exps,a8 g.2.2.2 s.1.Vols,(some km,.mp (rJ nQ)),(some k4,.obj 30 (i7)),(some k3,.obj 62 (aJ p1)),(some k2,.obj 30 (aC p0))]) (λg s=>bK g.1 4 s.1.Snaps.length∧bK g.2.1 35 s.1.Chunks.length∧bK g.2.2.1 3 s.1.Exps.length∧bK g.2.2.2 4 s.1.Vols.length) (λg s=>.c 4 (.ptr k4 0) (.c 9 (.ptr k9 0) (.c 10 (nZ s.2) .nil))) (λx m=> ?_) ?_
 refine v0 (vl 7 (.agg (aJ p1)) sO rfl rfl rfl ?_)
 obtain⟨s,hs,m⟩:=aD m
 refine ve λu=> ?_
 have pq:=EQ (A:=N1 k9 d gs gc ge gv) (R:= [(some km,.mp (rJ nQ)),(some k4,.obj 30 (i7)),(some k3,.obj 62 (aJ p1)),(some k2,.obj 30 (aC p0))]) u [[_], [_], [_], [_], [_], [_], [_], [_], [_],_,_,_] rfl [0,1,2,3,4,9,10,11] [5,6,7,8] rfl rfl rfl
 refine fJ pq.1 (dR (WG _ oks okc oke okv pq.2.2 hs) rfl (RR hs) rfl ?_)
 rintro r h' ⟨a',b',c',v',oa,ob,oc,ov,hk',rfl,rfl⟩
 have hq2:=ER (L':= [OC k9 s.1.Seq a' b' c' v',cP a' s.1.Snaps,cD b' s.1.Chunks,eO c' s.1.Exps,a8 v' s.1.Vols,(some km,.mp (rJ nQ)),(some k4,.obj 30 (i7)),(some k3,.obj 62 (aJ p1)),(some k2,.obj 30 (aC p0))]) pq.2.1 hk' [[_], [_], [_], [_], [_]] [[_], [_], [_], [_]] rfl rfl [0,1,2,3,4,5,6,7,8] rfl rfl
 refine qk hq2.2 hq2.1 ?_
 exact eH m (a',b',c',v') ⟨oa,ob,oc,ov⟩ (lx (.k3 .nil))
 rintro⟨a',b',c',v'⟩ ⟨dd,ee⟩ ⟨oa,ob,oc,ov⟩ m
 repeat refine vs ?_
 refine v0 ?_
 repeat refine vs ?_
 refine v0 (v0 ?_)
 apply vi m <;> intro hc m
 repeat refine vs ?_
 refine v0 (bU (eI (i7) GL rfl) ?_)
 refine ve λu=>aL 6 (i7) u rfl rfl rfl rfl m8 rfl rfl λK0=>qk K0 rfl ?_
 refine v0 ?_
 cases m
 exact vr λu=>dW.of2 (.inl rfl) (sE (.agg (i7)) cZ rfl (aW 6 u rfl) rfl) (gN _ _ (.sc (.int _ _)) rfl) (aU (List.nil_sublist _) u).1 (bD.agg (.cons (bD.refl _ _) (.cons (a9 _) (.cons (a9 _) (.cons (a9 _) (.cons (a9 _) .nil)))))) (bD.refl _ _) ⟨rfl,rfl⟩
 repeat refine vs ?_
 refine v0 (vl 0 (.agg ([nZ dd.Seq,aZ a',aZ b',aZ c',aZ v'])) cZ rfl rfl rfl ?_)
 obtain⟨_,Y1,m⟩:=aD m
 refine vn (λu=>bV (fH (.cons (Br.agg (.cons (Br.refl _ _) (.cons (Br.aw 1 eM oa u rfl) (.cons (Br.aw 2 cY ob u rfl) (.cons (Br.aw 3 f9 oc u rfl) (.cons (Br.aw 4 eT ov u rfl) .nil)))))) .nil) rfl (W31 _ Y1)) rfl MW rfl) (v0 ?_)
 apply vi m <;> intro c0 m
 repeat refine vs ?_
 refine v0 (bU (eI (i7) GL rfl) ?_)
 refine ve λu=>aL 6 (i7) u rfl rfl rfl rfl m8 rfl rfl λK0=>qk K0 rfl ?_
 refine v0 ?_
 cases m
 exact vr λu=>dW.of2 (.inl rfl) (sE (.agg (i7)) cZ rfl (aW 6 u rfl) rfl) (gN _ _ (.sc (.int _ _)) rfl) (aU (List.nil_sublist _) u).1 (bD.agg (.cons (bD.refl _ _) (.cons (a9 _) (.cons (a9 _) (.cons (a9 _) (.cons (a9 _) .nil)))))) (bD.refl _ _) ⟨rfl,rfl⟩
 refine v0 ?_
 repeat refine vs ?_
 refine v0 (vl 0 (.agg ([nZ dd.Seq,aZ a',aZ b',aZ c',aZ v'])) cZ rfl rfl rfl ?_)
 refine ve λu=>aL 6 ([nZ dd.Seq,aZ a',aZ b',aZ c',aZ v']) u rfl rfl rfl (by repeat (first | exact rfl | refine cG (cC _ _ _) ?_ | refine cG rfl ?_)) m8 rfl rfl λK5=>qk K5 rfl ?_
 refine v0 ?_
 cases m
 refine vrl λu=> ?_
 obtain⟨K6,le0⟩:=f0.fzO (n:=44) (f:=_) 1 5 ([nZ dd.Seq,.sl none 4 (List.map bJ dd.Snaps),aZ b',aZ c',aZ v']) u rfl (.cons (Fz.refl _ _ _) (.cons (Fz.aw 1 eM oa u rfl (.refl _)) (.cons (Fz.refl _ _ _) (.cons (Fz.refl _ _ _) (.cons (Fz.refl _ _ _) .nil)))))
 obtain⟨K7,le1⟩:=f0.fzO (n:=44) (f:=_) 1 4 ([nZ dd.Seq,.sl none 4 (List.map bJ dd.Snaps),.sl none 35 (List.map aK dd.Chunks),aZ c',aZ v']) K6 rfl (.cons (Fz.refl _ _ _) (.cons (Fz.refl _ _ _) (.cons (Fz.aw 1 cY ob K6 rfl (.refl _)) (.cons (Fz.refl _ _ _) (.cons (Fz.refl _ _ _) .nil)))))
 obtain⟨K8,le2⟩:=f0.fzO (n:=44) (f:=_) 1 3 ([nZ dd.Seq,.sl none 4 (List.map bJ dd.Snaps),.sl none 35 (List.map aK dd.Chunks),.sl none 3 (List.map cH dd.Exps),aZ v']) K7 rfl (.cons (Fz.refl _ _ _) (.cons (Fz.refl _ _ _) (.cons (Fz.refl _ _ _) (.cons (Fz.aw 1 f9 oc K7 rfl (.refl _)) (.cons (Fz.refl _ _ _) .nil)))))
 obtain⟨K82,le3⟩:=f0.fzO (n:=44) (f:=_) 1 2 ([nZ dd.Seq,.sl none 4 (List.map bJ dd.Snaps),.sl none 35 (List.map aK dd.Chunks),.sl none 3 (List.map cH dd.Exps),.sl none 4 (List.map dG dd.Vols)]) K8 rfl (.cons (Fz.refl _ _ _) (.cons (Fz.refl _ _ _) (.cons (Fz.refl _ _ _) (.cons (Fz.refl _ _ _) (.cons (Fz.aw 1 eT ov K8 rfl (.refl _)) .nil)))))
 exact P0.mk (f0.trans (f0.trans (f0.trans le0 le1) le2) le3) (dW.of2 (.inl rfl) (sE (.agg (aC dd)) cZ rfl (aW 2 K82 rfl) rfl) (gN _ _ (.sc (.int _ _)) rfl) (aU (List.nil_sublist _) K82).1 (bD.refl _ _) (bD.refl _ _) ⟨rfl,rfl⟩)
theorem aHN:aP Tryz.prog 29=true:=by kernel_rfl
open Go.Vm
theorem p5 {α ρ:Type} {l:List α} (f:α→α) {F:Nat} {body:List α×Int→Option (Lp (List α×Int) ρ)} (hF:l.length < F)
    (hb:∀(cur:List α) (i:Nat) (x:α),cur.length=l.length→cur[i]? =some x→x∈l→i < l.length→body (cur,(i:Int))=some (.go (cur.set i (f x),((i+1:Nat):Int))))
    (he:∀cur:List α,cur.length=l.length→body (cur,(l.length:Int))=some (.brk (cur,(l.length:Int)))):
    aS body F (l,0)=some (.brk (l.map f,(l.length:Int))):=by
  have len:∀i,((l.take i).map f++l.drop i).length=l.length:=λi=>by simp; omega
  have:=jY (body:=body) (s0:=(l,(0:Int))) (n:=l.length) (F:=F) (λi:Nat=>((l.take i).map f++l.drop i,(i:Int))) hF (by simp) (λi hi=>by
    have hx:((l.take i).map f++l.drop i)[i]? =some l[i]:=by
      rw[List.getElem?_append_right (by simp; omega)]
      simp[Nat.min_eq_left (Nat.le_of_lt hi)]
    rw[hb _ i l[i] (len i) hx (List.getElem_mem hi) hi]
    congr 4
    rw[List.take_succ_eq_append_getElem hi,List.drop_eq_getElem_cons hi,List.set_append_right _ _ (by simp; omega),List.length_map,List.length_take,Nat.min_eq_left (Nat.le_of_lt hi),Nat.sub_self,List.set_cons_zero,List.map_append]
    simp only[List.map_cons,List.map_nil,List.append_assoc,List.cons_append,List.nil_append]) (he _ (len _))
  simpa using this
theorem J8 {F:Nat} {m:bE} (hF:1000≤F) (hp:m.Parts.length≤10) (hi:∀p∈m.Parts,p.Ids.length≤40):NZ F m=some m:=by
 unfold NZ IE
 rw[bN (by simp; omega)]
 simp only[Option.bind_some,List.nil_append]
 rw[p5 (l:=m.Parts) id (by omega) (λcur i x hc hx hm hi'=>by
  have:=hi x hm
  unfold tQ RP
  rw[iK (by omega)]
  simp only[aX,hx,Option.bind_some,Int.ofNat_lt,hi',decide_true,if_true]
  rw[bN (by simp; omega)]
  rfl) (λcur hc=>by unfold tQ; simp)]
 simp[aG]
theorem aHO {F:Nat} {c:aA} (hF:1000≤F) (h:Sm c):N0 F c=some c:=by
 have hsn:=h.sn
 have hex:=h.ex
 have hvo:=h.vo
 have hch:=h.ch
 unfold N0 IF IG IH II
 rw[bN (by simp; omega),bN (by simp; omega),bN (by simp; omega),bN (by simp; omega)]
 simp only[Option.bind_some,List.nil_append]
 rw[p5 (l:=c.Snaps) id (by omega) (λcur i x hc hx hm hi=>by
  have h1:=h.sl x hm
  obtain⟨-,h2,h3⟩:=h.man x hm
  unfold tT CH
  rw[iK (by omega)]
  simp only[aX,hx,Option.bind_some,Int.ofNat_lt,hi,decide_true,if_true,J8 hF h2 (λp hp=>(h3 p hp).2)]
  rw[bN (by simp; omega)]
  simp[List.set_set]) (λcur hc=>by unfold tT; simp)]
 simp only[aG]
 rw[p5 (l:=c.Chunks) id (by omega) (λcur i x hc hx hm hi=>by
  have h1:=h.cl x hm
  unfold tU CH M96
  have e1:app [] x.Data=some x.Data:=by rw[bN (by simp; omega)]; rfl
  rw[iK (by omega)]
  simp only[aX,hx,Option.bind_some,Int.ofNat_lt,hi,decide_true,if_true,e1]
  rw[bN (by simp; omega)]
  simp[List.set_set]) (λcur hc=>by unfold tU; simp)]
 simp only[aG]
 rw[p5 (l:=c.Exps) id (by omega) (λcur i x hc hx hm hi=>by
  have h1:=h.el x hm
  unfold tV CH
  rw[iK (by omega)]
  simp only[aX,hx,Option.bind_some,Int.ofNat_lt,hi,decide_true,if_true]
  rw[bN (by simp; omega)]
  simp) (λcur hc=>by unfold tV; simp)]
 simp[aG]
def lf (v:Int) (l:List aR):List aR:=l.filter λy=> !(y.Vol==v)
def aHP (v:Int) (s:aH):aH:= { s with Locs:=lf v s.Locs}
def RS (v:Int) (s:aB):aB:= { s with Locs:=lf v s.Locs}
def RT (v:Int) (s:aT):aT:= { s with Locs:=lf v s.Locs}
def N3 (y:aB):Bool:= !y.Staged && ((y.Locs.length:Int)==0)
def ret (c:aA) (v:Int) (x:aQ):aA:=
 { Seq:=c.Seq,Snaps:=c.Snaps.map (aHP v),Chunks:=(c.Chunks.map (RS v)).filter λy=> !N3 y,Exps:=(c.Exps.map (RT v)).filter λy=> !((y.Locs.length:Int)==0),Vols:=c.Vols.set v.toNat { x with State:=3,Files:=0}}
def rel (c:aA) (v:Int) (x:aQ):aA:= { c with Vols:=c.Vols.set v.toNat { x with State:=1,Epoch:=x.Epoch+1}}
theorem n29 {F:Nat} {c:aA} {d:aV} {k:Nat} {e:aA} {n:Int} (hF:1000≤F) (h:Sm c) (hg:gA c=true) (hk:nQ.find? (λe=>e.1==d.Kind)=some (d.Kind,k)) (hd:oU F k c d=some (e,n)) (hs:n=0→Sm e):
    RQ F c d=some (if n=0 then (if gA e=true then (e,0) else (bY,1)) else (bY,n)):=by
  unfold RQ
  rw[hk]
  simp only[m33 hF h,hg,if_true,Option.bind_some,aHO hF h,hd,aG]
  by_cases e0:n=0
  · rw[if_neg (by decide),if_neg (by simp[e0]),m33 hF (hs e0),if_pos e0]
    simp only[Option.bind_some]
    cases gA e <;> rfl
  · rw[if_neg (by decide),if_pos (by simpa using e0),if_neg e0]
open Go.Vm
theorem p6 {l:List aB}:uL l↔(∀x∈l,mF x.Id)∧l.Pairwise λy x=>ky y.Id < ky x.Id:=by
 unfold uL
 refine and_congr_right λ_=> ?_
 rw[List.pairwise_iff_getElem]
 constructor
 ·intro h i j hi hj hij
  exact h i j _ _ (List.getElem?_eq_getElem hi) (List.getElem?_eq_getElem hj) hij
 ·intro h i j x y hx hy hij
  obtain⟨hi,rfl⟩:=List.getElem?_eq_some_iff.1 hx
  obtain⟨hj,rfl⟩:=List.getElem?_eq_some_iff.1 hy
  exact h i j hi hj hij
structure At (l:List aB) (d:bH) (p:Nat):Prop where
 le:p≤l.length
 lo:∀x∈l.take p,ky x.Id < ky d
 hi:∀x∈l.drop p,ky d≤ky x.Id
theorem aB0 {F:Nat} {l:List aB} {d:bH} (hF:1000≤F) (hr:uL l) (hd:mF d) (hl:l.length < 1000):∃p:Nat,At l d p∧xY F l d=some ((p:Int),kF l d):=by
 obtain⟨p',e'⟩:=aA0 hF hr hd hl
 obtain⟨p,hp,e,h1,h2⟩:=bis (F:=F) hr hd hl F 0 l.length (by omega) (Nat.le_refl _) (by omega) (λj x _ hj=>by omega) (λj x hx hj=>by have:=(List.getElem?_eq_some_iff.1 hx).1; omega)
 have e2:∃b,xY F l d=some ((p:Int),b):=by
  unfold xY MT
  rw[show ((0:Int),(l.length:Int))=(((0:Nat):Int),(l.length:Int)) from rfl,e]
  simp only[aG]
  by_cases hlt:p < l.length
  ·have hx:l[p]? =some l[p]:=List.getElem?_eq_getElem hlt
   have hmem:=List.getElem_mem hlt
   generalize l[p]=x at hx hmem
   have gx:=hr.1 x hmem
   have e:zW F x d=some (if ky x.Id < ky d then -1 else if ky d < ky x.Id then 1 else 0):=by unfold zW; rw[M2 F gx hd]; rfl
   simp only[Int.ofNat_lt,hlt,decide_true,if_true,aX,hx,Option.bind_some,e,aG]
   exact⟨_,rfl⟩
  ·have hn:¬((p:Int) < (l.length:Int)):=by omega
   simp only[hn,decide_false,Bool.false_eq_true,if_false,aG,Option.bind_some]
   exact⟨_,rfl⟩
 obtain⟨b,hb⟩:=e2
 refine⟨p,⟨hp,λx hx=> ?_,λx hx=> ?_⟩, ?_⟩
 ·obtain⟨i,hi,rfl⟩:=List.getElem_of_mem hx
  simp only[List.length_take] at hi
  rw[List.getElem_take]
  exact h1 i _ (List.getElem?_eq_getElem (by omega)) (by omega)
 ·obtain⟨i,hi,rfl⟩:=List.getElem_of_mem hx
  simp only[List.length_drop] at hi
  rw[List.getElem_drop]
  exact h2 (p+i) _ (List.getElem?_eq_getElem (by omega)) (by omega)
 ·rw[hb] at e' ⊢
  have:=Option.some.inj e'
  rw[(Prod.mk.inj this).2]
theorem IK {α:Type} {l:List α} {p:Nat} {x:α} (h:p≤l.length) (hl:l.length < 1000):qM l (p:Int) x=some (l.take p++x::l.drop p):=by
 unfold qM
 rw[if_pos ⟨by omega,by omega,by omega⟩]
 simp
theorem G6 {l:List aB} {p:Nat} {d:bH} (hr:uL l) (ha:At l d p) (hd:mF d) (h:kF l d=true):∃x,l[p]? =some x∧x.Id=d:=by
 obtain⟨y,hy,e⟩:=List.any_eq_true.1 h
 have e:=of_decide_eq_true e
 have hy2:y∈l.take p++l.drop p:=by rw[List.take_append_drop]; exact hy
 rcases List.mem_append.1 hy2 with h1 | h1
 ·have:=ha.lo y h1
  rw[e] at this; omega
 ·obtain⟨i,hi,e2⟩:=List.getElem_of_mem h1
  simp only[List.length_drop] at hi
  rw[List.getElem_drop] at e2
  have hp:l[p]? =some l[p]:=List.getElem?_eq_getElem (by omega)
  cases i with
  | zero=>exact⟨_,hp,by rw[← e,← e2]; rfl⟩
  | succ i=>
   have h3:=hr.2 p (p+(i+1)) _ _ hp (List.getElem?_eq_getElem (by omega)) (by omega)
   have h4:=ha.hi l[p] (by
    rw[List.drop_eq_getElem_cons (by omega)]
    exact List.mem_cons_self)
   rw[e2,e] at h3
   omega
open Go.Vm
theorem A5 {ρ:Type} {body:Int→Option (Lp Int ρ)} {c:Nat→Bool}:∀(G q:Nat),q < G→(∀k:Nat,k≤q→body (k:Int)=some (if decide (0 < k) && c (k - 1) then .go ((k - 1:Nat):Int) else .brk (k:Int)))→
    ∃p:Nat,p≤q∧aS body G (q:Int)=some (.brk (p:Int))∧(∀j,p≤j→j < q→c j=true)∧(0 < p→c (p - 1)=false)
  | 0,_,h,_=>by omega
  | G+1,q,h,hb=>by
    unfold aS
    rw[hb q (Nat.le_refl _)]
    cases e:decide (0 < q) && c (q - 1) with
    | false=>
      refine⟨q,Nat.le_refl _,by simp,λj h1 h2=>by omega,λh0=> ?_⟩
      simpa [h0] using e
    | true=>
      simp only[Bool.and_eq_true,decide_eq_true_eq] at e
      obtain⟨p,h1,h2,h3,h4⟩:=A5 (body:=body) (c:=c) G (q - 1) (by omega) λk hk=>hb k (by omega)
      refine⟨p,by omega,by simpa using h2,λj hj1 hj2=> ?_,h4⟩
      by_cases ej:j=q - 1
      · rw[ej]; exact e.2
      · exact h3 j hj1 (by omega)
structure Pt (l:List aR) (x:aR) (p:Nat):Prop where
 le:p≤l.length
 hi:∀y∈l.drop p,jM y x=true
 lo:∀y,0 < p→l[p - 1]? =some y→jM y x=false
theorem aB1 {F:Nat} {l:List aR} {x:aR} (hF:1000≤F) (hl:l.length≤400):∃p,Pt l x p∧vX F l x=some (l.take p++x::l.drop p):=by
 obtain⟨p,h1,h2,h3,h4⟩:=A5 (body:=λs=>p4 F l x s) (c:=λj=>match l[j]? with | none=>false | some y=>jM y x) F l.length (by omega) (λk hk=>by
  unfold p4
  by_cases h0:0 < k
  ·have hy:l[k - 1]? =some l[k - 1]:=List.getElem?_eq_getElem (by omega)
   generalize l[k - 1]=y at hy
   rw[yA (by omega) h0]
   have hk0:(0:Int) < (k:Int):=by omega
   simp only[aX,hy,hk0,h0,decide_true,Bool.true_and,if_true,Option.bind_some]
   have e:jM y x=(if decide (x.Vol < y.Vol)=true then true else if (y.Vol==x.Vol)=true then (if decide (x.File < y.File)=true then true else if (y.File==x.File)=true then decide (x.Off < y.Off) else false) else false):=by
    rw[Bool.eq_iff_iff,wO]
    by_cases a:x.Vol < y.Vol <;> by_cases b:y.Vol=x.Vol <;> by_cases c:x.File < y.File <;> by_cases d:y.File=x.File <;> simp[a,b,c,d] <;> omega
   rw[e]
   by_cases a:x.Vol < y.Vol <;> by_cases b:y.Vol=x.Vol <;> by_cases c:x.File < y.File <;> by_cases d:y.File=x.File <;> (simp[a,b,c,d,aG] <;> (split <;> rfl))
  ·obtain rfl:k=0:=by omega
   simp[aG])
 refine⟨p,⟨h1,λy hy=> ?_,λy h0 hy=> ?_⟩, ?_⟩
 ·obtain⟨i,hi,rfl⟩:=List.getElem_of_mem hy
  simp only[List.length_drop] at hi
  have:=h3 (p+i) (by omega) (by omega)
  rw[List.getElem?_eq_getElem (show p+i < l.length by omega)] at this
  rw[List.getElem_drop]
  exact this
 ·have:=h4 h0
  simp only[hy] at this
  exact this
 ·unfold vX
  rw[h2]
  simp only[aG]
  rw[IK h1 (by omega)]
  rfl
open Go.Vm
def EZ (c:aA) (y:aB):aB:=if jH c y.Id then y else { y with Staged:=false,Data:= []}
def o7 (y:aB):Bool:=y.Staged || decide (0 < (y.Locs.length:Int))
def J9 (c:aA):List aB:=(c.Chunks.filter λy=>o7 (EZ c y)).map (EZ c)
theorem aHQ {F:Nat} {c:aA} (hF:1000≤F) (h:Sm c):J6 F c=some (J9 c):=by
 have hch:=h.ch
 unfold J6
 rw[jN (l:=c.Chunks) [] (λy=>o7 (EZ c y)) (EZ c) (by omega) (λi x hx hm hi acc ha=>by
  unfold tO
  simp only
  rw[iK (by omega)]
  simp only[List.length_nil] at ha
  have ea:∀z:aB,app acc [z]=some (acc++ [z]):=λz=>bN (by simp; omega)
  simp only[aX,hx,Option.bind_some,Int.ofNat_lt,hi,decide_true,if_true,m44 hF (c:= { Seq:=c.Seq,Snaps:=c.Snaps,Chunks:=c.Chunks,Exps:=c.Exps,Vols:=c.Vols}) h]
  unfold EZ o7
  show _=_
  rw[show jH { Seq:=c.Seq,Snaps:=c.Snaps,Chunks:=c.Chunks,Exps:=c.Exps,Vols:=c.Vols} x.Id=jH c x.Id from rfl]
  generalize jH c x.Id=ub
  obtain⟨id,st,da,lo⟩:=x
  simp only
  cases ub
  ·simp only[Bool.not_false,Bool.false_eq_true,if_true,if_false,aG,Bool.false_or]
   generalize decide (0 < (lo.length:Int))=dl
   cases dl <;> simp[aG,ea]
  ·simp only[Bool.not_true,Bool.false_eq_true,if_true,if_false,aG]
   generalize decide (0 < (lo.length:Int))=dl
   cases dl <;> cases st <;> simp[aG,ea]) (λacc=>by unfold tO; simp)]
 simp[aG,J9]
def qR (c:aA) (n:Int):aA:= { c with Snaps:=c.Snaps.filter λs=> !(s.Seq==n)}
def CO (c:aA) (n:Int):aA:= { qR c n with Chunks:=J9 (qR c n)}
theorem tW {c:aA} (h:Sm c) (q:aH→Bool):Sm { c with Snaps:=c.Snaps.filter q}:=
 { h with
  g:=⟨h.g.1,λs hs=>h.g.2.1 s (List.mem_filter.1 hs).1,h.g.2.2⟩
  sn:=Nat.le_trans (List.length_filter_le _ _) h.sn
  sl:=λs hs=>h.sl s (List.mem_filter.1 hs).1
  man:=λs hs=>h.man s (List.mem_filter.1 hs).1}
open Go.Vm
def p7 (m:Nat) (p0:List aB) (q0:List aB) (q1:Int):Option (Lp ((List aB)×Int) ((List aB))):=
 if (decide (q1 < (p0.length:Int)))=true then ((ix p0 q1).bind λx0=>(vI m x0.Data).bind λy0=>(wG m x0.Locs).bind λy1=>(app q0 ([{ { x0 with Data:=y0} with Locs:=y1}]:List aB)).bind λz0=>some (.go (z0,IntKind.wrap .i64 (q1+1)))) else some (.brk (q0,q1))
def A6 (m:Nat) (p0:List aB):Option ((List aB)):=
 after (aS (λs=>p7 m p0 s.1 s.2) m ([],0)) λ⟨r0,r1⟩=>some r0
theorem TY {w:Nat} {p0:List aB} {o:(List aB)} (h:aF) (m:A6 w p0=some o):
 aM Tryz.prog 152 [.sl none 35 (List.map aK p0)] h (λr h'=>∃g:dD,bK g 35 o.length∧bP h [(g.t,.obj 44 (fl aK o g.sp))]∧r=aZ g∧h'=hp h [(g.t,.obj 44 (fl aK o g.sp))]):=by
 refine fK 29 [.tmp 2] Tryz.func152 rfl rfl rfl rfl ?_
 unfold A6 at m
 refine vs (v0 (vs (v0 (vs (vs (v0 (qE (AS (.obj 44 (fl aK ([]:List aB) g0.sp)) 3 (aZ g0) (fP _)) (nW m (σ:=(List aB)×Int) (τ:=dD) (λg s=> [(dA g s.1)]) (λg s=>bK g 35 (s.1:List aB).length) (λg s=>.c 0 (.sl none 35 (List.map aK p0)) (.c 3 (aZ g) (.c 4 (nZ s.2) .nil))) g0 (bK.g0 35) (lx (.k3 .nil)) ?_ ?_))))))))
 rintro ag0 ⟨q0,q1⟩ x O0 m
 replace m:p7 w p0 q0 q1=some x:=m
 unfold p7 at m
 refine vs (vs (v0 (dH lI rfl (v0 ?_))))
 apply vi m <;> intro c0 m
 refine v0 (vs (v0 (vs (v0 (vx m h9 rfl rfl λx0 _ m=>va (.agg (aK x0)) pB rfl rfl (ve λu=>bG (bC gW++(SZ:List AV)) u qL rfl rfl λk115 K0=>qk K0 rfl (ve λu=>aL 0 (aK x0) u rfl rfl rfl rfl EC rfl rfl λK1=>qk K1 rfl (vs (v0 (vz [(7,some k115,.obj 44 (aK x0))] mixed (λu=>⟨λ_=>aO 0 u rfl,trivial⟩) λu=>zF 0 rfl lS rfl (zL 1 0 (.sl none 1 (List.map fX x0.Data)) rfl nY rfl rfl rfl ?_)))))))))))
 obtain⟨y0,Y0,m⟩:=aD m
 refine zC 2 rfl (bV (NB _ Y0) rfl EN rfl) (zF 3 rfl jQ rfl (zL 4 0 (.sl none 4 (List.map aN x0.Locs)) rfl fT rfl rfl rfl ?_))
 obtain⟨y1,Y1,m⟩:=aD m
 refine zC 5 rfl (bV (NA _ Y1) rfl EM rfl) (zF 6 rfl lS rfl (zE 7 rfl (aL 0 (aK { x0 with Data:=y0}) u rfl rfl rfl rfl EB rfl rfl λK2=>⟨⟨λe=>absurd e (by decide),trivial⟩, ?_⟩)))
 refine zF 8 rfl jQ rfl (zE 9 rfl (aL 0 (aK { { x0 with Data:=y0} with Locs:=y1}) K2 rfl rfl rfl rfl pO rfl rfl λK3=>⟨⟨λe=>absurd e (by decide),trivial⟩, ?_⟩))
 refine zX (qk (f:=TA 23 _ _ _ _ _ _ _ _ _) K3 rfl (v0 (vl 0 (.agg (aK { { x0 with Data:=y0} with Locs:=y1})) pB rfl rfl rfl (bU (eA (List.map aK ([{ { x0 with Data:=y0} with Locs:=y1}]:List aB)) o8 rfl rfl rfl rfl) ?_))))
 obtain⟨z0,Z0,m⟩:=aD m
 exact ve λu=>f8 (c:=aK) 1 Z0 o8 rfl qL rfl cY rfl rfl O0 u rfl λag1 O1 K4=>qk K4 rfl (v0 (eH m ag1 O1 (mE [1] rfl rfl (.k3 .nil))))
 exact v0 (lN m ag0 O0 (lx (.k3 .nil)))
 rintro ag2 ⟨r0,r1⟩ t0 m
 refine vs (v0 (v0 ?_))
 obtain rfl:=eP m
 exact vr λu=>dW.one (.inl rfl) (aU (h0:=h) (L':= [(dA ag2 r0)]) (.refl _) u).1 (bD.refl _ _) ⟨ag2,t0,(aU (h0:=h) (L':= [(dA ag2 r0)]) (.refl _) u).2,rfl,rfl⟩
def CP (m:Nat) (p0:aA) (q0:List aH) (q1:Int):Option (Lp ((List aH)×Int) (aA)):=
 if (decide (q1 < (p0.Snaps.length:Int)))=true then ((ix p0.Snaps q1).bind λx0=>(GW m x0.Man).bind λy0=>(wG m x0.Locs).bind λy1=>(app q0 ([{ { x0 with Man:=y0} with Locs:=y1}]:List aH)).bind λz0=>some (.go (z0,IntKind.wrap .i64 (q1+1)))) else some (.brk (q0,q1))
def CQ (m:Nat) (p0:aA) (q0:List aT) (q1:Int):Option (Lp ((List aT)×Int) (aA)):=
 if (decide (q1 < (p0.Exps.length:Int)))=true then ((ix p0.Exps q1).bind λx0=>(wG m x0.Locs).bind λy0=>(app q0 ([{ x0 with Locs:=y0}]:List aT)).bind λz0=>some (.go (z0,IntKind.wrap .i64 (q1+1)))) else some (.brk (q0,q1))
def RU (m:Nat) (p0:aA):Option (aA):=
 after (aS (λs=>CP m p0 s.1 s.2) m ([],0)) λ⟨r0,r1⟩=>after (aS (λs=>CQ m p0 s.1 s.2) m ([],0)) λ⟨r2,r3⟩=>(A6 m p0.Chunks).bind λy0=>(app ([]:List aQ) p0.Vols).bind λz0=>some ({ Seq:=p0.Seq,Snaps:=r0,Chunks:=y0,Exps:=r2,Vols:=z0}:aA)
theorem aHR {w:Nat} {p0:aA} {o:aA} (h:aF) (m:RU w p0=some o):
 aM Tryz.prog 90 [.agg (aC p0)] h (λr h'=>∃gS:dD,bK gS 4 o.Snaps.length∧∃gC:dD,bK gC 35 o.Chunks.length∧∃gE:dD,bK gE 3 o.Exps.length∧∃gV:dD,bK gV 4 o.Vols.length∧bP h [(dE gS o.Snaps),(dA gC o.Chunks),(jR gE o.Exps),(lC gV o.Vols)]∧r= .agg ([nZ o.Seq,aZ gS,aZ gC,aZ gE,aZ gV])∧h'=hp h [(dE gS o.Snaps),(dA gC o.Chunks),(jR gE o.Exps),(lC gV o.Vols)]):=by
 refine fK 68 [.cell 2 30] Tryz.func90 rfl rfl rfl rfl ?_
 unfold RU at m
 refine vs (v0 (gX rfl rfl λk2 K3=>ve λu=>bG (i7) u sK rfl rfl λk5 K6=>qk K6 rfl (vs (v0 (vs (vs (v0 (qE (AS (.obj 60 (fl bJ ([]:List aH) g0.sp)) 3 (aZ g0) (fP _)) (nW m (σ:=(List aH)×Int) (τ:=dD) (λg s=> [(dE g s.1),(some k5,.obj 30 (i7)),(some k2,.obj 30 (aC p0))]) (λg s=>bK g 4 (s.1:List aH).length) (λg s=>.c 1 (.ptr k2 0) (.c 2 (.ptr k5 0) (.c 3 (aZ g) (.c 4 (nZ s.2) .nil)))) g0 (bK.g0 4) (lx (.k4 .nil)) ?_ ?_)))))))))
 rintro ag0 ⟨q0,q1⟩ x O0 m
 replace m:CP w p0 q0 q1=some x:=m
 unfold CP at m
 refine vs (vs (v0 (dX eL rfl rfl (vl 2 _ fI rfl rfl rfl (dH kZ rfl (v0 ?_))))))
 apply vi m <;> intro c0 m
 refine v0 (vs (v0 (vs (v0 (dX eL rfl rfl (vl 2 _ fI rfl rfl rfl (vx m jL rfl rfl λx0 _ m=>va (.agg (bJ x0)) sN rfl rfl (ve λu=>bG (XF) u xS rfl rfl λk121 K0=>qk K0 rfl (ve λu=>aL 0 (bJ x0) u rfl rfl rfl rfl GP rfl rfl λK1=>qk K1 rfl (vs (v0 (vz [(7,some k121,.obj 60 (bJ x0))] mixed (λu=>⟨λ_=>aO 0 u rfl,trivial⟩) λu=>zF 0 rfl rF rfl (zL 1 0 (.agg (bI x0.Man)) rfl pQ rfl rfl rfl ?_)))))))))))))
 obtain⟨y0,Y0,m⟩:=aD m
 refine zC 2 rfl (bV (aA2 _ Y0) rfl TW rfl) (zF 3 rfl lB rfl (zL 4 0 (.sl none 4 (List.map aN x0.Locs)) rfl fT rfl rfl rfl ?_))
 obtain⟨y1,Y1,m⟩:=aD m
 refine zC 5 rfl (bV (NA _ Y1) rfl EM rfl) (zF 6 rfl rF rfl (zE 7 rfl (aL 0 (bJ { x0 with Man:=y0}) u rfl rfl rfl rfl zR rfl rfl λK2=>⟨⟨λe=>absurd e (by decide),trivial⟩, ?_⟩)))
 refine zF 8 rfl lB rfl (zE 9 rfl (aL 0 (bJ { { x0 with Man:=y0} with Locs:=y1}) K2 rfl rfl rfl rfl pO rfl rfl λK4=>⟨⟨λe=>absurd e (by decide),trivial⟩, ?_⟩))
 refine zX (qk (f:=TA 29 _ _ _ _ _ _ _ _ _) K4 rfl (v0 (vl 0 (.agg (bJ { { x0 with Man:=y0} with Locs:=y1})) sN rfl rfl rfl (bU (eA (List.map bJ ([{ { x0 with Man:=y0} with Locs:=y1}]:List aH)) D8 rfl rfl rfl rfl) ?_))))
 obtain⟨z0,Z0,m⟩:=aD m
 exact ve λu=>f8 (c:=bJ) 1 Z0 D8 rfl xS rfl eM rfl rfl O0 u rfl λag1 O1 K5=>qk K5 rfl (v0 (eH m ag1 O1 (mE [1,2,3] rfl rfl (.k4 .nil))))
 exact v0 (lN m ag0 O0 (lx (.k4 .nil)))
 rintro ag2 ⟨r0,r1⟩ t0 m
 refine vs (v0 (vs (vs (v0 (qE (AS (.obj 99 (fl cH ([]:List aT) g0.sp)) 6 (aZ g0) (fP _)) (nW m (σ:=(List aT)×Int) (τ:=dD) (λg s=> [(jR g s.1),(dE ag2 r0),(some k5,.obj 30 (i7)),(some k2,.obj 30 (aC p0))]) (λg s=>bK g 3 (s.1:List aT).length) (λg s=>.c 1 (.ptr k2 0) (.c 2 (.ptr k5 0) (.c 3 (aZ ag2) (.c 6 (aZ g) (.c 7 (nZ s.2) .nil))))) g0 (bK.g0 3) (lx (.k5 .nil)) ?_ ?_))))))
 rintro ag3 ⟨q2,q3⟩ x O2 m
 replace m:CQ w p0 q2 q3=some x:=m
 unfold CQ at m
 refine vs (vs (v0 (dX eU rfl rfl (vl 3 _ iG rfl rfl rfl (dH pN rfl (v0 ?_))))))
 apply vi m <;> intro c1 m
 refine v0 (vs (v0 (vs (v0 (dX eU rfl rfl (vl 3 _ iG rfl rfl rfl (vx m iR rfl rfl λx1 _ m=>va (.agg (cH x1)) zU rfl rfl (ve λu=>bG ([nZ 0,nZ 0,sZ]) u sP rfl rfl λk235 K7=>qk K7 rfl (ve λu=>aL 0 (cH x1) u rfl rfl rfl rfl JT rfl rfl λK8=>qk K8 rfl (vs (v0 (dX mR rfl rfl (vl 0 _ fT rfl rfl rfl (vk NA EM m rfl rfl λy2 m=>dX mR rfl rfl (ve λu=>aL 0 (cH { x1 with Locs:=y2}) u rfl rfl rfl rfl pO rfl rfl λK9=>qk K9 rfl (v0 (vl 0 (.agg (cH { x1 with Locs:=y2})) zU rfl rfl rfl (bU (eA (List.map cH ([{ x1 with Locs:=y2}]:List aT)) o9 rfl rfl rfl rfl) ?_))))))))))))))))))
 obtain⟨z1,Z1,m⟩:=aD m
 exact ve λu=>f8 (c:=cH) 1 Z1 o9 rfl sP rfl f9 rfl rfl O2 u rfl λag4 O3 K10=>qk K10 rfl (v0 (eH m ag4 O3 (mE [1,2,3,4] rfl rfl (.k5 .nil))))
 exact v0 (lN m ag3 O2 (lx (.k5 .nil)))
 rintro ag5 ⟨r2,r3⟩ t1 m
 refine vs (v0 (vs (v0 (vz [(10,some k2,.obj 30 (aC p0))] mixed (λu=>⟨λ_=>aO 3 u rfl,trivial⟩) λu=>zC 0 rfl (fA (aw _ _ _) rfl) (zF 1 rfl eW rfl (zL 2 0 (.sl none 35 (List.map aK p0.Chunks)) rfl fD rfl rfl rfl (zC 4 rfl (fA (aw _ _ _) rfl) (zC 5 rfl (fA (.sc (.slice _ _ _)) rfl) (zF 6 rfl iW rfl (zL 7 0 (.sl none 4 (List.map dG p0.Vols)) rfl iH rfl rfl rfl (zF 9 rfl eL rfl ?_)))))))))))
 obtain⟨_,Y2,m⟩:=aD m
 refine zE 3 rfl (dR (TY _ Y2) rfl NC rfl ?_)
 rintro x h' ⟨ag6,O4,K11,rfl,rfl⟩
 rw[kM]
 refine⟨⟨λ_=>aO 4 (bP.co u K11) rfl,trivial⟩, ?_⟩
 obtain⟨z2,Z2,m⟩:=aD m
 refine zE 8 rfl (B0 (c:=dG) Z2 L7 rfl QX rfl eT rfl (bP.co u K11) rfl λag7 O5 K12=>⟨⟨λ_=>aO 5 K12 rfl,trivial⟩, ?_⟩)
 refine zE 10 rfl (aL 5 ([nZ p0.Seq,aZ ag2,.sl none 35 (List.map aK p0.Chunks),.sl none 3 (List.map cH p0.Exps),.sl none 4 (List.map dG p0.Vols)]) K12 rfl rfl (cM rfl) (cG (cC _ _ _) rfl) L5 rfl rfl λK13=>⟨⟨λe=>absurd e (by decide),trivial⟩, ?_⟩)
 refine zF 11 rfl eW rfl (zE 12 rfl (aL 5 ([nZ p0.Seq,aZ ag2,aZ ag6,.sl none 3 (List.map cH p0.Exps),.sl none 4 (List.map dG p0.Vols)]) K13 rfl rfl (cM rfl) (cG (cC _ _ _) rfl) D9 rfl rfl λK14=>⟨⟨λe=>absurd e (by decide),trivial⟩, ?_⟩))
 refine zF 13 rfl eU rfl (zE 14 rfl (aL 5 ([nZ p0.Seq,aZ ag2,aZ ag6,aZ ag5,.sl none 4 (List.map dG p0.Vols)]) K14 rfl rfl (cM rfl) (cG (cC _ _ _) rfl) L6 rfl rfl λK15=>⟨⟨λe=>absurd e (by decide),trivial⟩, ?_⟩))
 refine zF 15 rfl iW rfl (zE 16 rfl (aL 5 ([nZ p0.Seq,aZ ag2,aZ ag6,aZ ag5,aZ ag7]) K15 rfl rfl (cM rfl) (cG (cC _ _ _) rfl) UY rfl rfl λK16=>⟨⟨λe=>absurd e (by decide),trivial⟩, ?_⟩))
 refine zX (qk (f:=.c 66 _ (.c 65 _ (.c 64 _ (.c 62 _ (.c 57 _ (.c 63 _ (S9 61 _ _ _ _ (.c 56 _ (.c 55 _ (.c 54 _ _)))))))))) K16 rfl (vs (v0 (vl 5 (.agg ([nZ p0.Seq,aZ ag2,aZ ag6,aZ ag5,aZ ag7])) cZ rfl rfl rfl (ve λu=>aL 4 ([nZ p0.Seq,aZ ag2,aZ ag6,aZ ag5,aZ ag7]) u rfl rfl rfl (by repeat (first | exact rfl | refine cG (jG _ _ _) ?_ | refine cG (cC _ _ _) ?_ | refine cG (gG _ _ _ _) ?_ | refine cG rfl ?_)) m8 rfl rfl λK17=>qk K17 rfl ?_)))))
 refine v0 ?_
 cases m
 exact vr λu=>dW.of1 (.inl rfl) (sE (.agg ([nZ p0.Seq,aZ ag2,aZ ag6,aZ ag5,aZ ag7])) cZ rfl (aW 4 u rfl) rfl) (bQ u [3,1,2,0] rfl).2 (bD.refl _ _) ⟨ag2,t0,ag6,O4,ag5,t1,ag7,O5,(bQ u [3,1,2,0] rfl).1,rfl,rfl⟩
def RW (m:Nat) (p0:aR) (p1:aR):Option (Bool):=
 if (p0.Vol !=p1.Vol)=true then (some (decide (p0.Vol < p1.Vol))) else if (p0.File !=p1.File)=true then (some (decide (p0.File < p1.File))) else if (p0.Off !=p1.Off)=true then (some (decide (p0.Off < p1.Off))) else some (decide (p0.Len < p1.Len))
theorem aHS {u:Nat} {p0:aR} {p1:aR} {o:Bool} (h:aF) (m:RW u p0 p1=some o):
 aM Tryz.prog 191 [.agg (aN p0),.agg (aN p1)] h (λr h'=>r= .sc (.bool o)∧h'=h):=by
 refine fK 40 [.tmp 4] Tryz.func191 rfl rfl rfl rfl ?_
 unfold RW at m
 refine v (gX rfl rfl λk2 K3=>gX rfl rfl λk5 K6=>v (vl 1 _ cB rfl rfl rfl (vl 0 _ cB rfl rfl rfl (v ?_))))
 apply vi m <;> intro c0 m
 refine v (vl 1 _ cB rfl rfl rfl (vl 0 _ cB rfl rfl rfl (v ?_)))
 cases m
 exact eF rfl
 refine v (v (vl 1 _ cB rfl rfl rfl (vl 0 _ cB rfl rfl rfl (v ?_))))
 apply vi m <;> intro c1 m
 refine v (vl 1 _ cB rfl rfl rfl (vl 0 _ cB rfl rfl rfl (v ?_)))
 cases m
 exact eF rfl
 refine v (v (vl 1 _ cB rfl rfl rfl (vl 0 _ cB rfl rfl rfl (v ?_))))
 apply vi m <;> intro c2 m
 refine v (vl 1 _ cB rfl rfl rfl (vl 0 _ cB rfl rfl rfl (v ?_)))
 cases m
 exact eF rfl
 refine v (v (vl 1 _ cB rfl rfl rfl (vl 0 _ cB rfl rfl rfl (v ?_))))
 cases m
 exact eF rfl
theorem aB2:aP Tryz.prog 191=true:=by kernel_rfl
def tX (m:Nat) (p0:List aR) (p1:aR) (q0:Int):Option (Lp (Int) ((List aR))):=
 after (if (decide (q0 < (p0.length:Int)))=true then ((ix p0 q0).bind λx0=>(RW m x0 p1).bind λy0=>some (.brk y0)) else some (.brk false):Option (Lp (Bool) (Lp (Int) ((List aR))))) λj0=>if j0=true then (some (.go (IntKind.wrap .i64 (q0+1)))) else some (.brk q0)
def G7 (m:Nat) (p0:List aR) (p1:aR):Option ((List aR)):=
 after (aS (λs=>tX m p0 p1 s) m 0) λr0=>(slc p0 0 r0).bind λx0=>(app ([]:List aR) x0).bind λz0=>(app z0 ([p1]:List aR)).bind λz1=>(slc p0 r0 (p0).length).bind λx1=>(app z1 x1).bind λz2=>some z2
theorem WH {w:Nat} {p0:List aR} {p1:aR} {o:(List aR)} (h:aF) (m:G7 w p0 p1=some o):
 aM Tryz.prog 185 [.sl none 4 (List.map aN p0),.agg (aN p1)] h (λr h'=>r= .sl none 4 (List.map aN o)∧h'=h):=by
 refine fK 34 [.tmp 4] Tryz.func185 rfl rfl rfl rfl ?_
 unfold G7 at m
 refine v (gX rfl rfl λk2 K3=>v (vs (jP m (σ:=Int) (λs=> [(some k2,.obj 81 (aN p1))]) (λs=>.c 0 (.sl none 4 (List.map aN p0)) (.c 3 (.ptr k2 0) (.c 5 (nZ s) .nil))) (lx (.k3 .nil)) ?_ ?_)))
 rintro _ q0 x m
 replace m:tX w p0 p1 q0=some x:=m
 unfold tX at m
 refine vs (vs (fN m (σ:=Bool) (λs=> [(some k2,.obj 81 (aN p1))]) (λs=>.c 0 (.sl none 4 (List.map aN p0)) (.c 3 (.ptr k2 0) (.c 5 (nZ q0) (.c 18 (.sc (.bool s)) .nil)))) (λx m=> ?_) ?_))
 refine v (vq (by kernel_rfl) (dH kD rfl ?_))
 apply vi m <;> intro b0 m
 rw[b0]
 exact vx m i9 rfl rfl λx0 _ m=>va (.agg (aN x0)) m9 rfl rfl (vl 0 (.agg (aN p1)) m9 rfl rfl rfl (vk aHS aB2 m rfl rfl λ_ m=>fY m))
 rw[b0]
 exact fY m
 rintro _ j0 m
 refine v ?_
 apply vi m <;> intro c0 m
 exact v (v (v (gD m)))
 exact v (Fq m)
 rintro _ r0 m
 refine v (v (vz [(1000000,some k2,.obj 81 (aN p1))] mixed (λu=>⟨λ_=>aO 0 u rfl,trivial⟩) λu=>zC 0 rfl (fA (.sc (.slice _ _ _)) rfl) (zC 1 rfl (fA (.sl _ _ _) rfl) (zI 2 rfl rfl ?_))))
 obtain⟨_,X0,m⟩:=aD m
 refine zC 3 rfl (o5 X0 i9 rfl rfl rfl rfl) (zL 5 0 (.agg (aN p1)) rfl m9 rfl rfl rfl (zC 6 rfl (eA (List.map aN ([p1]:List aR)) pA rfl rfl rfl rfl) ?_))
 obtain⟨z0,Z0,m⟩:=aD m
 refine zE 4 rfl (oD (c:=aN) Z0 pA rfl rfl u nofun rfl λtg0 t0 K0=>⟨⟨λ_=>aO 1 K0 rfl,trivial⟩, ?_⟩)
 obtain⟨z1,Z1,m⟩:=aD m
 refine zE 7 rfl (fG (c:=aN) 0 Z1 pA rfl rfl rfl t0 K0 rfl λtg1 t1 K1=>⟨⟨λ_=>aO 1 K1 rfl,trivial⟩, ?_⟩)
 refine zC 8 rfl (hH (ow _ _ _) rfl) (zX (qk (f:=.c 6 _ (.c 28 _ (.c 25 _ (.c 27 _ (.c 26 _ (S9 24 _ _ _ _ _)))))) K1 rfl (v ?_)))
 obtain⟨_,X1,m⟩:=aD m
 refine bU (o5 X1 i9 rfl rfl rfl rfl) ?_
 obtain⟨z2,Z2,m⟩:=aD m
 refine ve λu=>fG (c:=aN) 0 Z2 pA rfl rfl rfl t1 u rfl λtg2 t2 K2=>qk K2 rfl (v ?_)
 obtain rfl:=eP m
 exact vr λu=>dW.of1 (.inl rfl) (gN _ _ (ow _ _ _) rfl) (aU (List.nil_sublist _) u).1 ((dU _ 0 t2 u rfl)) ⟨rfl,rfl⟩
theorem N4:aP Tryz.prog 185=true:=by kernel_rfl
def tY (m:Nat) (p0:List aR) (p1:Int) (q0:List aR) (q1:Int):Option (Lp ((List aR)×Int) ((List aR))):=
 if (decide (q1 < (p0.length:Int)))=true then ((ix p0 q1).bind λx0=>after (if (x0.Vol !=p1)=true then ((ix p0 q1).bind λx1=>(app q0 ([x1]:List aR)).bind λz0=>some (.brk z0)) else some (.brk q0):Option (Lp ((List aR)) (Lp ((List aR)×Int) ((List aR))))) λj0=>some (.go (j0,IntKind.wrap .i64 (q1+1)))) else some (.brk (q0,q1))
def G8 (m:Nat) (p0:List aR) (p1:Int):Option ((List aR)):=
 after (aS (λs=>tY m p0 p1 s.1 s.2) m ([],0)) λ⟨r0,r1⟩=>some r0
theorem WI {w:Nat} {p0:List aR} {p1:Int} {o:(List aR)} (h:aF) (m:G8 w p0 p1=some o):
 aM Tryz.prog 157 [.sl none 4 (List.map aN p0),nZ p1] h (λr h'=>r= .sl none 4 (List.map aN o)∧h'=h):=by
 refine fK 28 [.tmp 4] Tryz.func157 rfl rfl rfl rfl ?_
 unfold G8 at m
 refine v (v (v (qE (AS (.tok 81 4 (([]:List aR).length*4)) 5 (ow none 4 (List.map aN [])) (gQ _ _)) (nW m (σ:=(List aR)×Int) (τ:=Option bT) (λg s=> [(g,.tok 81 4 ((s.1:List aR).length*4))]) (λg s=>(g=none→s.1= [])) (λg s=>.c 0 (.sl none 4 (List.map aN p0)) (.c 1 (nZ p1) (.c 5 (ow g 4 (List.map aN s.1)) (.c 6 (nZ s.2) .nil)))) none (λ_=>rfl) (lx (.k4 .nil)) ?_ ?_))))
 rintro tg0 ⟨q0,q1⟩ x t0 m
 replace m:tY w p0 p1 q0 q1=some x:=m
 unfold tY at m
 refine v (dH kD rfl (v ?_))
 apply vi m <;> intro c0 m
 refine v (v (v (vx m i9 rfl rfl λ_ _ m=>oG m (σ:=(List aR)) (τ:=Option bT) (λg s=> [(g,.tok 81 4 ((s:List aR).length*4))]) (λg s=>(g=none→s= [])) (λg s=>.c 0 (.sl none 4 (List.map aN p0)) (.c 1 (nZ p1) (.c 5 (ow g 4 (List.map aN s)) (.c 6 (nZ q1) .nil)))) (λx m=> ?_) ?_)))
 refine v ?_
 apply vi m <;> intro c1 m
 refine v (vx m i9 rfl rfl λx0 _ m=>va (.agg (aN x0)) m9 rfl rfl (bU (eA (List.map aN ([x0]:List aR)) pA rfl rfl rfl rfl) ?_))
 obtain⟨z0,Z0,m⟩:=aD m
 exact ve λu=>fG (c:=aN) 0 Z0 pA rfl rfl rfl t0 u rfl λtg1 t1 K0=>qk K0 rfl (eH m tg1 t1 (lx (.k4 .nil)))
 exact v (eH m tg0 t0 (lx (.k4 .nil)))
 rintro tg2 j0 t2 m
 exact v (eH m tg2 t2 (lx (.k4 .nil)))
 exact v (lN m tg0 t0 (lx (.k4 .nil)))
 rintro tg3 ⟨r0,r1⟩ t3 m
 refine v (v ?_)
 obtain rfl:=eP m
 exact vr λu=>dW.of1 (.inl rfl) (gN _ _ (ow _ _ _) rfl) (aU (List.nil_sublist _) u).1 ((dU _ 0 t3 u rfl)) ⟨rfl,rfl⟩
theorem N5:aP Tryz.prog 157=true:=by kernel_rfl
def M92 (m:Nat) (p0:aV):Option (aV):=
 (GW m p0.Snap.Man).bind λy0=>(wG m p0.Snap.Locs).bind λy1=>(J0 m ({ { p0 with Snap:= { p0.Snap with Man:=y0}} with Snap:= { { p0 with Snap:= { p0.Snap with Man:=y0}}.Snap with Locs:=y1}}.Chunks)).bind λy2=>(app ([]:List aE) ({ { p0 with Snap:= { p0.Snap with Man:=y0}} with Snap:= { { p0 with Snap:= { p0.Snap with Man:=y0}}.Snap with Locs:=y1}}.Items)).bind λz0=>some ({ Kind:= { { { p0 with Snap:= { p0.Snap with Man:=y0}} with Snap:= { { p0 with Snap:= { p0.Snap with Man:=y0}}.Snap with Locs:=y1}} with Chunks:=y2}.Kind,Snap:=({ Seq:=({ { { p0 with Snap:= { p0.Snap with Man:=y0}} with Snap:= { { p0 with Snap:= { p0.Snap with Man:=y0}}.Snap with Locs:=y1}} with Chunks:=y2}.Snap).Seq,Man:=({ Name:=(({ { { p0 with Snap:= { p0.Snap with Man:=y0}} with Snap:= { { p0 with Snap:= { p0.Snap with Man:=y0}}.Snap with Locs:=y1}} with Chunks:=y2}.Snap).Man).Name,Parts:=(({ { { p0 with Snap:= { p0.Snap with Man:=y0}} with Snap:= { { p0 with Snap:= { p0.Snap with Man:=y0}}.Snap with Locs:=y1}} with Chunks:=y2}.Snap).Man).Parts}:bE),Locs:=({ { { p0 with Snap:= { p0.Snap with Man:=y0}} with Snap:= { { p0 with Snap:= { p0.Snap with Man:=y0}}.Snap with Locs:=y1}} with Chunks:=y2}.Snap).Locs}:aH),Chunks:= { { { p0 with Snap:= { p0.Snap with Man:=y0}} with Snap:= { { p0 with Snap:= { p0.Snap with Man:=y0}}.Snap with Locs:=y1}} with Chunks:=y2}.Chunks,Seq:= { { { p0 with Snap:= { p0.Snap with Man:=y0}} with Snap:= { { p0 with Snap:= { p0.Snap with Man:=y0}}.Snap with Locs:=y1}} with Chunks:=y2}.Seq,Vol:= { { { p0 with Snap:= { p0.Snap with Man:=y0}} with Snap:= { { p0 with Snap:= { p0.Snap with Man:=y0}}.Snap with Locs:=y1}} with Chunks:=y2}.Vol,Items:=z0}:aV)
theorem W92 {w:Nat} {p0:aV} {o:aV} (h:aF) (m:M92 w p0=some o):
 aM Tryz.prog 92 [.agg (aJ p0)] h (λr h'=>r= .agg (aJ o)∧h'=h):=by
 refine fK 26 [.cell 2 62] Tryz.func92 rfl rfl rfl rfl ?_
 unfold M92 at m
 refine v (gX rfl rfl λk2 K3=>ve λu=>bG (zD) u QZ rfl rfl λk5 K6=>qk K6 rfl (v (vz [(10,some k2,.obj 62 (aJ p0))] mixed (λu=>⟨λ_=>aO 1 u rfl,trivial⟩) λu=>zF 0 rfl pR rfl (zF 1 rfl rF rfl (zL 2 0 (.agg (bI p0.Snap.Man)) rfl pQ rfl rfl rfl ?_)))))
 obtain⟨y0,Y0,m⟩:=aD m
 refine zC 3 rfl (bV (aA2 _ Y0) rfl TW rfl) (zF 4 rfl pR rfl (zF 5 rfl lB rfl (zL 6 0 (.sl none 4 (List.map aN p0.Snap.Locs)) rfl fT rfl rfl rfl ?_)))
 obtain⟨y1,Y1,m⟩:=aD m
 refine zC 7 rfl (bV (NA _ Y1) rfl EM rfl) (zF 8 rfl pR rfl (zF 9 rfl rF rfl (zE 10 rfl (aL 1 (aJ { p0 with Snap:= { p0.Snap with Man:=y0}}) u rfl rfl rfl rfl zR rfl rfl λK0=>⟨⟨λe=>absurd e (by decide),trivial⟩, ?_⟩))))
 refine zF 11 rfl pR rfl (zF 12 rfl lB rfl (zE 13 rfl (aL 1 (aJ { { p0 with Snap:= { p0.Snap with Man:=y0}} with Snap:= { { p0 with Snap:= { p0.Snap with Man:=y0}}.Snap with Locs:=y1}}) K0 rfl rfl rfl rfl pO rfl rfl λK1=>⟨⟨λe=>absurd e (by decide),trivial⟩, ?_⟩)))
 refine zX (qk (f:=LW 15 _ _ _ _ _ _ _ _ _ _ _ _ _) K1 rfl (v (v (vz [(8,some k2,.obj 62 (aJ { { p0 with Snap:= { p0.Snap with Man:=y0}} with Snap:= { { p0 with Snap:= { p0.Snap with Man:=y0}}.Snap with Locs:=y1}}))] mixed (λu=>⟨λ_=>aO 1 u rfl,trivial⟩) λu=>zF 0 rfl oI rfl (zL 1 0 (.sl none 35 (List.map aK ({ { p0 with Snap:= { p0.Snap with Man:=y0}} with Snap:= { { p0 with Snap:= { p0.Snap with Man:=y0}}.Snap with Locs:=y1}}.Chunks))) rfl fD rfl rfl rfl ?_)))))
 obtain⟨y2,Y2,m⟩:=aD m
 refine zC 2 rfl (bV (aGP _ Y2) rfl NC rfl) (zC 3 rfl (fA (.sc (.slice _ _ _)) rfl) (zF 4 rfl gR rfl (zL 5 0 (.sl none 37 (List.map aI ({ { p0 with Snap:= { p0.Snap with Man:=y0}} with Snap:= { { p0 with Snap:= { p0.Snap with Man:=y0}}.Snap with Locs:=y1}}.Items))) rfl l6 rfl rfl rfl (zF 7 rfl oI rfl ?_))))
 obtain⟨z0,Z0,m⟩:=aD m
 refine zE 6 rfl (oD (c:=aI) Z0 lA rfl rfl u nofun rfl λtg0 t0 K2=>⟨⟨λ_=>aO 2 K2 rfl,trivial⟩, ?_⟩)
 refine zE 8 rfl (aL 2 (aJ { { { p0 with Snap:= { p0.Snap with Man:=y0}} with Snap:= { { p0 with Snap:= { p0.Snap with Man:=y0}}.Snap with Locs:=y1}} with Chunks:=y2}) K2 rfl rfl rfl rfl D9 rfl rfl λK4=>⟨⟨λe=>absurd e (by decide),trivial⟩, ?_⟩)
 refine zF 9 rfl gR rfl (zE 10 rfl (aL 2 ([nZ ({ { { p0 with Snap:= { p0.Snap with Man:=y0}} with Snap:= { { p0 with Snap:= { p0.Snap with Man:=y0}}.Snap with Locs:=y1}} with Chunks:=y2}.Kind),nZ (({ { { p0 with Snap:= { p0.Snap with Man:=y0}} with Snap:= { { p0 with Snap:= { p0.Snap with Man:=y0}}.Snap with Locs:=y1}} with Chunks:=y2}.Snap).Seq),.sc (.string ((({ { { p0 with Snap:= { p0.Snap with Man:=y0}} with Snap:= { { p0 with Snap:= { p0.Snap with Man:=y0}}.Snap with Locs:=y1}} with Chunks:=y2}.Snap).Man).Name)),.sl none 3 (List.map bX ((({ { { p0 with Snap:= { p0.Snap with Man:=y0}} with Snap:= { { p0 with Snap:= { p0.Snap with Man:=y0}}.Snap with Locs:=y1}} with Chunks:=y2}.Snap).Man).Parts)),.sl none 4 (List.map aN (({ { { p0 with Snap:= { p0.Snap with Man:=y0}} with Snap:= { { p0 with Snap:= { p0.Snap with Man:=y0}}.Snap with Locs:=y1}} with Chunks:=y2}.Snap).Locs)),.sl none 35 (List.map aK ({ { { p0 with Snap:= { p0.Snap with Man:=y0}} with Snap:= { { p0 with Snap:= { p0.Snap with Man:=y0}}.Snap with Locs:=y1}} with Chunks:=y2}.Chunks)),nZ ({ { { p0 with Snap:= { p0.Snap with Man:=y0}} with Snap:= { { p0 with Snap:= { p0.Snap with Man:=y0}}.Snap with Locs:=y1}} with Chunks:=y2}.Seq),nZ ({ { { p0 with Snap:= { p0.Snap with Man:=y0}} with Snap:= { { p0 with Snap:= { p0.Snap with Man:=y0}}.Snap with Locs:=y1}} with Chunks:=y2}.Vol),ow tg0 37 (List.map aI z0)]) K4 rfl rfl (jF rfl) (pK _ _ _) aEP rfl rfl λK5=>⟨⟨λe=>absurd e (by decide),trivial⟩, ?_⟩))
 refine zX (qk (f:=.c 24 _ (.c 22 _ (.c 23 _ (fq6 21 _ _ _ _ _ _ _)))) K5 rfl (v (vl 2 (.agg ([nZ ({ { { p0 with Snap:= { p0.Snap with Man:=y0}} with Snap:= { { p0 with Snap:= { p0.Snap with Man:=y0}}.Snap with Locs:=y1}} with Chunks:=y2}.Kind),nZ (({ { { p0 with Snap:= { p0.Snap with Man:=y0}} with Snap:= { { p0 with Snap:= { p0.Snap with Man:=y0}}.Snap with Locs:=y1}} with Chunks:=y2}.Snap).Seq),.sc (.string ((({ { { p0 with Snap:= { p0.Snap with Man:=y0}} with Snap:= { { p0 with Snap:= { p0.Snap with Man:=y0}}.Snap with Locs:=y1}} with Chunks:=y2}.Snap).Man).Name)),.sl none 3 (List.map bX ((({ { { p0 with Snap:= { p0.Snap with Man:=y0}} with Snap:= { { p0 with Snap:= { p0.Snap with Man:=y0}}.Snap with Locs:=y1}} with Chunks:=y2}.Snap).Man).Parts)),.sl none 4 (List.map aN (({ { { p0 with Snap:= { p0.Snap with Man:=y0}} with Snap:= { { p0 with Snap:= { p0.Snap with Man:=y0}}.Snap with Locs:=y1}} with Chunks:=y2}.Snap).Locs)),.sl none 35 (List.map aK ({ { { p0 with Snap:= { p0.Snap with Man:=y0}} with Snap:= { { p0 with Snap:= { p0.Snap with Man:=y0}}.Snap with Locs:=y1}} with Chunks:=y2}.Chunks)),nZ ({ { { p0 with Snap:= { p0.Snap with Man:=y0}} with Snap:= { { p0 with Snap:= { p0.Snap with Man:=y0}}.Snap with Locs:=y1}} with Chunks:=y2}.Seq),nZ ({ { { p0 with Snap:= { p0.Snap with Man:=y0}} with Snap:= { { p0 with Snap:= { p0.Snap with Man:=y0}}.Snap with Locs:=y1}} with Chunks:=y2}.Vol),ow tg0 37 (List.map aI z0)])) sO rfl rfl rfl ?_)))
 refine ve λu=>aL 1 ([nZ ({ { { p0 with Snap:= { p0.Snap with Man:=y0}} with Snap:= { { p0 with Snap:= { p0.Snap with Man:=y0}}.Snap with Locs:=y1}} with Chunks:=y2}.Kind),nZ (({ { { p0 with Snap:= { p0.Snap with Man:=y0}} with Snap:= { { p0 with Snap:= { p0.Snap with Man:=y0}}.Snap with Locs:=y1}} with Chunks:=y2}.Snap).Seq),.sc (.string ((({ { { p0 with Snap:= { p0.Snap with Man:=y0}} with Snap:= { { p0 with Snap:= { p0.Snap with Man:=y0}}.Snap with Locs:=y1}} with Chunks:=y2}.Snap).Man).Name)),.sl none 3 (List.map bX ((({ { { p0 with Snap:= { p0.Snap with Man:=y0}} with Snap:= { { p0 with Snap:= { p0.Snap with Man:=y0}}.Snap with Locs:=y1}} with Chunks:=y2}.Snap).Man).Parts)),.sl none 4 (List.map aN (({ { { p0 with Snap:= { p0.Snap with Man:=y0}} with Snap:= { { p0 with Snap:= { p0.Snap with Man:=y0}}.Snap with Locs:=y1}} with Chunks:=y2}.Snap).Locs)),.sl none 35 (List.map aK ({ { { p0 with Snap:= { p0.Snap with Man:=y0}} with Snap:= { { p0 with Snap:= { p0.Snap with Man:=y0}}.Snap with Locs:=y1}} with Chunks:=y2}.Chunks)),nZ ({ { { p0 with Snap:= { p0.Snap with Man:=y0}} with Snap:= { { p0 with Snap:= { p0.Snap with Man:=y0}}.Snap with Locs:=y1}} with Chunks:=y2}.Seq),nZ ({ { { p0 with Snap:= { p0.Snap with Man:=y0}} with Snap:= { { p0 with Snap:= { p0.Snap with Man:=y0}}.Snap with Locs:=y1}} with Chunks:=y2}.Vol),ow tg0 37 (List.map aI z0)]) u rfl rfl rfl (by repeat (first | exact rfl | refine cG (jG _ _ _) ?_ | refine cG (cC _ _ _) ?_ | refine cG (gG _ _ _ _) ?_ | refine cG rfl ?_)) xT rfl rfl λK7=>qk K7 rfl ?_
 refine v ?_
 cases m
 exact vr λu=>dW.of1 (.inl rfl) (sE (.agg ([nZ ({ { { p0 with Snap:= { p0.Snap with Man:=y0}} with Snap:= { { p0 with Snap:= { p0.Snap with Man:=y0}}.Snap with Locs:=y1}} with Chunks:=y2}.Kind),nZ (({ { { p0 with Snap:= { p0.Snap with Man:=y0}} with Snap:= { { p0 with Snap:= { p0.Snap with Man:=y0}}.Snap with Locs:=y1}} with Chunks:=y2}.Snap).Seq),.sc (.string ((({ { { p0 with Snap:= { p0.Snap with Man:=y0}} with Snap:= { { p0 with Snap:= { p0.Snap with Man:=y0}}.Snap with Locs:=y1}} with Chunks:=y2}.Snap).Man).Name)),.sl none 3 (List.map bX ((({ { { p0 with Snap:= { p0.Snap with Man:=y0}} with Snap:= { { p0 with Snap:= { p0.Snap with Man:=y0}}.Snap with Locs:=y1}} with Chunks:=y2}.Snap).Man).Parts)),.sl none 4 (List.map aN (({ { { p0 with Snap:= { p0.Snap with Man:=y0}} with Snap:= { { p0 with Snap:= { p0.Snap with Man:=y0}}.Snap with Locs:=y1}} with Chunks:=y2}.Snap).Locs)),.sl none 35 (List.map aK ({ { { p0 with Snap:= { p0.Snap with Man:=y0}} with Snap:= { { p0 with Snap:= { p0.Snap with Man:=y0}}.Snap with Locs:=y1}} with Chunks:=y2}.Chunks)),nZ ({ { { p0 with Snap:= { p0.Snap with Man:=y0}} with Snap:= { { p0 with Snap:= { p0.Snap with Man:=y0}}.Snap with Locs:=y1}} with Chunks:=y2}.Seq),nZ ({ { { p0 with Snap:= { p0.Snap with Man:=y0}} with Snap:= { { p0 with Snap:= { p0.Snap with Man:=y0}}.Snap with Locs:=y1}} with Chunks:=y2}.Vol),ow tg0 37 (List.map aI z0)])) sO rfl (aW 1 u rfl) rfl) (aU (List.nil_sublist _) u).1 (bD.agg (.k8 (.cons ((dU _ 0 t0 u rfl)) .nil))) ⟨rfl,rfl⟩
theorem aHT:aP Tryz.prog 92=true:=by kernel_rfl
def z6 (m:Nat) (p0:aA) (p1:Int) (p2:Int) (p3:Int):Option (Bool):=
 after (if (decide (0≤p1))=true then (if (decide (p1 < (p0.Vols.length:Int)))=true then ((ix p0.Vols p1).bind λx0=>if (x0.State==p2)=true then (some (.brk true)) else (ix p0.Vols p1).bind λx1=>some (.brk (x1.State==p3))) else some (.brk false)) else some (.brk false):Option (Lp (Bool) (Bool))) λj0=>some j0
theorem WJ {w:Nat} {p0:aA} {p1:Int} {p2:Int} {p3:Int} {o:Bool} (h:aF) {p0K:bT} {gS:dD} (ok_Snaps:bK gS 4 p0.Snaps.length) {gC:dD} (oC:bK gC 35 p0.Chunks.length) {gE:dD} (oE:bK gE 3 p0.Exps.length) {gV:dD} (oV:bK gV 4 p0.Vols.length) (K0:bP h (hC p0K p0 gS gC gE gV)) (m:z6 w p0 p1 p2 p3=some o):
 aM Tryz.prog 155 [.ptr p0K 0,nZ p1,nZ p2,nZ p3] (hp h (hC p0K p0 gS gC gE gV)) (λr h'=>bP h (hC p0K p0 gS gC gE gV)∧r= .sc (.bool o)∧h'=hp h (hC p0K p0 gS gC gE gV)):=by
 refine FQ K0 44 [.tmp 8] Tryz.func155 rfl rfl rfl rfl ?_
 unfold z6 at m
 refine vs (v0 (vs (fN m (σ:=Bool) (λs=>(hC p0K p0 gS gC gE gV)) (λs=>.c 8 (.sc (.bool s)) .nil) (λx m=> ?_) ?_)))
 refine v0 ?_
 apply vi m <;> intro b0 m
 rw[b0]
 refine lU rfl (dX iW rfl rfl (vl 0 (aZ gV) iH rfl rfl rfl (bU (fB qK oV rfl) ?_)))
 apply vi m <;> intro b1 m
 rw[b1]
 refine lU rfl (dX iW rfl rfl (vl 0 (aZ gV) iH rfl rfl rfl ?_))
 obtain⟨x0,X0,m⟩:=aD m
 refine bU (dF X0 lZ oV rfl rfl) (bU (cW (bK.ne oV X0) rD rfl rfl) (vn (λu=>eJ (fo:=2) (nZ x0.State) X0 eT oV cB rfl (aO 4 u rfl) (λ_=>rfl)) ?_))
 apply vi m <;> intro b2 m
 rw[b2]
 exact nX m
 rw[b2]
 refine lU rfl (dX iW rfl rfl (vl 0 (aZ gV) iH rfl rfl rfl ?_))
 obtain⟨x1,X1,m⟩:=aD m
 exact bU (dF X1 lZ oV rfl rfl) (bU (cW (bK.ne oV X1) rD rfl rfl) (vn (λu=>eJ (fo:=2) (nZ x1.State) X1 eT oV cB rfl (aO 4 u rfl) (λ_=>rfl)) (nX m)))
 rw[b1]
 exact nX m
 rw[b0]
 exact nX m
 rintro _ j0 m
 refine v0 ?_
 obtain rfl:=eP m
 exact vr λu=>dW.of1 (.inl rfl) (gN _ _ (.sc (.bool _)) rfl) (bQ u [0,1,2,3,4] rfl).2 (bD.refl _ _) ⟨(bQ u [0,1,2,3,4] rfl).1,rfl,rfl⟩
theorem N6:aP Tryz.prog 155=true:=by kernel_rfl
def p8 (m:Nat) (p0:List aB) (p1:aB) (q0:Int):Option (Lp (Int) ((List aB))):=
 after (if (decide (q0 < (p0.length:Int)))=true then ((ix p0 q0).bind λx0=>(MX m x0.Id p1.Id).bind λy0=>some (.brk y0)) else some (.brk false):Option (Lp (Bool) (Lp (Int) ((List aB))))) λj0=>if j0=true then (some (.go (IntKind.wrap .i64 (q0+1)))) else some (.brk q0)
def E6 (m:Nat) (p0:List aB) (p1:aB):Option ((List aB)):=
 after (aS (λs=>p8 m p0 p1 s) m 0) λr0=>after (if (decide (r0 < (p0.length:Int)))=true then ((ix p0 r0).bind λx0=>some (.brk (decide (x0.Id=p1.Id)))) else some (.brk false):Option (Lp (Bool) ((List aB)))) λj0=>if j0=true then ((A6 m p0).bind λy0=>(vI m p1.Data).bind λy1=>(ix y0 r0).bind λx1=>(ix (y0.set r0.toNat ({ x1 with Staged:=true})) r0).bind λx2=>some ((y0.set r0.toNat ({ x1 with Staged:=true})).set r0.toNat ({ x2 with Data:=y1}))) else (slc p0 0 r0).bind λx3=>(app ([]:List aB) x3).bind λz0=>(app z0 ([p1]:List aB)).bind λz1=>(slc p0 r0 (p0).length).bind λx4=>(app z1 x4).bind λz2=>some z2
theorem aB4 {w:Nat} {p0:List aB} {p1:aB} {o:(List aB)} (h:aF) (m:E6 w p0 p1=some o):
 aM Tryz.prog 153 [.sl none 35 (List.map aK p0),.agg (aK p1)] h (λr h'=>∃g:dD,bK g 35 o.length∧bP h [(g.t,.obj 44 (fl aK o g.sp))]∧r=aZ g∧h'=hp h [(g.t,.obj 44 (fl aK o g.sp))]):=by
 refine fK 65 [.tmp 4] Tryz.func153 rfl rfl rfl rfl ?_
 unfold E6 at m
 refine vs (v0 (gX rfl rfl λk2 K3=>vs (v0 (vs (jP m (σ:=Int) (λs=> [(some k2,.obj 44 (aK p1))]) (λs=>.c 0 (.sl none 35 (List.map aK p0)) (.c 3 (.ptr k2 0) (.c 5 (nZ s) .nil))) (lx (.k3 .nil)) ?_ ?_)))))
 rintro _ q0 x m
 replace m:p8 w p0 p1 q0=some x:=m
 unfold p8 at m
 refine vs (vs (fN m (σ:=Bool) (λs=> [(some k2,.obj 44 (aK p1))]) (λs=>.c 0 (.sl none 35 (List.map aK p0)) (.c 3 (.ptr k2 0) (.c 5 (nZ q0) (.c 21 (.sc (.bool s)) .nil)))) (λx m=> ?_) ?_))
 refine v0 (CD (by kernel_rfl) (dH lI rfl ?_))
 apply vi m <;> intro b0 m
 rw[b0]
 exact vx m h9 rfl rfl λx0 _ m=>bU (m6 rC rfl rfl) (va (.agg (bC x0.Id)) eY rfl rfl (dX rC rfl rfl (vl 0 (.agg (bC p1.Id)) eY rfl rfl rfl (vk aAF TN m rfl rfl λ_ m=>fY m))))
 rw[b0]
 exact fY m
 rintro _ j0 m
 refine v0 ?_
 apply vi m <;> intro c0 m
 exact v0 (v0 (v0 (gD m)))
 exact v0 (Fq m)
 rintro _ r0 m
 refine vs (vs (fN m (σ:=Bool) (λs=> [(some k2,.obj 44 (aK p1))]) (λs=>.c 0 (.sl none 35 (List.map aK p0)) (.c 3 (.ptr k2 0) (.c 5 (nZ r0) (.c 37 (.sc (.bool s)) .nil)))) (λx m=> ?_) ?_))
 refine v0 (CD (by kernel_rfl) (dH lI rfl ?_))
 apply vi m <;> intro b1 m
 rw[b1]
 exact vx m h9 rfl rfl λx1 _ m=>bU (m6 rC rfl rfl) (va (.agg (bC x1.Id)) eY rfl rfl (dX rC rfl rfl (vl 0 (.agg (bC p1.Id)) eY rfl rfl rfl (bU (AO EA TD u5 D7 rfl rfl) (fY m)))))
 rw[b1]
 exact fY m
 rintro _ j1 m
 refine v0 ?_
 apply vi m <;> intro c1 m
 refine vs (v0 ?_)
 obtain⟨y0,Y0,m⟩:=aD m
 refine ve λu=>dR (TY _ Y0) rfl NC rfl ?_
 rintro x h' ⟨ag0,O0,K0,rfl,rfl⟩
 refine qk (bP.co u K0) (kM _ _ _) (vs (v0 (dX lS rfl rfl (vl 1 _ nY rfl rfl rfl (vk NB EN m rfl rfl λy1 m=> ?_)))))
 obtain⟨x2,X0,m⟩:=aD m
 refine bU (dF X0 h9 O0 rfl rfl) (bU (cW (bK.ne O0 X0) pP rfl rfl) (ve λu=>cX (fo:=32) ({ x2 with Staged:=true}:aB) 0 u X0 cY O0 rfl rfl rfl rfl (cS.refl _ _) ZE rfl rfl λK1=>qk K1 rfl ?_))
 obtain⟨x3,X1,m⟩:=aD m
 refine bU (dF X1 h9 (bK.set O0) rfl rfl) (bU (cW (bK.ne (bK.set O0) X1) lS rfl rfl) (ve λu=>cX (fo:=33) ({ x3 with Data:=y1}:aB) 0 u X1 cY (bK.set O0) rfl rfl rfl rfl (cS.refl _ _) EB rfl rfl λK2=>qk K2 rfl (vs (v0 (v0 ?_)))))
 cases m
 exact vr λu=>dW.one (.inl rfl) (aU (h0:=h) (L':= [(dA ag0 ((y0.set r0.toNat ({ x2 with Staged:=true})).set r0.toNat ({ x3 with Data:=y1})))]) (.cons_cons _ (.cons _ (.refl _))) u).1 (bD.refl _ _) ⟨ag0,(bK.set (bK.set O0)),(aU (h0:=h) (L':= [(dA ag0 ((y0.set r0.toNat ({ x2 with Staged:=true})).set r0.toNat ({ x3 with Data:=y1})))]) (.cons_cons _ (.cons _ (.refl _))) u).2,rfl,rfl⟩
 refine v0 (vs (v0 (vs (v0 (vz [(1000000,some k2,.obj 44 (aK p1))] mixed (λu=>⟨λ_=>aO 0 u rfl,trivial⟩) λu=>zC 0 rfl (fA (.sc (.slice _ _ _)) rfl) (zC 1 rfl (fA (.sl _ _ _) rfl) (zI 2 rfl rfl ?_)))))))
 obtain⟨_,X2,m⟩:=aD m
 refine zC 3 rfl (o5 X2 h9 rfl rfl rfl rfl) (zL 5 0 (.agg (aK p1)) rfl pB rfl rfl rfl (zC 6 rfl (eA (List.map aK ([p1]:List aB)) o8 rfl rfl rfl rfl) ?_))
 obtain⟨z0,Z0,m⟩:=aD m
 refine zE 4 rfl (B0 (c:=aK) Z0 o8 rfl qL rfl cY rfl u rfl λag1 O1 K4=>⟨⟨λ_=>aO 1 K4 rfl,trivial⟩, ?_⟩)
 obtain⟨z1,Z1,m⟩:=aD m
 refine zE 7 rfl (f8 (c:=aK) 0 Z1 o8 rfl qL rfl cY rfl rfl O1 K4 rfl λag2 O2 K5=>⟨⟨λ_=>aO 1 K5 rfl,trivial⟩, ?_⟩)
 refine zC 8 rfl (hH (aw _ _ _) rfl) (zX (qk (f:=.c 7 _ (.c 59 _ (.c 56 _ (.c 58 _ (.c 57 _ (S9 55 _ _ _ _ _)))))) K5 rfl (vs (v0 ?_))))
 obtain⟨_,X3,m⟩:=aD m
 refine bU (o5 X3 h9 rfl rfl rfl rfl) ?_
 obtain⟨z2,Z2,m⟩:=aD m
 refine ve λu=>f8 (c:=aK) 0 Z2 o8 rfl qL rfl cY rfl rfl O2 u rfl λag3 O3 K6=>qk K6 rfl (v0 ?_)
 obtain rfl:=eP m
 exact vr λu=>dW.one (.inl rfl) (aU (h0:=h) (L':= [(dA ag3 z2)]) (.cons_cons _ (.cons _ (.refl _))) u).1 (bD.refl _ _) ⟨ag3,O3,(aU (h0:=h) (L':= [(dA ag3 z2)]) (.cons_cons _ (.cons _ (.refl _))) u).2,rfl,rfl⟩
theorem aB5:aP Tryz.prog 153=true:=by kernel_rfl
open Go.Vm
theorem aHU {F:Nat} {c:aA} (hF:1000≤F) (h:Sm c):RU F c=some c:=by
 rw[← m14 (F:=F) hF h]
 rfl
theorem wru {n:Nat} (h:n < 1000000000):IntKind.wrap .u64 (n:Int)=n:=by
 have e:IntKind.wrap .u64 (n:Int)=(n:Int) % 18446744073709551616:=rfl
 rw[e]; omega
theorem RX (p:Int):0≤IntKind.wrap .u64 p:=by
 have e:IntKind.wrap .u64 p=p % 18446744073709551616:=rfl
 rw[e]; omega
theorem aB6 (p:Int) {n:Nat} (h0:0 < n) (hn:n < 1000000000):∃j:Nat,j < n∧IntKind.wrap .i64 ((IntKind.wrap .u64 p).tmod (n:Int))=(j:Int):=by
 have h1:=RX p
 generalize IntKind.wrap .u64 p=a at h1
 rw[Int.tmod_eq_emod_of_nonneg h1]
 have h2:0≤a % (n:Int):=Int.emod_nonneg _ (by omega)
 have h3:a % (n:Int) < n:=Int.emod_lt_of_pos _ (by omega)
 refine⟨(a % (n:Int)).toNat,by omega, ?_⟩
 rw[wr (by omega) (by omega)]
 omega
open Go.Vm
def tZ (m:Nat) (p0:aA) (p1:Int) (q0:List aH) (q1:Int):Option (Lp ((List aH)×Int) (Bool×(List aH)×(List aB))):=
 if (decide (q1 < (p0.Snaps.length:Int)))=true then ((ix p0.Snaps q1).bind λx0=>after (if (x0.Seq !=p1)=true then ((ix p0.Snaps q1).bind λx1=>(app q0 ([x1]:List aH)).bind λz0=>some (.brk z0)) else some (.brk q0):Option (Lp ((List aH)) (Lp ((List aH)×Int) (Bool×(List aH)×(List aB))))) λj0=>some (.go (j0,IntKind.wrap .i64 (q1+1)))) else some (.brk (q0,q1))
def uA (m:Nat) (p0:aA) (r0:List aH) (q0:List aB) (q1:Int):Option (Lp ((List aB)×Int) (Bool×(List aH)×(List aB))):=
 if (decide (q1 < (p0.Chunks.length:Int)))=true then (after ((ix p0.Chunks q1).bind λx0=>(V3 m ({ Seq:=p0.Seq,Snaps:=r0,Chunks:=p0.Chunks,Exps:=p0.Exps,Vols:=p0.Vols}:aA) x0.Id).bind λy0=>after (if (!y0)=true then (if ((({ { x0 with Staged:=false} with Data:=([]:List Int)}.Locs).length:Int)==0)=true then (some (.ret (.brk q0))) else some (.brk { { x0 with Staged:=false} with Data:=([]:List Int)})) else some (.brk x0):Option (Lp (aB) (Lp ((List aB)) (Lp ((List aB)×Int) (Bool×(List aH)×(List aB)))))) λj0=>(app q0 ([j0]:List aB)).bind λz0=>some (.brk z0):Option (Lp ((List aB)) (Lp ((List aB)×Int) (Bool×(List aH)×(List aB))))) λj1=>some (.go (j1,IntKind.wrap .i64 (q1+1)))) else some (.brk (q0,q1))
def CR (m:Nat) (p0:aA) (p1:Int):Option (Bool×(List aH)×(List aB)):=
 after (aS (λs=>tZ m p0 p1 s.1 s.2) m ([],0)) λ⟨r0,r1⟩=>if ((r0.length:Int)==(p0.Snaps.length:Int))=true then (some (false,p0.Snaps,p0.Chunks)) else after (aS (λs=>uA m p0 r0 s.1 s.2) m ([],0)) λ⟨r2,r3⟩=>some (true,r0,r2)
theorem aB7 {w:Nat} {p0:aA} {p1:Int} {o:Bool×(List aH)×(List aB)} (h:aF) {p0K:bT} {gS:dD} (ok_Snaps:bK gS 4 p0.Snaps.length) {gC:dD} (oC:bK gC 35 p0.Chunks.length) {gE:dD} (oE:bK gE 3 p0.Exps.length) {gV:dD} (oV:bK gV 4 p0.Vols.length) (K0:bP h (hC p0K p0 gS gC gE gV)) (m:CR w p0 p1=some o):
 aM Tryz.prog 154 [.ptr p0K 0,nZ p1] (hp h (hC p0K p0 gS gC gE gV)) (λr h'=>∃g_Snaps':dD,bK g_Snaps' 4 (o.2.1:List aH).length∧∃g_Chunks':dD,bK g_Chunks' 35 (o.2.2:List aB).length∧bP h (hL p0K p0.Seq g_Snaps' g_Chunks' gE gV o.2.1 o.2.2 p0.Exps p0.Vols)∧r= .sc (.bool o.1)∧h'=hp h (hL p0K p0.Seq g_Snaps' g_Chunks' gE gV o.2.1 o.2.2 p0.Exps p0.Vols)):=by
 refine FQ K0 88 [.tmp 4] Tryz.func154 rfl rfl rfl rfl ?_
 unfold CR at m
 refine vs (v0 (vs (v0 (vs (vs (v0 (qE (AS (.obj 60 (fl bJ ([]:List aH) g0.sp)) 5 (aZ g0) (fP _)) (nW m (σ:=(List aH)×Int) (τ:=dD) (λg s=>((dE g s.1)::(hC p0K p0 gS gC gE gV))) (λg s=>bK g 4 (s.1:List aH).length) (λg s=>.c 0 (.ptr p0K 0) (.c 1 (nZ p1) (.c 5 (aZ g) (.c 6 (nZ s.2) .nil)))) g0 (bK.g0 4) (lx (.k4 .nil)) ?_ ?_))))))))
 rintro ag0 ⟨q0,q1⟩ x O0 m
 replace m:tZ w p0 p1 q0 q1=some x:=m
 unfold tZ at m
 refine vs (vs (v0 (lU rfl (dX eL rfl rfl (vl 1 (aZ gS) fI rfl rfl rfl (bU (fB kZ ok_Snaps rfl) (v0 ?_)))))))
 apply vi m <;> intro c0 m
 refine v0 (vs (v0 (vs (v0 (lU rfl (dX eL rfl rfl (vl 1 (aZ gS) fI rfl rfl rfl ?_)))))))
 obtain⟨x0,X0,m⟩:=aD m
 refine bU (dF X0 jL ok_Snaps rfl rfl) (bU (cW (bK.ne ok_Snaps X0) B7 rfl rfl) (vn (λu=>eJ (fo:=0) (nZ x0.Seq) X0 eM ok_Snaps cB rfl (aO 2 u rfl) (λ_=>rfl)) (oG m (σ:=(List aH)) (τ:=dD) (λg s=>((dE g s)::(hC p0K p0 gS gC gE gV))) (λg s=>bK g 4 (s:List aH).length) (λg s=>.c 0 (.ptr p0K 0) (.c 1 (nZ p1) (.c 5 (aZ g) (.c 6 (nZ q1) .nil)))) (λx m=> ?_) ?_)))
 refine v0 ?_
 apply vi m <;> intro c1 m
 refine v0 (lU rfl (dX eL rfl rfl (vl 1 (aZ gS) fI rfl rfl rfl ?_)))
 obtain⟨x1,X1,m⟩:=aD m
 refine bU (dF X1 jL ok_Snaps rfl rfl) (vn (λu=>eJ (fo:=0) (.agg (bJ x1)) X1 eM ok_Snaps sN rfl (aO 2 u rfl) (λ_=>rfl)) (bU (eA (List.map bJ ([x1]:List aH)) D8 rfl rfl rfl rfl) ?_))
 obtain⟨z0,Z0,m⟩:=aD m
 exact ve λu=>f8 (c:=bJ) 0 Z0 D8 rfl xS rfl eM rfl rfl O0 u rfl λag1 O1 K1=>qk K1 rfl (eH m ag1 O1 (lx (.k4 .nil)))
 exact v0 (eH m ag0 O0 (lx (.k4 .nil)))
 rintro ag2 j0 O2 m
 exact v0 (eH m ag2 O2 (lx (.k4 .nil)))
 exact v0 (lN m ag0 O0 (lx (.k4 .nil)))
 rintro ag3 ⟨r0,r1⟩ t0 m
 refine vs (vs (v0 (bU (fB kZ t0 rfl) (lU rfl (dX eL rfl rfl (vl 1 (aZ gS) fI rfl rfl rfl (bU (fB kZ ok_Snaps rfl) (v0 ?_))))))))
 apply vi m <;> intro c2 m
 refine vs (v0 (v0 ?_))
 cases m
 exact vr λu=>dW.of1 (.inl rfl) (gN _ _ (.sc (.bool _)) rfl) (bQ u [1,2,3,4,5] rfl).2 (bD.refl _ _) ⟨gS,ok_Snaps,gC,oC,(bQ u [1,2,3,4,5] rfl).1,rfl,rfl⟩
 refine v0 (vs (v0 (lU rfl (dX eL rfl rfl (ve λu=>aL 1 ([nZ p0.Seq,aZ ag3,aZ gC,aZ gE,aZ gV]) u rfl rfl (cM rfl) (cG (cC _ _ _) rfl) L5 rfl rfl λK2=>qk K2 rfl (vs (v0 (vs (vs (v0 (qE (AS (.obj 44 (fl aK ([]:List aB) g0.sp)) 7 (aZ g0) (fP _)) (nW m (σ:=(List aB)×Int) (τ:=dD) (λg s=> [(dA g s.1),(dE ag3 r0),(hO p0K p0.Seq ag3 gC gE gV),(dE gS p0.Snaps),(dA gC p0.Chunks),(jR gE p0.Exps),(lC gV p0.Vols)]) (λg s=>bK g 35 (s.1:List aB).length) (λg s=>.c 0 (.ptr p0K 0) (.c 7 (aZ g) (.c 8 (nZ s.2) .nil))) g0 (bK.g0 35) (lx (.k3 .nil)) ?_ ?_))))))))))))
 rintro ag4 ⟨q2,q3⟩ x O3 m
 replace m:uA w p0 r0 q2 q3=some x:=m
 unfold uA at m
 refine vs (vs (v0 (lU rfl (dX eW rfl rfl (vl 2 (aZ gC) fD rfl rfl rfl (bU (fB lI oC rfl) (v0 ?_)))))))
 apply vi m <;> intro c3 m
 refine v0 (vs (oG m (σ:=(List aB)) (τ:=dD) (λg s=> [(dA g s),(dE ag3 r0),(hO p0K p0.Seq ag3 gC gE gV),(dE gS p0.Snaps),(dA gC p0.Chunks),(jR gE p0.Exps),(lC gV p0.Vols)]) (λg s=>bK g 35 (s:List aB).length) (λg s=>.c 0 (.ptr p0K 0) (.c 7 (aZ g) (.c 8 (nZ q3) .nil))) (λx m=> ?_) ?_))
 refine v0 (vs (v0 (lU rfl (dX eW rfl rfl (vl 2 (aZ gC) fD rfl rfl rfl ?_)))))
 obtain⟨x2,X2,m⟩:=aD m
 refine bU (dF X2 h9 oC rfl rfl) (vn (λu=>eJ (fo:=0) (.agg (aK x2)) X2 cY oC pB rfl (aO 4 u rfl) (λ_=>rfl)) (ve λu=>bG (bC gW++(SZ:List AV)) u qL rfl rfl λk465 K3=>qk K3 rfl (ve λu=>aL 0 (aK x2) u rfl rfl rfl rfl EC rfl rfl λK4=>qk K4 rfl (vs (vs (v0 (CD (by kernel_rfl) (lU rfl (vl 3 (.agg ([nZ p0.Seq,aZ ag3,aZ gC,aZ gE,aZ gV])) cZ rfl rfl rfl (dX rC rfl rfl (vl 0 (.agg (bC x2.Id)) eY rfl rfl rfl ?_)))))))))))
 obtain⟨_,Y0,m⟩:=aD m
 refine vn (λu=>bV (fH (.cons (Br.agg (.cons (Br.refl _ _) (.cons (Br.aw 2 eM t0 u rfl) (.cons (Br.aw 5 cY oC u rfl) (.cons (Br.aw 6 f9 oE u rfl) (.cons (Br.aw 7 eT oV u rfl) .nil)))))) (.cons (Br.refl _ _) .nil)) rfl (W38 _ Y0)) rfl V4 rfl) (fN m (σ:=aB) (λs=> [(some k465,.obj 44 (aK s)),(dA ag4 q2),(dE ag3 r0),(hO p0K p0.Seq ag3 gC gE gV),(dE gS p0.Snaps),(dA gC p0.Chunks),(jR gE p0.Exps),(lC gV p0.Vols)]) (λs=>.c 0 (.ptr p0K 0) (.c 7 (aZ ag4) (.c 8 (nZ q3) (.c 9 (.ptr k465 0) .nil)))) (λx m=> ?_) ?_)
 refine v0 ?_
 apply vi m <;> intro c4 m
 refine vs (v0 (dX pP rfl rfl (ve λu=>aL 0 (aK { x2 with Staged:=false}) u rfl rfl rfl rfl ZE rfl rfl λK5=>qk K5 rfl (dX lS rfl rfl (ve λu=>xK 0 (aK { { x2 with Staged:=false} with Data:=([]:List Int)}) u rfl rfl rfl rfl (.cons (a9 _) .nil) EB rfl rfl λK6=>qk K6 rfl (vs (v0 (dX jQ rfl rfl (vl 0 _ fT rfl rfl rfl (dH kD rfl (v0 ?_)))))))))))
 apply vi m <;> intro c5 m
 exact v0 (vxt m rfl λm=>eH m ag4 O3 (mE [1,2,3,4,5,6,7] rfl rfl (.k3 .nil)))
 exact v0 (fY m)
 exact v0 (fY m)
 rintro _ j1 m
 refine v0 (vl 0 (.agg (aK j1)) pB rfl rfl rfl (bU (eA (List.map aK ([j1]:List aB)) o8 rfl rfl rfl rfl) ?_))
 obtain⟨z1,Z1,m⟩:=aD m
 exact ve λu=>f8 (c:=aK) 1 Z1 o8 rfl qL rfl cY rfl rfl O3 u rfl λag5 O4 K7=>qk K7 rfl (eH m ag5 O4 (mE [1,2,3,4,5,6,7] rfl rfl (.k3 .nil)))
 rintro ag6 j2 O5 m
 exact v0 (eH m ag6 O5 (lx (.k3 .nil)))
 exact v0 (lN m ag4 O3 (lx (.k3 .nil)))
 rintro ag7 ⟨r2,r3⟩ t1 m
 refine vs (v0 (lU rfl (dX eW rfl rfl (ve λu=>aL 2 ([nZ p0.Seq,aZ ag3,aZ ag7,aZ gE,aZ gV]) u rfl rfl (cM rfl) (cG (cC _ _ _) rfl) D9 rfl rfl λK8=>qk K8 rfl (vs (v0 (v0 ?_)))))))
 cases m
 exact vr λu=>dW.of1 (.inl rfl) (gN _ _ (.sc (.bool _)) rfl) (bQ u [2,1,0,5,6] rfl).2 (bD.refl _ _) ⟨ag3,t0,ag7,t1,(bQ u [2,1,0,5,6] rfl).1,rfl,rfl⟩
theorem TZ:aP Tryz.prog 154=true:=by kernel_rfl
def mB (m:Nat) (p0:aA) (p1:aE) (p2:aR) (q0:Int):Option (Lp (Int) (Lp (Int×(List aB)×(List aT)) (Bool×Int×AY))):=
 if (decide (q0 < (p0.Snaps.length:Int)))=true then ((ix p0.Snaps q0).bind λx0=>if (x0.Seq==p1.Seq)=true then ((ix p0.Snaps q0).bind λx1=>(G7 m x1.Locs p2).bind λy0=>(ix p0.Snaps q0).bind λx2=>some (.ret (.ret (true,p0.Seq,p0.Snaps.set q0.toNat ({ x2 with Locs:=y0}),p0.Chunks,p0.Exps)))) else some (.go (IntKind.wrap .i64 (q0+1)))) else some (.brk q0)
def uB (m:Nat) (p0:aA) (p1:aE) (q0:Int):Option (Lp (Int) (Lp (Int×(List aB)×(List aT)) (Bool×Int×AY))):=
 after (if (decide (q0 < (p0.Exps.length:Int)))=true then ((ix p0.Exps q0).bind λx0=>some (.brk (decide (x0.Seq < p1.Seq)))) else some (.brk false):Option (Lp (Bool) (Lp (Int) (Lp (Int×(List aB)×(List aT)) (Bool×Int×AY))))) λj0=>if j0=true then (some (.go (IntKind.wrap .i64 (q0+1)))) else some (.brk q0)
def G9 (m:Nat) (p0:aA) (p1:aE) (p2:aR):Option (Bool×Int×AY):=
 after (if (p1.Kind==1)=true then ((KS m ({ Seq:=p0.Seq,Snaps:=p0.Snaps,Chunks:=p0.Chunks,Exps:=p0.Exps,Vols:=p0.Vols}:aA) p1.Id).bind λy0=>if (decide (y0 < 0))=true then (some (.ret (false,p0.Seq,p0.Snaps,p0.Chunks,p0.Exps))) else (ix p0.Chunks y0).bind λx0=>(G7 m x0.Locs p2).bind λy1=>(ix p0.Chunks y0).bind λx1=>some (.brk (p0.Seq,p0.Chunks.set y0.toNat ({ x1 with Locs:=y1}),p0.Exps))) else if (p1.Kind==2)=true then (after (aS (λs=>mB m p0 p1 p2 s) m 0) λr0=>some (.ret (false,p0.Seq,p0.Snaps,p0.Chunks,p0.Exps))) else after (aS (λs=>uB m p0 p1 s) m 0) λr1=>after (if (decide (r1 < (p0.Exps.length:Int)))=true then ((ix p0.Exps r1).bind λx2=>some (.brk (x2.Seq==p1.Seq))) else some (.brk false):Option (Lp (Bool) (Lp (Int×(List aB)×(List aT)) (Bool×Int×AY)))) λj0=>if j0=true then ((ix p0.Exps r1).bind λx3=>(G7 m x3.Locs p2).bind λy2=>(ix p0.Exps r1).bind λx4=>some (.ret (true,p0.Seq,p0.Snaps,p0.Chunks,p0.Exps.set r1.toNat ({ x4 with Locs:=y2})))) else (slc p0.Exps 0 r1).bind λx5=>(app ([]:List aT) x5).bind λz0=>(app z0 ([({ Seq:=p1.Seq,Of:=p1.Of,Locs:=([p2]:List aR)}:aT)]:List aT)).bind λz1=>(slc p0.Exps r1 (p0.Exps).length).bind λx6=>(app z1 x6).bind λz2=>after (if (decide (p0.Seq≤p1.Seq))=true then (some (.brk (decide (p1.Seq < 4611686018427387904)))) else some (.brk false):Option (Lp (Bool) (Lp (Int×(List aB)×(List aT)) (Bool×Int×AY)))) λj1=>after (if j1=true then (some (.brk (IntKind.wrap .i64 (p1.Seq+1)))) else some (.brk p0.Seq):Option (Lp (Int) (Lp (Int×(List aB)×(List aT)) (Bool×Int×AY)))) λj2=>some (.brk (j2,p0.Chunks,z2)):Option (Lp (Int×(List aB)×(List aT)) (Bool×Int×AY))) λ⟨j3,j4,j5⟩=>some (true,j3,p0.Snaps,j4,j5)
theorem aHW {w:Nat} {p0:aA} {p1:aE} {p2:aR} {o:Bool×Int×AY} (h:aF) {p0K:bT} {gS:dD} (ok_Snaps:bK gS 4 p0.Snaps.length) {gC:dD} (oC:bK gC 35 p0.Chunks.length) {gE:dD} (oE:bK gE 3 p0.Exps.length) {gV:dD} (oV:bK gV 4 p0.Vols.length) (K0:bP h (hC p0K p0 gS gC gE gV)) (m:G9 w p0 p1 p2=some o):
 aM Tryz.prog 156 [.ptr p0K 0,.agg (aI p1),.agg (aN p2)] (hp h (hC p0K p0 gS gC gE gV)) (λr h'=>∃g_Snaps':dD,bK g_Snaps' 4 (o.2.2.1:List aH).length∧∃g_Chunks':dD,bK g_Chunks' 35 (o.2.2.2.1:List aB).length∧∃g_Exps':dD,bK g_Exps' 3 (o.2.2.2.2:List aT).length∧bP h (hL p0K o.2.1 g_Snaps' g_Chunks' g_Exps' gV o.2.2.1 o.2.2.2.1 o.2.2.2.2 p0.Vols)∧r= .sc (.bool o.1)∧h'=hp h (hL p0K o.2.1 g_Snaps' g_Chunks' g_Exps' gV o.2.2.1 o.2.2.2.1 o.2.2.2.2 p0.Vols)):=by
 refine FQ K0 184 [.tmp 6] Tryz.func156 rfl rfl rfl rfl ?_
 unfold G9 at m
 refine vs (v0 (gX rfl rfl λk2 K3=>gX rfl rfl λk5 K6=>vs (vs (v0 (dX mQ rfl rfl (vl 1 _ cB rfl rfl rfl (v0 (vs (v0 (oG m (σ:=Int×(List aB)×(List aT)) (τ:=dD×dD) (λg s=>((some k5,.obj 81 (aN p2))::(some k2,.obj 38 (aI p1))::(hL p0K s.1 gS g.1 g.2 gV p0.Snaps s.2.1 s.2.2 p0.Vols))) (λg s=>bK g.1 35 (s.2.1:List aB).length∧bK g.2 3 (s.2.2:List aT).length) (λg s=>.nil) (λx m=> ?_) ?_))))))))))
 refine v0 ?_
 apply vi m <;> intro c0 m
 refine vs (v0 (CD (by kernel_rfl) (lU rfl (vl 2 (.agg ([nZ p0.Seq,aZ gS,aZ gC,aZ gE,aZ gV])) cZ rfl rfl rfl (dX xO rfl rfl (vl 1 (.agg (bC p1.Id)) eY rfl rfl rfl ?_))))))
 obtain⟨_,Y0,m⟩:=aD m
 refine vn (λu=>bV (fH (.cons (Br.agg (.cons (Br.refl _ _) (.cons (Br.aw 3 eM ok_Snaps u rfl) (.cons (Br.aw 4 cY oC u rfl) (.cons (Br.aw 5 f9 oE u rfl) (.cons (Br.aw 6 eT oV u rfl) .nil)))))) (.cons (Br.refl _ _) .nil)) rfl (W88 _ Y0)) rfl Q6 rfl) (vs (vs (v0 (v0 ?_))))
 apply vi m <;> intro c1 m
 refine vs (v0 (v0 (fZ m λm=> ?_)))
 cases m
 exact vr λu=>dW.of1 (.inl rfl) (gN _ _ (.sc (.bool _)) rfl) (bQ u [2,3,4,5,6] rfl).2 (bD.refl _ _) ⟨gS,ok_Snaps,gC,oC,gE,oE,(bQ u [2,3,4,5,6] rfl).1,rfl,rfl⟩
 refine v0 (v0 (vz [(1000000,some p0K,.obj 30 ([nZ p0.Seq,aZ gS,aZ gC,aZ gE,aZ gV])),(17,gC.t,.obj 44 (fl aK (p0.Chunks:List aB) gC.sp)),(1000000,some k5,.obj 81 (aN p2))] mixed (λu=>⟨λ_=>aO 2 u rfl,λ_=>aO 4 u rfl,λ_=>aO 0 u rfl,trivial⟩) λu=>zP 0 rfl rfl (zN 1 rfl rfl (zF 2 rfl eW rfl (zL 3 0 (aZ gC) rfl fD rfl rfl rfl (zI 4 rfl rfl (zP 5 rfl rfl (zN 6 rfl rfl (zF 7 rfl eW rfl (zL 8 0 (aZ gC) rfl fD rfl rfl rfl (zI 9 rfl rfl ?_)))))))))))
 obtain⟨x0,X0,m⟩:=aD m
 refine zC 10 rfl (dF X0 h9 oC rfl rfl) (zC 11 rfl (cW (bK.ne oC X0) jQ rfl rfl) (zO 12 rfl (λ_ _ hi hB=>eJ (fo:=34) (.sl none 4 (List.map aN x0.Locs)) X0 cY oC fT rfl (fS.get 1 hi rfl (hB 17 (by kernel_rfl))) (λ_=>rfl)) (zL 13 2 (.agg (aN p2)) rfl m9 rfl rfl rfl ?_)))
 obtain⟨y0,Y1,m⟩:=aD m
 refine zC 14 rfl (bV (WH _ Y1) rfl N4 rfl) ?_
 obtain⟨x1,X1,m⟩:=aD m
 refine zC 15 rfl (dF X1 h9 oC rfl rfl) (zC 16 rfl (cW (bK.ne oC X1) jQ rfl rfl) (zE 17 rfl (cX (fo:=34) ({ x1 with Locs:=y0}:aB) 4 u X1 cY oC rfl rfl rfl rfl (cS.refl _ _) pO rfl rfl λK1=>⟨⟨λ_=>aO 2 K1 rfl,λe=>absurd e (by decide),λ_=>aO 0 K1 rfl,trivial⟩, ?_⟩)))
 exact zX (qk (f:=GG 144 _ _ _ _ _ _ _ _ _ _ _ _ _ _ _ _ _ _) K1 rfl (eH m (gC,gE) ⟨(bK.set oC),oE⟩ (lx .nil)))
 refine vs (v0 (v0 ?_))
 apply vi m <;> intro c2 m
 refine vs (vs (v0 (jP m (σ:=Int) (λs=>((some k5,.obj 81 (aN p2))::(some k2,.obj 38 (aI p1))::(hC p0K p0 gS gC gE gV))) (λs=>.c 0 (.ptr p0K 0) (.c 4 (.ptr k2 0) (.c 5 (.ptr k5 0) (.c 8 (nZ s) .nil)))) (lx (.k4 .nil)) ?_ ?_)))
 rintro _ q0 x m
 replace m:mB w p0 p1 p2 q0=some x:=m
 unfold mB at m
 refine vs (vs (v0 (lU rfl (dX eL rfl rfl (vl 2 (aZ gS) fI rfl rfl rfl (bU (fB kZ ok_Snaps rfl) (v0 ?_)))))))
 apply vi m <;> intro c3 m
 refine v0 (vs (v0 (vs (v0 (CD (by kernel_rfl) (lU rfl (dX eL rfl rfl (vl 2 (aZ gS) fI rfl rfl rfl ?_))))))))
 obtain⟨x2,X2,m⟩:=aD m
 refine bU (dF X2 jL ok_Snaps rfl rfl) (bU (cW (bK.ne ok_Snaps X2) B7 rfl rfl) (vn (λu=>eJ (fo:=0) (nZ x2.Seq) X2 eM ok_Snaps cB rfl (aO 3 u rfl) (λ_=>rfl)) (dX lR rfl rfl (vl 1 _ cB rfl rfl rfl (v0 ?_)))))
 apply vi m <;> intro c4 m
 refine vs (v0 (vz [(1000000,some p0K,.obj 30 ([nZ p0.Seq,aZ gS,aZ gC,aZ gE,aZ gV])),(17,gS.t,.obj 60 (fl bJ (p0.Snaps:List aH) gS.sp)),(1000000,some k5,.obj 81 (aN p2))] mixed (λu=>⟨λ_=>aO 2 u rfl,λ_=>aO 3 u rfl,λ_=>aO 0 u rfl,trivial⟩) λu=>zP 0 rfl rfl (zN 1 rfl rfl (zF 2 rfl eL rfl (zL 3 0 (aZ gS) rfl fI rfl rfl rfl (zI 4 rfl rfl (zP 5 rfl rfl (zN 6 rfl rfl (zF 7 rfl eL rfl (zL 8 0 (aZ gS) rfl fI rfl rfl rfl (zI 9 rfl rfl ?_)))))))))))
 obtain⟨x3,X3,m⟩:=aD m
 refine zC 10 rfl (dF X3 jL ok_Snaps rfl rfl) (zC 11 rfl (cW (bK.ne ok_Snaps X3) lB rfl rfl) (zO 12 rfl (λ_ _ hi hB=>eJ (fo:=3) (.sl none 4 (List.map aN x3.Locs)) X3 eM ok_Snaps fT rfl (fS.get 1 hi rfl (hB 17 (by kernel_rfl))) (λ_=>rfl)) (zL 13 2 (.agg (aN p2)) rfl m9 rfl rfl rfl ?_)))
 obtain⟨y1,Y2,m⟩:=aD m
 refine zC 14 rfl (bV (WH _ Y2) rfl N4 rfl) ?_
 obtain⟨x4,X4,m⟩:=aD m
 refine zC 15 rfl (dF X4 jL ok_Snaps rfl rfl) (zC 16 rfl (cW (bK.ne ok_Snaps X4) lB rfl rfl) (zE 17 rfl (cX (fo:=3) ({ x4 with Locs:=y1}:aH) 3 u X4 eM ok_Snaps rfl rfl rfl rfl (cS.refl _ _) pO rfl rfl λK2=>⟨⟨λ_=>aO 2 K2 rfl,λe=>absurd e (by decide),λ_=>aO 0 K2 rfl,trivial⟩, ?_⟩)))
 refine zX (qk (f:=GG 183 _ _ _ _ _ _ _ _ _ _ _ _ _ _ _ _ _ _) K2 rfl (vs (v0 (v0 (fZ m λm=>fZ m λm=> ?_)))))
 cases m
 exact vr λu=>dW.of1 (.inl rfl) (gN _ _ (.sc (.bool _)) rfl) (bQ u [2,3,4,5,6] rfl).2 (bD.refl _ _) ⟨gS,(bK.set ok_Snaps),gC,oC,gE,oE,(bQ u [2,3,4,5,6] rfl).1,rfl,rfl⟩
 exact v0 (v0 (fY m))
 exact v0 (wE m)
 rintro _ r0 m
 refine vs (v0 (v0 (fZ m λm=> ?_)))
 cases m
 exact vr λu=>dW.of1 (.inl rfl) (gN _ _ (.sc (.bool _)) rfl) (bQ u [2,3,4,5,6] rfl).2 (bD.refl _ _) ⟨gS,ok_Snaps,gC,oC,gE,oE,(bQ u [2,3,4,5,6] rfl).1,rfl,rfl⟩
 refine vs (v0 (vs (jP m (σ:=Int) (λs=>((some k5,.obj 81 (aN p2))::(some k2,.obj 38 (aI p1))::(hC p0K p0 gS gC gE gV))) (λs=>.c 0 (.ptr p0K 0) (.c 4 (.ptr k2 0) (.c 5 (.ptr k5 0) (.c 9 (nZ s) .nil)))) (lx (.k4 .nil)) ?_ ?_)))
 rintro _ q1 x m
 replace m:uB w p0 p1 q1=some x:=m
 unfold uB at m
 refine vs (vs (fN m (σ:=Bool) (λs=>((some k5,.obj 81 (aN p2))::(some k2,.obj 38 (aI p1))::(hC p0K p0 gS gC gE gV))) (λs=>.c 0 (.ptr p0K 0) (.c 4 (.ptr k2 0) (.c 5 (.ptr k5 0) (.c 9 (nZ q1) (.c 32 (.sc (.bool s)) .nil))))) (λx m=> ?_) ?_))
 refine v0 (CD (by kernel_rfl) (lU rfl (dX eU rfl rfl (vl 2 (aZ gE) iG rfl rfl rfl (bU (fB pN oE rfl) ?_)))))
 apply vi m <;> intro b0 m
 rw[b0]
 refine lU rfl (dX eU rfl rfl (vl 2 (aZ gE) iG rfl rfl rfl ?_))
 obtain⟨x5,X5,m⟩:=aD m
 exact bU (dF X5 iR oE rfl rfl) (bU (cW (bK.ne oE X5) xV rfl rfl) (vn (λu=>eJ (fo:=0) (nZ x5.Seq) X5 f9 oE cB rfl (aO 5 u rfl) (λ_=>rfl)) (dX lR rfl rfl (vl 1 _ cB rfl rfl rfl (kY m)))))
 rw[b0]
 exact kY m
 rintro _ j0 m
 refine v0 ?_
 apply vi m <;> intro c5 m
 exact v0 (v0 (v0 (fY m)))
 exact v0 (wE m)
 rintro _ r1 m
 refine vs (vs (fN m (σ:=Bool) (λs=>((some k5,.obj 81 (aN p2))::(some k2,.obj 38 (aI p1))::(hC p0K p0 gS gC gE gV))) (λs=>.c 0 (.ptr p0K 0) (.c 4 (.ptr k2 0) (.c 5 (.ptr k5 0) (.c 9 (nZ r1) (.c 54 (.sc (.bool s)) .nil))))) (λx m=> ?_) ?_))
 refine v0 (CD (by kernel_rfl) (lU rfl (dX eU rfl rfl (vl 2 (aZ gE) iG rfl rfl rfl (bU (fB pN oE rfl) ?_)))))
 apply vi m <;> intro b1 m
 rw[b1]
 refine lU rfl (dX eU rfl rfl (vl 2 (aZ gE) iG rfl rfl rfl ?_))
 obtain⟨x6,X6,m⟩:=aD m
 exact bU (dF X6 iR oE rfl rfl) (bU (cW (bK.ne oE X6) xV rfl rfl) (vn (λu=>eJ (fo:=0) (nZ x6.Seq) X6 f9 oE cB rfl (aO 5 u rfl) (λ_=>rfl)) (dX lR rfl rfl (vl 1 _ cB rfl rfl rfl (kY m)))))
 rw[b1]
 exact kY m
 rintro _ j1 m
 refine v0 ?_
 apply vi m <;> intro c6 m
 refine vs (v0 (vz [(1000000,some p0K,.obj 30 ([nZ p0.Seq,aZ gS,aZ gC,aZ gE,aZ gV])),(17,gE.t,.obj 99 (fl cH (p0.Exps:List aT) gE.sp)),(1000000,some k5,.obj 81 (aN p2))] mixed (λu=>⟨λ_=>aO 2 u rfl,λ_=>aO 5 u rfl,λ_=>aO 0 u rfl,trivial⟩) λu=>zP 0 rfl rfl (zN 1 rfl rfl (zF 2 rfl eU rfl (zL 3 0 (aZ gE) rfl iG rfl rfl rfl (zI 4 rfl rfl (zP 5 rfl rfl (zN 6 rfl rfl (zF 7 rfl eU rfl (zL 8 0 (aZ gE) rfl iG rfl rfl rfl (zI 9 rfl rfl ?_)))))))))))
 obtain⟨x7,X7,m⟩:=aD m
 refine zC 10 rfl (dF X7 iR oE rfl rfl) (zC 11 rfl (cW (bK.ne oE X7) mR rfl rfl) (zO 12 rfl (λ_ _ hi hB=>eJ (fo:=2) (.sl none 4 (List.map aN x7.Locs)) X7 f9 oE fT rfl (fS.get 1 hi rfl (hB 17 (by kernel_rfl))) (λ_=>rfl)) (zL 13 2 (.agg (aN p2)) rfl m9 rfl rfl rfl ?_)))
 obtain⟨y2,Y3,m⟩:=aD m
 refine zC 14 rfl (bV (WH _ Y3) rfl N4 rfl) ?_
 obtain⟨x8,X8,m⟩:=aD m
 refine zC 15 rfl (dF X8 iR oE rfl rfl) (zC 16 rfl (cW (bK.ne oE X8) mR rfl rfl) (zE 17 rfl (cX (fo:=2) ({ x8 with Locs:=y2}:aT) 5 u X8 f9 oE rfl rfl rfl rfl (cS.refl _ _) pO rfl rfl λK4=>⟨⟨λ_=>aO 2 K4 rfl,λe=>absurd e (by decide),λ_=>aO 0 K4 rfl,trivial⟩, ?_⟩)))
 refine zX (qk (f:=GG 71 _ _ _ _ _ _ _ _ _ _ _ _ _ _ _ _ _ _) K4 rfl (vs (v0 (v0 (fZ m λm=> ?_)))))
 cases m
 exact vr λu=>dW.of1 (.inl rfl) (gN _ _ (.sc (.bool _)) rfl) (bQ u [2,3,4,5,6] rfl).2 (bD.refl _ _) ⟨gS,ok_Snaps,gC,oC,gE,(bK.set oE),(bQ u [2,3,4,5,6] rfl).1,rfl,rfl⟩
 refine v0 (vs (v0 (vs (qE (λu=>f0.fzO (n:=184) (f:=_) 5 2 ([nZ p0.Seq,aZ gS,aZ gC,.sl none 3 (List.map cH p0.Exps),aZ gV]) u rfl (.cons (Fz.refl _ _ _) (.cons (Fz.refl _ _ _) (.cons (Fz.refl _ _ _) (.cons (Fz.aw 5 f9 oE u rfl (.refl _)) (.cons (Fz.refl _ _ _) .nil)))))) (v0 (vz [(1000000,some p0K,.obj 30 ([nZ p0.Seq,aZ gS,aZ gC,.sl none 3 (List.map cH p0.Exps),aZ gV])),(1000000,some k2,.obj 38 (aI p1)),(1000000,some k5,.obj 81 (aN p2))] mixed (λu=>⟨λ_=>aO 2 u rfl,λ_=>aO 1 u rfl,λ_=>aO 0 u rfl,trivial⟩) λu=>zC 0 rfl (fA (.sc (.slice _ _ _)) rfl) (zP 1 rfl rfl (zN 2 rfl rfl (zF 3 rfl eU rfl (zL 4 0 (.sl none 3 (List.map cH p0.Exps)) rfl iG rfl rfl rfl (zI 5 rfl rfl ?_)))))))))))
 obtain⟨_,X9,m⟩:=aD m
 refine zC 6 rfl (o5 X9 iR rfl rfl rfl rfl) (zF 8 rfl lR rfl (zL 9 1 (nZ p1.Seq) rfl cB rfl rfl rfl (zF 10 rfl xP rfl (zL 11 1 (nZ p1.Of) rfl cB rfl rfl rfl (zL 12 2 (.agg (aN p2)) rfl m9 rfl rfl rfl (zC 13 rfl (eA (List.map aN ([p2]:List aR)) pA rfl rfl rfl rfl) (zC 14 rfl (eI (cH ({ Seq:=p1.Seq,Of:=p1.Of,Locs:=([p2]:List aR)}:aT)) ZO rfl) (zC 15 rfl (eA (List.map cH ([({ Seq:=p1.Seq,Of:=p1.Of,Locs:=([p2]:List aR)}:aT)]:List aT)) o9 rfl rfl rfl rfl) ?_))))))))
 obtain⟨z0,Z0,m⟩:=aD m
 refine zE 7 rfl (B0 (c:=cH) Z0 o9 rfl sP rfl f9 rfl u rfl λag0 O0 K5=>⟨⟨λ_=>aO 3 K5 rfl,λ_=>aO 2 K5 rfl,λ_=>aO 1 K5 rfl,trivial⟩, ?_⟩)
 obtain⟨z1,Z1,m⟩:=aD m
 refine zE 16 rfl (f8 (c:=cH) 0 Z1 o9 rfl sP rfl f9 rfl rfl O0 K5 rfl λag1 O1 K7=>⟨⟨λ_=>aO 3 K7 rfl,λ_=>aO 2 K7 rfl,λ_=>aO 1 K7 rfl,trivial⟩, ?_⟩)
 refine zC 17 rfl (hH (aw _ _ _) rfl) (zX (qk (f:=.c 10 _ (.c 88 _ (.c 79 _ (TA 87 _ _ _ _ _ _ _ _ (fq7 78 _ _ _ _ _ _ _ _))))) K7 rfl (vs (v0 (lU rfl (dX eU rfl rfl (vl 3 _ iG rfl rfl rfl ?_)))))))
 obtain⟨_,X10,m⟩:=aD m
 refine bU (o5 X10 iR rfl rfl rfl rfl) ?_
 obtain⟨z2,Z2,m⟩:=aD m
 refine ve λu=>f8 (c:=cH) 0 Z2 o9 rfl sP rfl f9 rfl rfl O1 u rfl λag2 O2 K8=>qk K8 rfl (lU rfl (dX eU rfl rfl (ve λu=>aL 3 ([nZ p0.Seq,aZ gS,aZ gC,aZ ag2,aZ gV]) u rfl rfl (cM rfl) (cG (cC _ _ _) rfl) L6 rfl rfl λK9=>qk K9 rfl (vs (fN m (σ:=Bool) (λs=> [(jR ag2 z2),(some k5,.obj 81 (aN p2)),(some k2,.obj 38 (aI p1)),(hO p0K p0.Seq gS gC ag2 gV),(dE gS p0.Snaps),(dA gC p0.Chunks),(lC gV p0.Vols)]) (λs=>.c 0 (.ptr p0K 0) (.c 4 (.ptr k2 0) (.c 111 (.sc (.bool s)) .nil))) (λx m=> ?_) ?_)))))
 refine v0 (CD (by kernel_rfl) (dX lR rfl rfl (vl 2 _ cB rfl rfl rfl (lU rfl (dX rB rfl rfl (vl 3 _ cB rfl rfl rfl ?_))))))
 apply vi m <;> intro b2 m
 rw[b2]
 exact dX lR rfl rfl (vl 2 _ cB rfl rfl rfl (gD m))
 rw[b2]
 exact gD m
 rintro _ j2 m
 refine fN m (σ:=Int) (λs=> [(jR ag2 z2),(some k5,.obj 81 (aN p2)),(some k2,.obj 38 (aI p1)),(hO p0K s gS gC ag2 gV),(dE gS p0.Snaps),(dA gC p0.Chunks),(lC gV p0.Vols)]) (λs=>.nil) (λx m=> ?_) ?_
 refine v0 ?_
 apply vi m <;> intro c7 m
 exact v0 (dX lR rfl rfl (vl 2 _ cB rfl rfl rfl (lU rfl (dX rB rfl rfl (ve λu=>aL 3 ([nZ (IntKind.wrap .i64 (p1.Seq+1)),aZ gS,aZ gC,aZ ag2,aZ gV]) u rfl rfl rfl rfl AT rfl rfl λK10=>qk K10 rfl (gq0 m))))))
 exact v0 (gq0 m)
 rintro _ j3 m
 exact eH m (gC,ag2) ⟨oC,O2⟩ (mE [1,2,3,4,5,0,6] rfl rfl .nil)
 rintro⟨ag3,ag4⟩ ⟨j4,j5,j6⟩ ⟨O3,O4⟩ m
 refine vs (v0 (v0 ?_))
 cases m
 exact vr λu=>dW.of1 (.inl rfl) (gN _ _ (.sc (.bool _)) rfl) (bQ u [2,3,4,5,6] rfl).2 (bD.refl _ _) ⟨gS,ok_Snaps,ag3,O3,ag4,O4,(bQ u [2,3,4,5,6] rfl).1,rfl,rfl⟩
theorem aB8:aP Tryz.prog 156=true:=by kernel_rfl
end Go.Proofs.YtbbifdfldpfphaaGreat
