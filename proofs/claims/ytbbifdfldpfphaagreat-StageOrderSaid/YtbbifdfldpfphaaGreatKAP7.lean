import Derived.Test.YtbbifdfldpfphaaGreatKAP6
import Derived.Test.YtbbifdfldpfphaaGreatKAP3
import Derived.Test.YtbbifdfldpfphaaGreatKAP5
import Derived.Test.YtbbifdfldpfphaaGreatKAP4
set_option linter.unusedSimpArgs false
set_option linter.unusedVariables false
set_option maxHeartbeats 4000000
set_option maxRecDepth 100000
open Bool(false_eq_true)
open Go.Instr(findKey findNow)
open Int(ofNat_lt)
open Go.IntKind(wrap)
open List(getElem?_eq_getElem getElem_drop getElem_of_mem length_drop map map_cons map_nil mem_filter nil_append nil_sublist replicate set_set)
open Nat(le_refl)
open Go.Oper(wp)
open Option(bind_some)
open Go.Result(andThen_ok)
open Go.Sem(run run_bind)
open Go.Proofs.Tryz(prog)
namespace Go.Proofs.YtbbifdfldpfphaaGreat
open Go.Vm
def IQ (m:Nat) (p0:List aH):Option (List aH):=app [] p0
theorem aCF {w:Nat} {p0:List aH} {o:List aH} (h:aF) (m:IQ w p0=some o):
 aM prog 132 [.sl none 4 (map bJ p0)] h (λr h'=>∃g:dE,bK g 4 o.length/\bP h [(g.t,.obj 60 (fl bJ o g.sp))]/\r=aZ g/\h'=hp h [(g.t,.obj 60 (fl bJ o g.sp))]):=by
 refine iZ 8 [.tmp 2] Tryz.func132 rfl rfl rfl rfl ?_
 unfold IQ at m
 refine f0 λK1 H1=>dR (qI (iC (.sc (.slice _ _ _)) rfl) (eV (H1 _ _ (f0 λK1 H1=>f0 λK2 H2=>dR (vE rfl (kR (jT rfl (by rw[iW]; rfl) (by rw[bF]; exact rfl) (.inl ⟨_,_,_,rfl,λb hb=> ?_⟩))))))))
 refine eV (H2 _ _ (mT rfl (λhc=> ?_) (λhc=> ?_)))
 have h0:p0= []:=by
   cases p0 with
   | nil=>rfl
   | cons x l=>have:=hb (by simp); rw[this] at hc; cases hc
 subst h0
 obtain⟨rfl, -⟩:=jM m
 exact f0 λK1 H1=>dR (qI (iC (.sc (.slice _ _ _)) rfl) (eV (H1 _ _ (iB (dW.one (.inl rfl) (iJ.refl _) (fT _) ⟨g0,bK.g0 _,bP.none (bP.nil _),rfl,rfl⟩)))))
 exact lM (H1 _ _ (f0 λK1 H1=>dR (kR (qK (c:=bJ) (bP.nil _) EG λu=>vE rfl (kR (gG (c:=bJ) 0 m EG rfl xZ rfl eP rfl rfl (bK.g0 _) u rfl λg ok u=>qI (iC (aw _ _ _) rfl) (eV (H1 _ _ (iB (dW.one (.inl rfl) (iJ.refl _) (bD.refl _ _) ⟨g,ok,u,rfl,rfl⟩))))))))))
theorem aCG:aP prog 132=true:=by kernel_rfl
def IR (m:Nat) (p0:List aB):Option (List aB):=app [] p0
theorem aCH {w:Nat} {p0:List aB} {o:List aB} (h:aF) (m:IR w p0=some o):
 aM prog 133 [.sl none 35 (map aK p0)] h (λr h'=>∃g:dE,bK g 35 o.length/\bP h [(g.t,.obj 44 (fl aK o g.sp))]/\r=aZ g/\h'=hp h [(g.t,.obj 44 (fl aK o g.sp))]):=by
 refine iZ 8 [.tmp 2] Tryz.func133 rfl rfl rfl rfl ?_
 unfold IR at m
 refine f0 λK1 H1=>dR (qI (iC (.sc (.slice _ _ _)) rfl) (eV (H1 _ _ (f0 λK1 H1=>f0 λK2 H2=>dR (vE rfl (kR (jT rfl (by rw[hX]; rfl) (by rw[bF]; exact rfl) (.inl ⟨_,_,_,rfl,λb hb=> ?_⟩))))))))
 refine eV (H2 _ _ (mT rfl (λhc=> ?_) (λhc=> ?_)))
 have h0:p0= []:=by
   cases p0 with
   | nil=>rfl
   | cons x l=>have:=hb (by simp); rw[this] at hc; cases hc
 subst h0
 obtain⟨rfl, -⟩:=jM m
 exact f0 λK1 H1=>dR (qI (iC (.sc (.slice _ _ _)) rfl) (eV (H1 _ _ (iB (dW.one (.inl rfl) (iJ.refl _) (fT _) ⟨g0,bK.g0 _,bP.none (bP.nil _),rfl,rfl⟩)))))
 exact lM (H1 _ _ (f0 λK1 H1=>dR (kR (qK (c:=aK) (bP.nil _) pE λu=>vE rfl (kR (gG (c:=aK) 0 m pE rfl qP rfl cZ rfl rfl (bK.g0 _) u rfl λg ok u=>qI (iC (aw _ _ _) rfl) (eV (H1 _ _ (iB (dW.one (.inl rfl) (iJ.refl _) (bD.refl _ _) ⟨g,ok,u,rfl,rfl⟩))))))))))
theorem aCI:aP prog 133=true:=by kernel_rfl
def IS (m:Nat) (p0:List aT):Option (List aT):=app [] p0
theorem aCJ {w:Nat} {p0:List aT} {o:List aT} (h:aF) (m:IS w p0=some o):
 aM prog 134 [.sl none 3 (map cH p0)] h (λr h'=>∃g:dE,bK g 3 o.length/\bP h [(g.t,.obj 99 (fl cH o g.sp))]/\r=aZ g/\h'=hp h [(g.t,.obj 99 (fl cH o g.sp))]):=by
 refine iZ 8 [.tmp 2] Tryz.func134 rfl rfl rfl rfl ?_
 unfold IS at m
 refine f0 λK1 H1=>dR (qI (iC (.sc (.slice _ _ _)) rfl) (eV (H1 _ _ (f0 λK1 H1=>f0 λK2 H2=>dR (vE rfl (kR (jT rfl (by rw[iX]; rfl) (by rw[bF]; exact rfl) (.inl ⟨_,_,_,rfl,λb hb=> ?_⟩))))))))
 refine eV (H2 _ _ (mT rfl (λhc=> ?_) (λhc=> ?_)))
 have h0:p0= []:=by
   cases p0 with
   | nil=>rfl
   | cons x l=>have:=hb (by simp); rw[this] at hc; cases hc
 subst h0
 obtain⟨rfl, -⟩:=jM m
 exact f0 λK1 H1=>dR (qI (iC (.sc (.slice _ _ _)) rfl) (eV (H1 _ _ (iB (dW.one (.inl rfl) (iJ.refl _) (fT _) ⟨g0,bK.g0 _,bP.none (bP.nil _),rfl,rfl⟩)))))
 exact lM (H1 _ _ (f0 λK1 H1=>dR (kR (qK (c:=cH) (bP.nil _) pF λu=>vE rfl (kR (gG (c:=cH) 0 m pF rfl sV rfl gH rfl rfl (bK.g0 _) u rfl λg ok u=>qI (iC (aw _ _ _) rfl) (eV (H1 _ _ (iB (dW.one (.inl rfl) (iJ.refl _) (bD.refl _ _) ⟨g,ok,u,rfl,rfl⟩))))))))))
theorem aCK:aP prog 134=true:=by kernel_rfl
def IT (m:Nat) (p0:List aQ):Option (List aQ):=app [] p0
theorem aCL {w:Nat} {p0:List aQ} {o:List aQ} (h:aF) (m:IT w p0=some o):
 aM prog 135 [.sl none 4 (map dH p0)] h (λr h'=>∃g:dE,bK g 4 o.length/\bP h [(g.t,.obj 49 (fl dH o g.sp))]/\r=aZ g/\h'=hp h [(g.t,.obj 49 (fl dH o g.sp))]):=by
 refine iZ 8 [.tmp 2] Tryz.func135 rfl rfl rfl rfl ?_
 unfold IT at m
 refine f0 λK1 H1=>dR (qI (iC (.sc (.slice _ _ _)) rfl) (eV (H1 _ _ (f0 λK1 H1=>f0 λK2 H2=>dR (vE rfl (kR (jT rfl (by rw[nA]; rfl) (by rw[bF]; exact rfl) (.inl ⟨_,_,_,rfl,λb hb=> ?_⟩))))))))
 refine eV (H2 _ _ (mT rfl (λhc=> ?_) (λhc=> ?_)))
 have h0:p0= []:=by
   cases p0 with
   | nil=>rfl
   | cons x l=>have:=hb (by simp); rw[this] at hc; cases hc
 subst h0
 obtain⟨rfl, -⟩:=jM m
 exact f0 λK1 H1=>dR (qI (iC (.sc (.slice _ _ _)) rfl) (eV (H1 _ _ (iB (dW.one (.inl rfl) (iJ.refl _) (fT _) ⟨g0,bK.g0 _,bP.none (bP.nil _),rfl,rfl⟩)))))
 exact lM (H1 _ _ (f0 λK1 H1=>dR (kR (qK (c:=dH) (bP.nil _) MO λu=>vE rfl (kR (gG (c:=dH) 0 m MO rfl RD rfl eW rfl rfl (bK.g0 _) u rfl λg ok u=>qI (iC (aw _ _ _) rfl) (eV (H1 _ _ (iB (dW.one (.inl rfl) (iJ.refl _) (bD.refl _ _) ⟨g,ok,u,rfl,rfl⟩))))))))))
theorem aCM:aP prog 135=true:=by kernel_rfl
def tZ (m:Nat) (y0:(List aH)) (q0:List aH) (q1:Int):Option (Lp ((List aH)×Int) (aA)):=
 if decide (q1 < (y0.length:Int)) then ((ix q0 q1).bind λx0=>(OH m x0.Man).bind λy1=>(CP m x0.Locs).bind λy2=>Gk ((q0.set q1.toNat ({ x0 with Man:=y1})).set q1.toNat ({ ({ x0 with Man:=y1}:aH) with Locs:=y2}),wrap .i64 (q1+1))) else Bk (q0,q1)
def uA (m:Nat) (y0:(List aB)) (q0:List aB) (q1:Int):Option (Lp ((List aB)×Int) (aA)):=
 if decide (q1 < (y0.length:Int)) then ((ix q0 q1).bind λx0=>(M96 m x0.Data).bind λy1=>(CP m x0.Locs).bind λy2=>Gk ((q0.set q1.toNat ({ x0 with Data:=y1})).set q1.toNat ({ ({ x0 with Data:=y1}:aB) with Locs:=y2}),wrap .i64 (q1+1))) else Bk (q0,q1)
def uB (m:Nat) (y0:(List aT)) (q0:List aT) (q1:Int):Option (Lp ((List aT)×Int) (aA)):=
 if decide (q1 < (y0.length:Int)) then ((ix q0 q1).bind λx0=>(CP m x0.Locs).bind λy1=>(ix q0 q1).bind λx1=>Gk (q0.set q1.toNat ({ x1 with Locs:=y1}),wrap .i64 (q1+1))) else Bk (q0,q1)
def OI (m:Nat) (p0:aA):Option (aA):=
 (IQ m p0.Snaps).bind λy0=>(IR m p0.Chunks).bind λy1=>(IS m p0.Exps).bind λy2=>(IT m p0.Vols).bind λy3=>after (aR (λs=>tZ m y0 s.1 s.2) m (y0,0)) λ⟨r0,r1⟩=>after (aR (λs=>uA m y1 s.1 s.2) m (y1,0)) λ⟨r2,r3⟩=>after (aR (λs=>uB m y2 s.1 s.2) m (y2,0)) λ⟨r4,r5⟩=>some ({ Seq:=p0.Seq,Snaps:=r0,Chunks:=r2,Exps:=r4,Vols:=y3}:aA)
theorem aH0 {w:Nat} {p0:aA} {o:aA} (h:aF) (m:OI w p0=some o):
 aM prog 77 [.agg (aC p0)] h (λr h'=>∃gS:dI,nI aH.Locs 4 4 gS (o.Snaps:List aH)/\∃gC:dI,nI aB.Locs 35 4 gC (o.Chunks:List aB)/\∃gE:dI,nI aT.Locs 3 4 gE (o.Exps:List aT)/\∃gV:dE,bK gV 4 o.Vols.length/\bP h ([bL gS o.Snaps,aY gC o.Chunks,bR gE o.Exps,a8 gV o.Vols]++((bO gS o.Snaps)++((bB gC o.Chunks)++(bS gE o.Exps))))/\r= .agg ([nZ o.Seq,aZ gS.a,aZ gC.a,aZ gE.a,aZ gV])/\h'=hp h ([bL gS o.Snaps,aY gC o.Chunks,bR gE o.Exps,a8 gV o.Vols]++((bO gS o.Snaps)++((bB gC o.Chunks)++(bS gE o.Exps))))):=by
 refine fQ 98 [.cell 2 30] Tryz.func77 rfl rfl rfl rfl ?_
 unfold OI at m
 refine vs (v0 (gZ rfl rfl λk2 K3=>ve λu=>bG (jF) u sP rfl rfl λk5 K6=>qk K6 rfl (vs (v0 (vz [(13,some k2,.obj 30 (aC p0))] mixed (λu=>⟨λ_=>aO 1 u rfl,trivial⟩) λu=>zF 0 rfl eM rfl (zL 1 0 (.sl none 4 (map bJ p0.Snaps)) rfl fD rfl rfl rfl (zF 3 rfl fF rfl (zL 4 0 (.sl none 35 (map aK p0.Chunks)) rfl fE rfl rfl rfl (zF 6 rfl eY rfl (zL 7 0 (.sl none 3 (map cH p0.Exps)) rfl iL rfl rfl rfl (zF 9 rfl jA rfl (zL 10 0 (.sl none 4 (map dH p0.Vols)) rfl i9 rfl rfl rfl ?_))))))))))))
 obtain⟨y0,Y0,m⟩:=aD m
 refine zE 2 rfl (dO (aCF _ Y0) rfl aCG rfl ?_)
 rintro x h' ⟨ag0,O0,K0,rfl,rfl⟩
 rw[kU]
 refine⟨⟨λ_=>aO 2 (bP.co u K0) rfl,trivial⟩, ?_⟩
 refine zF 12 rfl eM rfl ?_
 obtain⟨y1,Y1,m⟩:=aD m
 refine zE 5 rfl (dO (aCH _ Y1) rfl aCI rfl ?_)
 rintro x h' ⟨ag1,O1,K1,rfl,rfl⟩
 rw[kU]
 refine⟨⟨λ_=>aO 3 (bP.co (bP.co u K0) K1) rfl,trivial⟩, ?_⟩
 obtain⟨y2,Y2,m⟩:=aD m
 refine zE 8 rfl (dO (aCJ _ Y2) rfl aCK rfl ?_)
 rintro x h' ⟨ag2,O2,K2,rfl,rfl⟩
 rw[kU]
 refine⟨⟨λ_=>aO 4 (bP.co (bP.co (bP.co u K0) K1) K2) rfl,trivial⟩, ?_⟩
 obtain⟨y3,Y3,m⟩:=aD m
 refine zE 11 rfl (dO (aCL _ Y3) rfl aCM rfl ?_)
 rintro x h' ⟨ag3,O3,K4,rfl,rfl⟩
 rw[kU]
 refine⟨⟨λ_=>aO 5 (bP.co (bP.co (bP.co (bP.co u K0) K1) K2) K4) rfl,trivial⟩, ?_⟩
 refine zE 13 rfl (aL 5 ([nZ p0.Seq,aZ ag0,.sl none 35 (map aK p0.Chunks),.sl none 3 (map cH p0.Exps),.sl none 4 (map dH p0.Vols)]) (bP.co (bP.co (bP.co (bP.co u K0) K1) K2) K4) rfl rfl (cM rfl) (cG (cC _ _ _) rfl) MM rfl rfl λK5=>⟨⟨λe=>absurd e (by decide),trivial⟩, ?_⟩)
 refine zF 14 rfl fF rfl (zE 15 rfl (aL 5 ([nZ p0.Seq,aZ ag0,aZ ag1,.sl none 3 (map cH p0.Exps),.sl none 4 (map dH p0.Vols)]) K5 rfl rfl (cM rfl) (cG (cC _ _ _) rfl) EH rfl rfl λK7=>⟨⟨λe=>absurd e (by decide),trivial⟩, ?_⟩))
 refine zF 16 rfl eY rfl (zE 17 rfl (aL 5 ([nZ p0.Seq,aZ ag0,aZ ag1,aZ ag2,.sl none 4 (map dH p0.Vols)]) K7 rfl rfl (cM rfl) (cG (cC _ _ _) rfl) MN rfl rfl λK8=>⟨⟨λe=>absurd e (by decide),trivial⟩, ?_⟩))
 refine zF 18 rfl jA rfl (zE 19 rfl (aL 5 ([nZ p0.Seq,aZ ag0,aZ ag1,aZ ag2,aZ ag3]) K8 rfl rfl (cM rfl) (cG (cC _ _ _) rfl) U9 rfl rfl λK9=>⟨⟨λe=>absurd e (by decide),trivial⟩, ?_⟩))
 refine zX (qk (f:=.c 23 _ (.c 22 _ (.c 21 _ (.c 19 _ (.c 16 _ (.c 13 _ (.c 20 _ (.c 10 _ (.c 18 _ (.c 17 _ (.c 15 _ (.c 14 _ (.c 12 _ (.c 11 _ (.c 9 _ (.c 8 _ _)))))))))))))))) K9 rfl (vs (vs (pM (toN (L':=([a8 ag3 y3,bR (⟨ag2,replicate (y2:List aT).length none⟩:dI) y2,cD ag1 y1,cP ag0 y0,(some k5,.obj 30 (jF)),OC k2 p0.Seq ag0 ag1 ((⟨ag2,replicate (y2:List aT).length none⟩:dI).a) ag3]++(bS (⟨ag2,replicate (y2:List aT).length none⟩:dI) y2))) (λ_=>rfl) [[_],[_],[_],[_],[_],[_]] rfl 1 rfl rfl) (pM (toN (L':=([a8 ag3 y3,bR (⟨ag2,replicate (y2:List aT).length none⟩:dI) y2,aY (⟨ag1,replicate (y1:List aB).length none⟩:dI) y1,cP ag0 y0,(some k5,.obj 30 (jF)),OC k2 p0.Seq ag0 ((⟨ag1,replicate (y1:List aB).length none⟩:dI).a) ((⟨ag2,replicate (y2:List aT).length none⟩:dI).a) ag3]++((bS (⟨ag2,replicate (y2:List aT).length none⟩:dI) y2)++(bB (⟨ag1,replicate (y1:List aB).length none⟩:dI) y1)))) (λ_=>rfl) [[_],[_],[_],[_],[_],[_],_] rfl 2 rfl rfl) (pM (toN (L':=([a8 ag3 y3,bR (⟨ag2,replicate (y2:List aT).length none⟩:dI) y2,aY (⟨ag1,replicate (y1:List aB).length none⟩:dI) y1,bL (⟨ag0,replicate (y0:List aH).length none⟩:dI) y0,(some k5,.obj 30 (jF)),OC k2 p0.Seq ((⟨ag0,replicate (y0:List aH).length none⟩:dI).a) ((⟨ag1,replicate (y1:List aB).length none⟩:dI).a) ((⟨ag2,replicate (y2:List aT).length none⟩:dI).a) ag3]++((bS (⟨ag2,replicate (y2:List aT).length none⟩:dI) y2)++((bB (⟨ag1,replicate (y1:List aB).length none⟩:dI) y1)++(bO (⟨ag0,replicate (y0:List aH).length none⟩:dI) y0))))) (λ_=>rfl) [[_],[_],[_],[_],[_],[_],_,_] rfl 3 rfl rfl) (v0 (dY eM rfl rfl (vl 5 (aw (⟨ag0,replicate (y0:List aH).length none⟩:dI).a.t (⟨ag0,replicate (y0:List aH).length none⟩:dI).a.n (⟨ag0,replicate (y0:List aH).length none⟩:dI).a.cap) fD rfl rfl rfl (bU (fK lA ((CT.zero (l:=aH.Locs) (szi:=4) O0).k.a) rfl) ?_))))))))))
 refine WQ m (σ:=(List aH)×Int) (τ:=dI) (λg s=>([a8 ag3 y3,bR (⟨ag2,replicate (y2:List aT).length none⟩:dI) y2,aY (⟨ag1,replicate (y1:List aB).length none⟩:dI) y1,bL g s.1,(some k5,.obj 30 (jF)),OC k2 p0.Seq g.a ((⟨ag1,replicate (y1:List aB).length none⟩:dI).a) ((⟨ag2,replicate (y2:List aT).length none⟩:dI).a) ag3]++((bS (⟨ag2,replicate (y2:List aT).length none⟩:dI) y2)++((bB (⟨ag1,replicate (y1:List aB).length none⟩:dI) y1)++(bO g s.1))))) (λg s=>CT aH.Locs 4 4 g (s.1:List aH) s.2.toNat (y0:List aH).length) (λg s=>nI aH.Locs 4 4 g (s.1:List aH)) (λg s=>.c 1 (.ptr k2 0) (.c 2 (.ptr k5 0) (.c 26 (nZ (y0.length:Int)) (.c 27 (nZ s.2) .nil)))) (⟨ag0,replicate (y0:List aH).length none⟩:dI) (CT.zero (l:=aH.Locs) (szi:=4) O0) (lx (.k4 .nil)) ?_ ?_
 rintro ng0 ⟨q0,q1⟩ x O4 m
 replace m:tZ w y0 q0 q1=some x:=m
 unfold tZ at m
 refine vs (v0 (vs (v0 ?_)))
 apply vi m<;>intro c0 m
 refine v0 (vs (v0 (vs (v0 (vs (v0 (dY eM rfl rfl (vl 5 (aZ ng0.a) fD rfl rfl rfl ?_))))))))
 obtain⟨x0,X0,m⟩:=aD m
 refine bU (dG (O4.k.ix X0) iW O4.k.z rfl rfl) (pM (N1 (L':=([a8 ag3 y3,bR (⟨ag2,replicate (y2:List aT).length none⟩:dI) y2,aY (⟨ag1,replicate (y1:List aB).length none⟩:dI) y1,bL ng0 q0,(some k5,.obj 30 (jF)),OC k2 p0.Seq ng0.a ((⟨ag1,replicate (y1:List aB).length none⟩:dI).a) ((⟨ag2,replicate (y2:List aT).length none⟩:dI).a) ag3]++((bS (⟨ag2,replicate (y2:List aT).length none⟩:dI) y2)++((bB (⟨ag1,replicate (y1:List aB).length none⟩:dI) y1)++(lO 81 aN ((nl aH.Locs (zg (q0:List aH) ng0.gs)).eraseIdx q1.toNat)))))) [[_],[_],[_],[_],[_],[_],_,_,_] rfl 8 (q1.toNat) rfl rfl) (v0 (vz [(14,ng0.a.t,.obj 60 (fl mG (zg (q0:List aH) ng0.gs) ng0.a.sp))] mixed (λu=>⟨λ_=>aO 3 u rfl,trivial⟩) λu=>zC 0 rfl (fJ (wL _ _) rfl) (zC 1 rfl (fJ (wL _ _) rfl) (zC 2 rfl (fJ (wL _ _) rfl) (zC 3 rfl (i8 (bK.ne O4.k.z (O4.k.ix X0)) rfl) (zC 4 rfl (cX (bK.ne O4.k.z (O4.k.ix X0)) rK rfl rfl) (z5 5 rfl (λ_ _ hi hB=>eK (fo:=1) (.agg (bI x0.Man)) (O4.k.ix X0) m5 O4.k.z pW rfl (fV.get 0 hi rfl (hB 14 (by kernel_rfl))) (λ_=>rfl)) ?_))))))))
 obtain⟨y4,Y4,m⟩:=aD m
 refine zC 6 rfl (bV (aHZ _ Y4) rfl aCE rfl) (zC 7 rfl (fJ (wL _ _) rfl) (zC 8 rfl (i8 (bK.ne O4.k.z (O4.k.ix X0)) rfl) (zC 9 rfl (cX (bK.ne O4.k.z (O4.k.ix X0)) lJ rfl rfl) (z5 10 rfl (λ_ _ hi hB=>iR (eK (fo:=3) (awO aN 4 (gx ng0.gs q1.toNat) x0.Locs) (O4.k.ix X0) m5 O4.k.z fW rfl (fV.get 0 hi rfl (hB 14 (by kernel_rfl))) (λ_=>rfl)) (bD.of_eq (congrArg (λz=>awO aN 4 z x0.Locs) (O4.post _ (le_refl _))))) ?_))))
 obtain⟨y5,Y5,m⟩:=aD m
 refine zE 11 rfl (dO (RX _ Y5) rfl RY rfl ?_)
 rintro x h' ⟨ag4,O5,K10,rfl,rfl⟩
 rw[kU]
 refine⟨⟨λ_=>aO 4 (bP.co u K10) rfl,trivial⟩, ?_⟩
 refine zC 12 rfl (i8 (bK.ne O4.k.z (O4.k.ix X0)) rfl) (zC 13 rfl (cX (bK.ne O4.k.z (O4.k.ix X0)) rK rfl rfl) (zE 14 rfl (cY (fo:=1) (x':=(({ x0 with Man:=y4}:aH),(gx ng0.gs q1.toNat))) 4 (bP.co u K10) (O4.k.ix X0) m5 O4.k.z rfl rfl rfl rfl (cS.refl _ _) z7 rfl rfl ?_)))
 intro K11
 have hs0:tO aH.Locs 4 4 ng0 (q0:List aH):=O4.k
 have hn0:hp h _=hp h ([kG ag4 y5,a8 ag3 y3,bR (⟨ag2,replicate (y2:List aT).length none⟩:dI) y2,aY (⟨ag1,replicate (y1:List aB).length none⟩:dI) y1,bL ng0 (q0.set q1.toNat ({ x0 with Man:=y4})),(some k5,.obj 30 (jF)),OC k2 p0.Seq ng0.a ((⟨ag1,replicate (y1:List aB).length none⟩:dI).a) ((⟨ag2,replicate (y2:List aT).length none⟩:dI).a) ag3]++((bS (⟨ag2,replicate (y2:List aT).length none⟩:dI) y2)++((bB (⟨ag1,replicate (y1:List aB).length none⟩:dI) y1)++(lO 81 aN ((nl aH.Locs (zg (q0.set q1.toNat ({ x0 with Man:=y4}):List aH) ng0.gs)).eraseIdx q1.toNat)))))/\bP h ([kG ag4 y5,a8 ag3 y3,bR (⟨ag2,replicate (y2:List aT).length none⟩:dI) y2,aY (⟨ag1,replicate (y1:List aB).length none⟩:dI) y1,bL ng0 (q0.set q1.toNat ({ x0 with Man:=y4})),(some k5,.obj 30 (jF)),OC k2 p0.Seq ng0.a ((⟨ag1,replicate (y1:List aB).length none⟩:dI).a) ((⟨ag2,replicate (y2:List aT).length none⟩:dI).a) ag3]++((bS (⟨ag2,replicate (y2:List aT).length none⟩:dI) y2)++((bB (⟨ag1,replicate (y1:List aB).length none⟩:dI) y1)++(lO 81 aN ((nl aH.Locs (zg (q0.set q1.toNat ({ x0 with Man:=y4}):List aH) ng0.gs)).eraseIdx q1.toNat))))):=eqN (L:=_) K11 (by unfold bL; (try unfold bO); rw[(hs0.set (x':=({ x0 with Man:=y4}:aH)) X0 rfl).2.2,<- (hs0.set (x':=({ x0 with Man:=y4}:aH)) X0 rfl).2.1]; first | done | rfl)
 refine qO hn0.1 (⟨⟨λe=>absurd e (by decide),trivial⟩, ?_⟩)
 refine zC 15 rfl (i8 (bK.ne ((O4.set (x':=({ x0 with Man:=y4}:aH)) X0 rfl).k.z) ((O4.set (x':=({ x0 with Man:=y4}:aH)) X0 rfl).k.ix (cR (x':=({ x0 with Man:=y4}:aH)) X0))) rfl) (zC 16 rfl (cX (bK.ne ((O4.set (x':=({ x0 with Man:=y4}:aH)) X0 rfl).k.z) ((O4.set (x':=({ x0 with Man:=y4}:aH)) X0 rfl).k.ix (cR (x':=({ x0 with Man:=y4}:aH)) X0))) lJ rfl rfl) (zE 17 rfl (cY (fo:=3) (x':=(({ ({ x0 with Man:=y4}:aH) with Locs:=y5}:aH),some ag4)) 4 hn0.2 ((O4.set (x':=({ x0 with Man:=y4}:aH)) X0 rfl).k.ix (cR (x':=({ x0 with Man:=y4}:aH)) X0)) m5 ((O4.set (x':=({ x0 with Man:=y4}:aH)) X0 rfl).k.z) rfl rfl (cM rfl) (cG (cC _ _ _) rfl) (cS.refl _ _) pU rfl rfl ?_)))
 intro K12
 have O6:=(O4.set (x':=({ x0 with Man:=y4}:aH)) X0 rfl).step (x':=({ ({ x0 with Man:=y4}:aH) with Locs:=y5}:aH)) (cR (x':=({ x0 with Man:=y4}:aH)) X0) ag4 O5
 have hr0:=BA (L':=(eC ag4 y5)::(([a8 ag3 y3,bR (⟨ag2,replicate (y2:List aT).length none⟩:dI) y2,aY (⟨ag1,replicate (y1:List aB).length none⟩:dI) y1,(ng0.a.t,.obj 60 (fl mG (((zg (q0.set q1.toNat ({ x0 with Man:=y4}):List aH) ng0.gs)).set q1.toNat (({ ({ x0 with Man:=y4}:aH) with Locs:=y5}:aH),some ag4)) ng0.a.sp)),(some k5,.obj 30 (jF)),OC k2 p0.Seq ng0.a ((⟨ag1,replicate (y1:List aB).length none⟩:dI).a) ((⟨ag2,replicate (y2:List aT).length none⟩:dI).a) ag3]:HL)++((bS (⟨ag2,replicate (y2:List aT).length none⟩:dI) y2)++((bB (⟨ag1,replicate (y1:List aB).length none⟩:dI) y1)++(lO 81 aN ((nl aH.Locs (zg (q0.set q1.toNat ({ x0 with Man:=y4}):List aH) ng0.gs)).eraseIdx q1.toNat)))))) K12 [[_],[_],[_],[_],[_],[_],[_],_,_,_] rfl [0,1,2,3,4,5,6,7,8,9] rfl rfl
 have hj0:=vR (L':=([a8 ag3 y3,bR (⟨ag2,replicate (y2:List aT).length none⟩:dI) y2,aY (⟨ag1,replicate (y1:List aB).length none⟩:dI) y1,bL (⟨ng0.a,ng0.gs.set q1.toNat (some ag4)⟩:dI) ((q0.set q1.toNat ({ x0 with Man:=y4})).set q1.toNat ({ ({ x0 with Man:=y4}:aH) with Locs:=y5})),(some k5,.obj 30 (jF)),OC k2 p0.Seq ((⟨ng0.a,ng0.gs.set q1.toNat (some ag4)⟩:dI).a) ((⟨ag1,replicate (y1:List aB).length none⟩:dI).a) ((⟨ag2,replicate (y2:List aT).length none⟩:dI).a) ag3]++((bS (⟨ag2,replicate (y2:List aT).length none⟩:dI) y2)++((bB (⟨ag1,replicate (y1:List aB).length none⟩:dI) y1)++(bO (⟨ng0.a,ng0.gs.set q1.toNat (some ag4)⟩:dI) ((q0.set q1.toNat ({ x0 with Man:=y4})).set q1.toNat ({ ({ x0 with Man:=y4}:aH) with Locs:=y5}))))))) [[_],[_],[_],[_],[_],[_],_,_,_] rfl 8 (zs:=nl aH.Locs (zg (q0.set q1.toNat ({ x0 with Man:=y4}):List aH) ng0.gs)) (j:=q1.toNat) (aH.Locs ({ ({ x0 with Man:=y4}:aH) with Locs:=y5}:aH),some ag4) (mO ((O4.set (x':=({ x0 with Man:=y4}:aH)) X0 rfl).k.nlat (cR (x':=({ x0 with Man:=y4}:aH)) X0))) rfl hr0.2 (by rw[<- ((O4.set (x':=({ x0 with Man:=y4}:aH)) X0 rfl).k.setL (x':=({ ({ x0 with Man:=y4}:aH) with Locs:=y5}:aH)) (cR (x':=({ x0 with Man:=y4}:aH)) X0) ag4 O5).2.2,((O4.set (x':=({ x0 with Man:=y4}:aH)) X0 rfl).k.setL (x':=({ ({ x0 with Man:=y4}:aH) with Locs:=y5}:aH)) (cR (x':=({ x0 with Man:=y4}:aH)) X0) ag4 O5).2.1]; rfl)
 refine qO (hr0.1.trans hj0.1) (⟨⟨λe=>absurd e (by decide),trivial⟩, ?_⟩)
 exact zX (qk (f:=Q9 49 _ _ _ _ _ _ _ _ _ _ _ _ _ _ _ _ _) hj0.2 rfl (v0 (eG m (⟨ng0.a,ng0.gs.set q1.toNat (some ag4)⟩:dI) O6 (lx (.k4 .nil)))))
 exact v0 (lR m ng0 (O4.all c0) (lx (.k4 .nil)))
 rintro ng1 ⟨r0,r1⟩ t0 m
 refine vs (vs (v0 (dY fF rfl rfl (vl 5 (aw (⟨ag1,replicate (y1:List aB).length none⟩:dI).a.t (⟨ag1,replicate (y1:List aB).length none⟩:dI).a.n (⟨ag1,replicate (y1:List aB).length none⟩:dI).a.cap) fE rfl rfl rfl (bU (fK lH ((CT.zero (l:=aB.Locs) (szi:=4) O1).k.a) rfl) (WQ m (σ:=(List aB)×Int) (τ:=dI) (λg s=>([a8 ag3 y3,bR (⟨ag2,replicate (y2:List aT).length none⟩:dI) y2,aY g s.1,bL ng1 r0,(some k5,.obj 30 (jF)),OC k2 p0.Seq ng1.a g.a ((⟨ag2,replicate (y2:List aT).length none⟩:dI).a) ag3]++((bS (⟨ag2,replicate (y2:List aT).length none⟩:dI) y2)++((bB g s.1)++(bO ng1 r0))))) (λg s=>CT aB.Locs 35 4 g (s.1:List aB) s.2.toNat (y1:List aB).length) (λg s=>nI aB.Locs 35 4 g (s.1:List aB)) (λg s=>.c 1 (.ptr k2 0) (.c 2 (.ptr k5 0) (.c 53 (nZ (y1.length:Int)) (.c 54 (nZ s.2) .nil)))) (⟨ag1,replicate (y1:List aB).length none⟩:dI) (CT.zero (l:=aB.Locs) (szi:=4) O1) (lx (.k4 .nil)) ?_ ?_))))))
 rintro ng2 ⟨q2,q3⟩ x O7 m
 replace m:uA w y1 q2 q3=some x:=m
 unfold uA at m
 refine vs (v0 (vs (v0 ?_)))
 apply vi m<;>intro c1 m
 refine v0 (vs (v0 (vs (v0 (vs (v0 (dY fF rfl rfl (vl 5 (aZ ng2.a) fE rfl rfl rfl ?_))))))))
 obtain⟨x1,X1,m⟩:=aD m
 refine bU (dG (O7.k.ix X1) hX O7.k.z rfl rfl) (pM (N1 (L':=([a8 ag3 y3,bR (⟨ag2,replicate (y2:List aT).length none⟩:dI) y2,aY ng2 q2,bL ng1 r0,(some k5,.obj 30 (jF)),OC k2 p0.Seq ng1.a ng2.a ((⟨ag2,replicate (y2:List aT).length none⟩:dI).a) ag3]++((bS (⟨ag2,replicate (y2:List aT).length none⟩:dI) y2)++((lO 81 aN ((nl aB.Locs (zg (q2:List aB) ng2.gs)).eraseIdx q3.toNat))++(bO ng1 r0))))) [[_],[_],[_],[_],[_],[_],_,_,_] rfl 7 (q3.toNat) rfl rfl) (v0 (vz [(14,ng2.a.t,.obj 44 (fl kW (zg (q2:List aB) ng2.gs) ng2.a.sp))] mixed (λu=>⟨λ_=>aO 2 u rfl,trivial⟩) λu=>zC 0 rfl (fJ (wL _ _) rfl) (zC 1 rfl (fJ (wL _ _) rfl) (zC 2 rfl (fJ (wL _ _) rfl) (zC 3 rfl (i8 (bK.ne O7.k.z (O7.k.ix X1)) rfl) (zC 4 rfl (cX (bK.ne O7.k.z (O7.k.ix X1)) lY rfl rfl) (z5 5 rfl (λ_ _ hi hB=>eK (fo:=33) (.sl none 1 (map f9 x1.Data)) (O7.k.ix X1) kL O7.k.z n6 rfl (fV.get 0 hi rfl (hB 14 (by kernel_rfl))) (λ_=>rfl)) (zC 7 rfl (fJ (wL _ _) rfl) (zC 8 rfl (i8 (bK.ne O7.k.z (O7.k.ix X1)) rfl) (zC 9 rfl (cX (bK.ne O7.k.z (O7.k.ix X1)) jW rfl rfl) (z5 10 rfl (λ_ _ hi hB=>iR (eK (fo:=34) (awO aN 4 (gx ng2.gs q3.toNat) x1.Locs) (O7.k.ix X1) kL O7.k.z fW rfl (fV.get 0 hi rfl (hB 14 (by kernel_rfl))) (λ_=>rfl)) (bD.of_eq (congrArg (λz=>awO aN 4 z x1.Locs) (O7.post _ (le_refl _))))) ?_))))))))))))
 obtain⟨y6,Y6,m⟩:=aD m
 refine zE 6 rfl (dO (W96 _ Y6) rfl aFU rfl ?_)
 rintro x h' ⟨tg0,t1,K13,rfl,rfl⟩
 rw[kU]
 refine⟨⟨λ_=>aO 3 (bP.co u K13) rfl,trivial⟩, ?_⟩
 obtain⟨y7,Y7,m⟩:=aD m
 refine zE 11 rfl (dO (RX _ Y7) rfl RY rfl ?_)
 rintro x h' ⟨ag5,O8,K14,rfl,rfl⟩
 rw[kU]
 refine⟨⟨λ_=>aO 4 (bP.co (bP.co u K13) K14) rfl,trivial⟩, ?_⟩
 refine zC 12 rfl (i8 (bK.ne O7.k.z (O7.k.ix X1)) rfl) (zC 13 rfl (cX (bK.ne O7.k.z (O7.k.ix X1)) lY rfl rfl) (zE 14 rfl (GL (s:=67) (.sl none 1 (map f9 y6)) (aU (.cons_cons _ (.cons _ (.refl _))) (bP.co (bP.co u K13) K14)).1 (Fz.ale (aU (.cons_cons _ (.cons _ (.refl _))) (bP.co (bP.co u K13) K14)).1 (nY _ 1 t1 (bP.co (bP.co u K13) K14) rfl (.refl _))) (cY (fo:=33) (x':=(({ x1 with Data:=y6}:aB),(gx ng2.gs q3.toNat))) 3 ((aU (.cons_cons _ (.cons _ (.refl _))) (bP.co (bP.co u K13) K14)).2) (O7.k.ix X1) kL O7.k.z rfl rfl rfl rfl (cS.refl _ _) EJ rfl rfl ?_))))
 intro K15
 have hs1:tO aB.Locs 35 4 ng2 (q2:List aB):=O7.k
 have hn1:hp h _=hp h ([kG ag5 y7,a8 ag3 y3,bR (⟨ag2,replicate (y2:List aT).length none⟩:dI) y2,aY ng2 (q2.set q3.toNat ({ x1 with Data:=y6})),bL ng1 r0,(some k5,.obj 30 (jF)),OC k2 p0.Seq ng1.a ng2.a ((⟨ag2,replicate (y2:List aT).length none⟩:dI).a) ag3]++((bS (⟨ag2,replicate (y2:List aT).length none⟩:dI) y2)++((lO 81 aN ((nl aB.Locs (zg (q2.set q3.toNat ({ x1 with Data:=y6}):List aB) ng2.gs)).eraseIdx q3.toNat))++(bO ng1 r0))))/\bP h ([kG ag5 y7,a8 ag3 y3,bR (⟨ag2,replicate (y2:List aT).length none⟩:dI) y2,aY ng2 (q2.set q3.toNat ({ x1 with Data:=y6})),bL ng1 r0,(some k5,.obj 30 (jF)),OC k2 p0.Seq ng1.a ng2.a ((⟨ag2,replicate (y2:List aT).length none⟩:dI).a) ag3]++((bS (⟨ag2,replicate (y2:List aT).length none⟩:dI) y2)++((lO 81 aN ((nl aB.Locs (zg (q2.set q3.toNat ({ x1 with Data:=y6}):List aB) ng2.gs)).eraseIdx q3.toNat))++(bO ng1 r0)))):=eqN (L:=_) K15 (by unfold aY; (try unfold bB); rw[(hs1.set (x':=({ x1 with Data:=y6}:aB)) X1 rfl).2.2,<- (hs1.set (x':=({ x1 with Data:=y6}:aB)) X1 rfl).2.1]; first | done | rfl)
 refine qO hn1.1 (⟨⟨λe=>absurd e (by decide),trivial⟩, ?_⟩)
 refine zC 15 rfl (i8 (bK.ne ((O7.set (x':=({ x1 with Data:=y6}:aB)) X1 rfl).k.z) ((O7.set (x':=({ x1 with Data:=y6}:aB)) X1 rfl).k.ix (cR (x':=({ x1 with Data:=y6}:aB)) X1))) rfl) (zC 16 rfl (cX (bK.ne ((O7.set (x':=({ x1 with Data:=y6}:aB)) X1 rfl).k.z) ((O7.set (x':=({ x1 with Data:=y6}:aB)) X1 rfl).k.ix (cR (x':=({ x1 with Data:=y6}:aB)) X1))) jW rfl rfl) (zE 17 rfl (cY (fo:=34) (x':=(({ ({ x1 with Data:=y6}:aB) with Locs:=y7}:aB),some ag5)) 3 hn1.2 ((O7.set (x':=({ x1 with Data:=y6}:aB)) X1 rfl).k.ix (cR (x':=({ x1 with Data:=y6}:aB)) X1)) kL ((O7.set (x':=({ x1 with Data:=y6}:aB)) X1 rfl).k.z) rfl rfl (cM rfl) (cG (cC _ _ _) rfl) (cS.refl _ _) pU rfl rfl ?_)))
 intro K16
 have O9:=(O7.set (x':=({ x1 with Data:=y6}:aB)) X1 rfl).step (x':=({ ({ x1 with Data:=y6}:aB) with Locs:=y7}:aB)) (cR (x':=({ x1 with Data:=y6}:aB)) X1) ag5 O8
 have hr1:=BA (L':=(eC ag5 y7)::(([a8 ag3 y3,bR (⟨ag2,replicate (y2:List aT).length none⟩:dI) y2,(ng2.a.t,.obj 44 (fl kW (((zg (q2.set q3.toNat ({ x1 with Data:=y6}):List aB) ng2.gs)).set q3.toNat (({ ({ x1 with Data:=y6}:aB) with Locs:=y7}:aB),some ag5)) ng2.a.sp)),bL ng1 r0,(some k5,.obj 30 (jF)),OC k2 p0.Seq ng1.a ng2.a ((⟨ag2,replicate (y2:List aT).length none⟩:dI).a) ag3]:HL)++((bS (⟨ag2,replicate (y2:List aT).length none⟩:dI) y2)++((lO 81 aN ((nl aB.Locs (zg (q2.set q3.toNat ({ x1 with Data:=y6}):List aB) ng2.gs)).eraseIdx q3.toNat))++(bO ng1 r0))))) K16 [[_],[_],[_],[_],[_],[_],[_],_,_,_] rfl [0,1,2,3,4,5,6,7,8,9] rfl rfl
 have hj1:=vR (L':=([a8 ag3 y3,bR (⟨ag2,replicate (y2:List aT).length none⟩:dI) y2,aY (⟨ng2.a,ng2.gs.set q3.toNat (some ag5)⟩:dI) ((q2.set q3.toNat ({ x1 with Data:=y6})).set q3.toNat ({ ({ x1 with Data:=y6}:aB) with Locs:=y7})),bL ng1 r0,(some k5,.obj 30 (jF)),OC k2 p0.Seq ng1.a ((⟨ng2.a,ng2.gs.set q3.toNat (some ag5)⟩:dI).a) ((⟨ag2,replicate (y2:List aT).length none⟩:dI).a) ag3]++((bS (⟨ag2,replicate (y2:List aT).length none⟩:dI) y2)++((bB (⟨ng2.a,ng2.gs.set q3.toNat (some ag5)⟩:dI) ((q2.set q3.toNat ({ x1 with Data:=y6})).set q3.toNat ({ ({ x1 with Data:=y6}:aB) with Locs:=y7})))++(bO ng1 r0))))) [[_],[_],[_],[_],[_],[_],_,_,_] rfl 7 (zs:=nl aB.Locs (zg (q2.set q3.toNat ({ x1 with Data:=y6}):List aB) ng2.gs)) (j:=q3.toNat) (aB.Locs ({ ({ x1 with Data:=y6}:aB) with Locs:=y7}:aB),some ag5) (mO ((O7.set (x':=({ x1 with Data:=y6}:aB)) X1 rfl).k.nlat (cR (x':=({ x1 with Data:=y6}:aB)) X1))) rfl hr1.2 (by rw[<- ((O7.set (x':=({ x1 with Data:=y6}:aB)) X1 rfl).k.setL (x':=({ ({ x1 with Data:=y6}:aB) with Locs:=y7}:aB)) (cR (x':=({ x1 with Data:=y6}:aB)) X1) ag5 O8).2.2,((O7.set (x':=({ x1 with Data:=y6}:aB)) X1 rfl).k.setL (x':=({ ({ x1 with Data:=y6}:aB) with Locs:=y7}:aB)) (cR (x':=({ x1 with Data:=y6}:aB)) X1) ag5 O8).2.1]; rfl)
 refine qO (hr1.1.trans hj1.1) (⟨⟨λe=>absurd e (by decide),trivial⟩, ?_⟩)
 exact zX (qk (f:=fq5 76 _ _ _ _ _ (.c 67 _ (TP 71 _ _ _ _ (fq6 66 _ _ _ _ _ _ _)))) hj1.2 rfl (v0 (eG m (⟨ng2.a,ng2.gs.set q3.toNat (some ag5)⟩:dI) O9 (lx (.k4 .nil)))))
 exact v0 (lR m ng2 (O7.all c1) (lx (.k4 .nil)))
 rintro ng3 ⟨r2,r3⟩ t2 m
 refine vs (vs (v0 (dY eY rfl rfl (vl 5 (aw (⟨ag2,replicate (y2:List aT).length none⟩:dI).a.t (⟨ag2,replicate (y2:List aT).length none⟩:dI).a.n (⟨ag2,replicate (y2:List aT).length none⟩:dI).a.cap) iL rfl rfl rfl (bU (fK pT ((CT.zero (l:=aT.Locs) (szi:=4) O2).k.a) rfl) (WQ m (σ:=(List aT)×Int) (τ:=dI) (λg s=>([a8 ag3 y3,bR g s.1,aY ng3 r2,bL ng1 r0,(some k5,.obj 30 (jF)),OC k2 p0.Seq ng1.a ng3.a g.a ag3]++((bS g s.1)++((bB ng3 r2)++(bO ng1 r0))))) (λg s=>CT aT.Locs 3 4 g (s.1:List aT) s.2.toNat (y2:List aT).length) (λg s=>nI aT.Locs 3 4 g (s.1:List aT)) (λg s=>.c 1 (.ptr k2 0) (.c 2 (.ptr k5 0) (.c 80 (nZ (y2.length:Int)) (.c 81 (nZ s.2) .nil)))) (⟨ag2,replicate (y2:List aT).length none⟩:dI) (CT.zero (l:=aT.Locs) (szi:=4) O2) (lx (.k4 .nil)) ?_ ?_))))))
 rintro ng4 ⟨q4,q5⟩ x O10 m
 replace m:uB w y2 q4 q5=some x:=m
 unfold uB at m
 refine vs (v0 (vs (v0 ?_)))
 apply vi m<;>intro c2 m
 refine v0 (vs (v0 (vs (v0 (pM (N1 (L':=([a8 ag3 y3,bR ng4 q4,aY ng3 r2,bL ng1 r0,(some k5,.obj 30 (jF)),OC k2 p0.Seq ng1.a ng3.a ng4.a ag3]++((lO 81 aN ((nl aT.Locs (zg (q4:List aT) ng4.gs)).eraseIdx q5.toNat))++((bB ng3 r2)++(bO ng1 r0))))) [[_],[_],[_],[_],[_],[_],_,_,_] rfl 6 (q5.toNat) rfl rfl) (v0 (vz [(1000000,some k2,.obj 30 ([nZ p0.Seq,aZ ng1.a,aZ ng3.a,aZ ng4.a,aZ ag3])),(12,ng4.a.t,.obj 99 (fl m6 (zg (q4:List aT) ng4.gs) ng4.a.sp))] mixed (λu=>⟨λ_=>aO 5 u rfl,λ_=>aO 1 u rfl,trivial⟩) λu=>zF 0 rfl eY rfl (zL 1 0 (aZ ng4.a) rfl iL rfl rfl rfl (zI 2 rfl rfl (zF 3 rfl eY rfl (zL 4 0 (aZ ng4.a) rfl iL rfl rfl rfl (zI 5 rfl rfl ?_))))))))))))
 obtain⟨x2,X2,m⟩:=aD m
 refine zC 6 rfl (dG (O10.k.ix X2) iX O10.k.z rfl rfl) (zC 7 rfl (cX (bK.ne O10.k.z (O10.k.ix X2)) mZ rfl rfl) (z5 8 rfl (λ_ _ hi hB=>iR (eK (fo:=2) (awO aN 4 (gx ng4.gs q5.toNat) x2.Locs) (O10.k.ix X2) tU O10.k.z fW rfl (fV.get 1 hi rfl (hB 12 (by kernel_rfl))) (λ_=>rfl)) (bD.of_eq (congrArg (λz=>awO aN 4 z x2.Locs) (O10.post _ (le_refl _))))) ?_))
 obtain⟨y8,Y8,m⟩:=aD m
 refine zE 9 rfl (dO (RX _ Y8) rfl RY rfl ?_)
 rintro x h' ⟨ag6,O11,K17,rfl,rfl⟩
 rw[kU]
 refine⟨⟨λ_=>aO 6 (bP.co u K17) rfl,λ_=>aO 2 (bP.co u K17) rfl,trivial⟩, ?_⟩
 obtain⟨x3,X3,m⟩:=aD m
 refine zC 10 rfl (dG (O10.k.ix X3) iX O10.k.z rfl rfl) (zC 11 rfl (cX (bK.ne O10.k.z (O10.k.ix X3)) mZ rfl rfl) (zE 12 rfl (cY (fo:=2) (x':=(({ x3 with Locs:=y8}:aT),some ag6)) 2 (bP.co u K17) (O10.k.ix X3) tU O10.k.z rfl rfl (cM rfl) (cG (cC _ _ _) rfl) (cS.refl _ _) pU rfl rfl ?_)))
 intro K18
 have O12:=O10.step (x':=({ x3 with Locs:=y8}:aT)) X3 ag6 O11
 have hr2:=BA (L':=(eC ag6 y8)::(([a8 ag3 y3,(ng4.a.t,.obj 99 (fl m6 (((zg (q4:List aT) ng4.gs)).set q5.toNat (({ x3 with Locs:=y8}:aT),some ag6)) ng4.a.sp)),aY ng3 r2,bL ng1 r0,(some k5,.obj 30 (jF)),OC k2 p0.Seq ng1.a ng3.a ng4.a ag3]:HL)++((lO 81 aN ((nl aT.Locs (zg (q4:List aT) ng4.gs)).eraseIdx q5.toNat))++((bB ng3 r2)++(bO ng1 r0))))) K18 [[_],[_],[_],[_],[_],[_],[_],_,_,_] rfl [0,1,2,3,4,5,6,7,8,9] rfl rfl
 have hj2:=vR (L':=([a8 ag3 y3,bR (⟨ng4.a,ng4.gs.set q5.toNat (some ag6)⟩:dI) (q4.set q5.toNat ({ x3 with Locs:=y8})),aY ng3 r2,bL ng1 r0,(some k5,.obj 30 (jF)),OC k2 p0.Seq ng1.a ng3.a ((⟨ng4.a,ng4.gs.set q5.toNat (some ag6)⟩:dI).a) ag3]++((bS (⟨ng4.a,ng4.gs.set q5.toNat (some ag6)⟩:dI) (q4.set q5.toNat ({ x3 with Locs:=y8})))++((bB ng3 r2)++(bO ng1 r0))))) [[_],[_],[_],[_],[_],[_],_,_,_] rfl 6 (zs:=nl aT.Locs (zg (q4:List aT) ng4.gs)) (j:=q5.toNat) (aT.Locs ({ x3 with Locs:=y8}:aT),some ag6) (mO (O10.k.nlat X3)) rfl hr2.2 (by rw[<- (O10.k.setL (x':=({ x3 with Locs:=y8}:aT)) X3 ag6 O11).2.2,(O10.k.setL (x':=({ x3 with Locs:=y8}:aT)) X3 ag6 O11).2.1]; rfl)
 refine qO (hr2.1.trans hj2.1) (⟨⟨λ_=>aO 5 hj2.2 rfl,λe=>absurd e (by decide),trivial⟩, ?_⟩)
 exact zX (qk (f:=MH 95 _ _ _ _ _ _ _ _ _ _ _ _ _) hj2.2 rfl (v0 (eG m (⟨ng4.a,ng4.gs.set q5.toNat (some ag6)⟩:dI) O12 (lx (.k4 .nil)))))
 exact v0 (lR m ng4 (O10.all c2) (lx (.k4 .nil)))
 rintro ng5 ⟨r4,r5⟩ t3 m
 refine vs (v0 (vl 5 (.agg ([nZ p0.Seq,aZ ng1.a,aZ ng3.a,aZ ng5.a,aZ ag3])) dC rfl rfl rfl (ve λu=>aL 4 ([nZ p0.Seq,aZ ng1.a,aZ ng3.a,aZ ng5.a,aZ ag3]) u rfl rfl rfl (by repeat (first | exact rfl | refine cG (jO _ _ _) ?_ | refine cG (cC _ _ _) ?_ | refine cG (gK _ _ _ _) ?_ | refine cG rfl ?_)) nB rfl rfl λK19=>qk K19 rfl ?_)))
 refine v0 ?_
 cases m
 exact vr λu=>dW.of1 (.inl rfl) (sJ (.agg ([nZ p0.Seq,aZ ng1.a,aZ ng3.a,aZ ng5.a,aZ ag3])) dC rfl (aW 4 u rfl) rfl) (tP (L':=([bL ng1 r0,aY ng3 r2,bR ng5 r4,a8 ag3 y3]++((bO ng1 r0)++((bB ng3 r2)++(bS ng5 r4))))) u [[_],[_],[_],[_],[_],[_],_,_,_] rfl [3,2,1,0,8,7,6] rfl rfl).2 (bD.refl _ _) ⟨ng1,t0,ng3,t2,ng5,t3,ag3,O3,(tP (L':=([bL ng1 r0,aY ng3 r2,bR ng5 r4,a8 ag3 y3]++((bO ng1 r0)++((bB ng3 r2)++(bS ng5 r4))))) u [[_],[_],[_],[_],[_],[_],_,_,_] rfl [3,2,1,0,8,7,6] rfl rfl).1,rfl,rfl⟩
theorem aH1:aP prog 77=true:=by kernel_rfl
end Go.Proofs.YtbbifdfldpfphaaGreat
namespace Go.Vm
def rP (l:List (Int×Nat)):List (Value×Value):=l.map λx=>(.int .i64 x.1,.func (.func x.2) #[] #[])
theorem o0 (x:Int):∀(l:List (Int×Nat)) (ents:List MapEntry) (i:Nat),ents.map (λe=>(e.key,e.val))=rP l->
    (∀e,l.find? (λe=>e.1==x)=some e->∃j,findNow (.int .i64) (.int .i64 x) ents i=some (some (j,.func (.func e.2) #[] #[])))/\
    (l.find? (λe=>e.1==x)=none->findNow (.int .i64) (.int .i64 x) ents i=some none)
  | [],[],i,_=>⟨λe h=>by simp at h,λ_=>rfl⟩
  | [],_::_,_,h=>by simp[rP] at h
  | _::_,[],_,h=>by simp[rP] at h
  | y::l,e::ents,i,h=>by
    simp only[map_cons,rP,List.cons.injEq,Prod.mk.injEq] at h
    obtain⟨⟨h1,h2⟩,h3⟩:=h
    obtain⟨ih1,ih2⟩:=o0 x l ents (i+1) h3
    have hn:findNow (.int .i64) (.int .i64 x) (e::ents) i=(if (y.1==x)then some (some (i,e.val)) else findNow (.int .i64) (.int .i64 x) ents (i+1)):=by
      simp only[findNow,h1,Instr.sameNow,if_true]
      by_cases q:x=y.1
      . subst q; simp
      . have q1:(x==y.1)=false:=by simpa using q
        have q2:(y.1==x)=false:=by simpa using Ne.symm q
        rw[q1,q2]; simp
    rw[hn]
    simp only[List.find?_cons]
    cases q:(y.1==x)
    . exact⟨λe' he=>by obtain⟨j,hj⟩:=ih1 e' (by simpa using he); exact⟨j,by simpa using hj⟩,λhe=>by simpa using ih2 (by simpa using he)⟩
    . exact⟨λe' he=>by simp at he; subst he; exact⟨i,by simp[h2]⟩,λhe=>by simp at he⟩
section
variable {P:Program} {h h0:aF} {L:HL} {n:Nat} {kvs:KV} {ty:TypeId} {pos:String} {dL:Array Edge}
theorem IU {l:List (Int×Nat)} {x:Int} {dst:Option Tmp} {t kt et:TypeId} {m y:Operand} {q:bT} {z:Value} (ht:P.underlying t=some (.map kt et)) (hz:(P.info? et).bind (·.zero)=some z) (hkt:P.underlying kt=some (.int .i64))
    (hm:dB n kvs m= .mpv q) (hy:dB n kvs y= .sc (.int .i64 x)) (hq:h q=some (.mp (rP l))):
    eB P ⟨dst,.lookup t m y true,ty,pos,dL,none⟩ (match l.find? (λe=>e.1==x) with | some e=>.tup [.fn (.func e.2) [],.sc (.bool true)] | none=>.tup [.any,.sc (.bool false)]) (fm n kvs) h:=by
  refine dZ (x:=match l.find? (λe=>e.1==x) with | some e=>.tup [.fn (.func e.2) [],.sc (.bool true)] | none=>.tup [.any,.sc (.bool false)]) (λE w ac r hv=> ?_) ⟨rfl,rfl⟩
  have vm:=hv m (by simp[Op.operands])
  have vy:=hv y (by simp[Op.operands])
  rw[bF,hm] at vm; rw[bF,hy] at vy
  simp only[VR] at vm vy
  obtain⟨g,hg,em⟩:=vm
  obtain⟨g',ents,clk,e1,e2,e3⟩:=r.mp q _ hq
  rw[hg] at e1; cases e1
  have hck:=λb=>oN (P:=P) hkt 9999 x b w
  obtain⟨f1,f2⟩:=o0 x l ents.toList 0 e3
  have hz1:(zeroValue et).run P w= .ok z w:=by
    cases hi:P.info? et with
    | none=>rw[hi] at hz; simp at hz
    | some i=>
      rw[hi] at hz
      simp at hz
      simp[zeroValue,typeInfo,hi,hz]
  have hgo:(getObj g).run P w= .ok (.map ents clk) w:=by simp[getObj,run,e2]
  simp only[execOp,em,vy,Instr.lookup,run_bind,run_underlying ht,andThen_ok,hgo,Sem.run_pure,hck,findKey,run_underlying hkt]
  cases ha:l.find? (λe=>e.1==x) with
  | some e=>
    obtain⟨j,a1⟩:=f1 e ha
    refine⟨.tuple #[.func (.func e.2) #[] #[],.bool true],by simp[a1], ?_⟩
    simp only[VR]
    exact⟨_,rfl,by simp[cI,VR]⟩
  | none=>
    have a1:=f2 ha
    refine⟨.tuple #[z,.bool false],by simp[a1,hz1], ?_⟩
    simp only[VR]
    exact⟨_,rfl,by simp[cI,VR]⟩
theorem yZ {K:AV->aF->Prop} {l:List (Int×Nat)} {x:Int} {f:Nat} {dst:Option Tmp} {t kt et:TypeId} {m y v:Operand} {q:bT} (i:Nat) (hk:bP h0 L) (ht:P.underlying t=some (.map kt et)) (hkt:P.underlying kt=some (.int .i64))
    (hm:dB n kvs m= .mpv q) (hy:dB n kvs y= .sc (.int .i64 x)) (hv:dB n kvs v= .fn (.func f) []) (hi:L[i]? =some (some q,.mp (rP l))) (hnew:l.find? (λe=>e.1==x)=none)
    (k:bP h0 (L.set i (some q,.mp (rP (l++ [(x,f)]))))->K (.sc undef) (hp h0 (L.set i (some q,.mp (rP (l++ [(x,f)])))))):
    jG P ⟨dst,.insert t m y v,ty,pos,dL,none⟩ K (fm n kvs) (hp h0 L):=by
  intro E w a r hva Nx Qx hn
  have vm:=hva m (by simp[Op.operands])
  have vy:=hva y (by simp[Op.operands])
  have vv:=hva v (by simp[Op.operands])
  rw[bF,hm] at vm; rw[bF,hy] at vy; rw[bF,hv] at vv
  simp only[VR] at vm vy vv
  obtain⟨g,hg,em⟩:=vm
  obtain⟨cs,ev,hcs⟩:=vv
  have hc0:cs= #[]:=by
    have:cs.toList= []:=by
      cases hh:cs.toList with
      | nil=>rfl
      | cons a b=>rw[hh] at hcs; simp only[cI] at hcs
    simpa using this
  subst hc0
  obtain⟨g',ents,clk,e1,e2,e3⟩:=r.mp q _ (aW i hk hi)
  rw[hg] at e1; cases e1
  have hq:=aW i hk hi
  have hck:=λb=>oN (P:=P) hkt 9999 x b w
  obtain⟨f1,f2⟩:=o0 x l ents.toList 0 e3
  have hf:=f2 hnew
  have hgo:(getObj g).run P w= .ok (.map ents clk) w:=by simp[getObj,run,e2]
  have hglt:=(Array.getElem?_eq_some_iff.1 e2).1
  obtain⟨h1,h2,_⟩:=kT (e':=.mp (rP (l++ [(x,f)]))) i hk hi (.inl rfl)
  have hes:(ents.push { key:=.int .i64 x,val:=.func (.func f) #[] #[],born:=clk}).toList.map (λe=>(e.key,e.val))=rP (l++ [(x,f)]):=by
    simp only[Array.toList_push,List.map_append,e3,rP,map_cons,map_nil]
  have hfind:(findKey kt (.int .i64 x) ents.toList).run P w= .ok none w:=by
    simp only[findKey,run_bind,run_underlying hkt,andThen_ok,hf,Sem.run_pure]
  have hrun:(execOp a.eval ⟨dst,.insert t m y v,ty,pos,dL,none⟩).run P w= .ok .skip { w with heap:=w.heap.setIfInBounds g (.map (ents.push { key:=.int .i64 x,val:=.func (.func f) #[] #[],born:=clk}) (clk+1))}:=by
    simp only[execOp,em,vy,ev,Instr.mapUpdate,run_bind,run_underlying ht,andThen_ok,hgo,hck,hfind]
    simp[setObj,run,e2]
  obtain⟨k1,r1⟩:=r.set_mp hq hg (ents.push { key:=.int .i64 x,val:=.func (.func f) #[] #[],born:=clk}) (clk+1) (w':={ w with heap:=w.heap.setIfInBounds g (.map (ents.push { key:=.int .i64 x,val:=.func (.func f) #[] #[],born:=clk}) (clk+1))}) (by simp[hglt]) (λg' hg'=>by simp[Ne.symm hg']) (by simp) rfl rfl rfl
  unfold wp
  rw[hrun]
  rw[hes,h1] at r1
  exact hn (.sc undef) undef _ E _ k1 r1 (by simp only[VR]) (k h2)
end
theorem FB {P:Program} {f:FuncId} {args:List AV} {Q Q':AV->aF->Prop} {H:aF} (hc:aM P f args H Q) (hq:∀r h',Q r h'->Q' r h'):aM P f args H Q':=hc.mono hq
end Go.Vm
namespace Go.Proofs.YtbbifdfldpfphaaGreat
open Go.Vm
def nS:List (Int×Nat):=[(1,72),(2,73),(3,74),(4,75),(5,76)]
def o5 (m:Nat) (f:Nat) (d:aA) (x:aV):Option (aA×Int):=
 if f=74 then (YL m d x).bind λo=>some ({ Seq:=o.2.1,Snaps:=o.2.2.1,Chunks:=o.2.2.2.1,Exps:=o.2.2.2.2.1,Vols:=o.2.2.2.2.2},o.1)
 else none
def QH (m:Nat) (p0:aA) (p1:aV):Option (aA×Int):=
 match nS.find? (λe=>e.1==p1.Kind) with
 | none=>some (bY,1)
 | some e=>(RK m p0).bind λy=>if (y !=0)then some (bY,1) else (OI m p0).bind λd=>
 after ((o5 m e.2 d p1).bind λs=>Bk s:Option (Lp (aA×Int) (aA×Int))) λs=>if (s.2 !=0)then some (bY,s.2) else (RK m s.1).bind λy2=>if (y2 !=0)then some (bY,1) else some (s.1,0)
abbrev OJ (k:bT) (d:aA) (a b c:dI) (v:dE):HL:=[OC k d.Seq a.a b.a c.a v,bL a d.Snaps,aY b d.Chunks,bR c d.Exps,a8 v d.Vols]++((bO a d.Snaps)++((bB b d.Chunks)++(bS c d.Exps)))
abbrev OL (k:bT) (d:aA) (a b c v:dE):HL:=[OC k d.Seq a b c v,cP a d.Snaps,cD b d.Chunks,eQ c d.Exps,a8 v d.Vols]
theorem aH2 {h:aF} {k:bT} {d:aA} {a b c:dI} {v:dE} (oa:nI aH.Locs 4 4 a d.Snaps) (ob:nI aB.Locs 35 4 b d.Chunks) (oc:nI aT.Locs 3 4 c d.Exps) (m:bP h (OJ k d a b c v)) {n:Nat} {f:FR}:
 bP h (OL k d a.a b.a c.a v)/\gA (fm n f.k) (hp h (OL k d a.a b.a c.a v)) (fm n f.k) (hp h (OJ k d a b c v)):=by
 obtain⟨k1,l1⟩:=LL (ty:=81) (n:=n) (f:=f) (h0:=h) (L':=[OC k d.Seq a.a b.a c.a v,cP a.a d.Snaps,aY b d.Chunks,bR c d.Exps,a8 v d.Vols]++((bB b d.Chunks)++(bS c d.Exps))) [[_],[_],[_],[_],[_],_,_,_] rfl 1 5 fL wV oa.k rfl rfl (by decide) rfl m
 obtain⟨k2,l2⟩:=LL (ty:=81) (n:=n) (f:=f) (h0:=h) (L':=[OC k d.Seq a.a b.a c.a v,cP a.a d.Snaps,cD b.a d.Chunks,bR c d.Exps,a8 v d.Vols]++(bS c d.Exps)) [[_],[_],[_],[_],[_],_,_] rfl 2 5 fL tT ob.k rfl rfl (by decide) rfl k1
 obtain⟨k3,l3⟩:=LL (ty:=81) (n:=n) (f:=f) (h0:=h) (L':=OL k d a.a b.a c.a v) [[_],[_],[_],[_],[_],_] rfl 3 5 fL CU oc.k rfl rfl (by decide) rfl k2
 exact⟨k3,(l1.trans l2).trans l3⟩
theorem WS {w:Nat} {f:Nat} {d:aA} {x:aV} {s:aA×Int} (h:aF) {k:bT} {a b c:dI} {v:dE} (oa:nI aH.Locs 4 4 a d.Snaps) (ob:nI aB.Locs 35 4 b d.Chunks) (oc:nI aT.Locs 3 4 c d.Exps) (ov:bK v 4 d.Vols.length) (u:bP h (OJ k d a b c v)) (m:o5 w f d x=some s):
 aM prog f [.ptr k 0,.agg (aJ x)] (hp h (OJ k d a b c v)) (λr h'=>∃a' b' c' v':dE,bK a' 4 s.1.Snaps.length/\bK b' 35 s.1.Chunks.length/\bK c' 3 s.1.Exps.length/\bK v' 4 s.1.Vols.length/\bP h (OL k s.1 a' b' c' v')/\r=nZ s.2/\h'=hp h (OL k s.1 a' b' c' v')):=by
 obtain⟨kp,lp⟩:=aH2 oa ob oc u (n:=[AV.ptr k 0,AV.agg (aJ x)].length) (f:=CC 0 [AV.ptr k 0,AV.agg (aJ x)])
 unfold o5 at m
 split at m
 rename_i e; subst e
 obtain⟨o,ho,m⟩:=aD m
 cases m
 refine FB (W74 (p0:=d) h oa ob oc ov u ho) ?_
 rintro r h' ⟨a',oa',b',ob',c',oc',v',ov',hk',e1,e2⟩
 exact⟨a',b',c',v',oa',ob',oc',ov',hk',e1,e2⟩
 cases m
theorem R9 {f:Nat} {u:Nat} {d:aA} {x:aV} {s:aA×Int} (m:o5 u f d x=some s):aP prog f=true:=by
 unfold o5 at m
 split at m
 rename_i e; subst e; exact aHX
 cases m
theorem W29 {j:Nat} {p0:aA} {p1:aV} {o:aA×Int} (h:aF) (m:QH j p0 p1=some o):
 aM prog 29 [.agg (aC p0),.agg (aJ p1)] h (λr h'=>r= .tup [.agg (aC o.1),nZ o.2]/\h'=h):=by
 refine fQ 44 [.cell 4 30,.tmp 5] Tryz.func29 rfl rfl rfl rfl ?_
 unfold QH at m
 repeat refine vs ?_
 refine v0 ?_
 refine gZ rfl rfl λk2 K3=> ?_
 refine gZ rfl rfl λk3 K3=> ?_
 refine ve λu=>bG (jF) u sP rfl rfl λk4 K9=>qk K9 rfl ?_
 repeat refine vs ?_
 refine v0 ?_
 refine ve λu=>B6 u λkm K3=>qk K3 rfl ?_
 refine ve λu=>yZ (l:=[]) 0 u yE u3 rfl rfl rfl rfl rfl λK3=>qk K3 rfl ?_
 refine ve λu=>yZ 0 u yE u3 rfl rfl rfl rfl rfl λK3=>qk K3 rfl ?_
 refine ve λu=>yZ 0 u yE u3 rfl rfl rfl rfl rfl λK3=>qk K3 rfl ?_
 refine ve λu=>yZ 0 u yE u3 rfl rfl rfl rfl rfl λK3=>qk K3 rfl ?_
 refine ve λu=>yZ 0 u yE u3 rfl rfl rfl rfl rfl λK3=>qk K3 rfl ?_
 repeat refine vs ?_
 refine v0 (dY CG rfl rfl (vl 2 _ cB rfl rfl rfl ?_))
 have hz:(prog.info? 117).bind (·.zero)=some (.nilFunc):=by kernel_rfl
 cases hf:nS.find? (λe=>e.1==p1.Kind) with
 | none=>
 rw[hf] at m
 refine vn (λu=>iR (IU (l:=nS) yE hz u3 rfl rfl (aW 0 u rfl)) (bD.of_eq (y:=.tup [.any,.sc (.bool false)]) (by rw[hf]))) ?_
 repeat refine vs ?_
 refine v0 (v0 ?_)
 repeat refine vs ?_
 refine v0 (bU (eJ (jF) GW rfl) ?_)
 refine ve λu=>aL 1 (jF) u rfl rfl rfl rfl nB rfl rfl λK0=>qk K0 rfl ?_
 refine v0 ?_
 cases m
 exact vr λu=>dW.of2 (.inl rfl) (sJ (.agg (jF)) dC rfl (aW 1 u rfl) rfl) (gQ _ _ (.sc (.int _ _)) rfl) (aU (nil_sublist _) u).1 (bD.agg (.cons (bD.refl _ _) (.cons (a9 _) (.cons (a9 _) (.cons (a9 _) (.cons (a9 _) .nil)))))) (bD.refl _ _) ⟨rfl,rfl⟩
 | some e=>
 rw[hf] at m
 refine vn (λu=>iR (IU (l:=nS) yE hz u3 rfl rfl (aW 0 u rfl)) (bD.of_eq (y:=.tup [.fn (.func e.2) [],.sc (.bool true)]) (by rw[hf]))) ?_
 repeat refine vs ?_
 refine v0 (vl 3 (.agg (aC p0)) dC rfl rfl rfl ?_)
 refine vk W31 NF m rfl rfl λ_ m=> ?_
 refine v0 ?_
 apply vi m<;>intro hc m
 repeat refine vs ?_
 refine v0 (bU (eJ (jF) GW rfl) ?_)
 refine ve λu=>aL 1 (jF) u rfl rfl rfl rfl nB rfl rfl λK0=>qk K0 rfl ?_
 refine v0 ?_
 cases m
 exact vr λu=>dW.of2 (.inl rfl) (sJ (.agg (jF)) dC rfl (aW 1 u rfl) rfl) (gQ _ _ (.sc (.int _ _)) rfl) (aU (nil_sublist _) u).1 (bD.agg (.cons (bD.refl _ _) (.cons (a9 _) (.cons (a9 _) (.cons (a9 _) (.cons (a9 _) .nil)))))) (bD.refl _ _) ⟨rfl,rfl⟩
 refine v0 ?_
 repeat refine vs ?_
 refine v0 (vl 3 (.agg (aC p0)) dC rfl rfl rfl ?_)
 obtain⟨d,Y0,m⟩:=aD m
 refine ve λu=>dO (aH0 _ Y0) rfl aH1 rfl ?_
 rintro x h' ⟨gs,oks,gc,okc,ge,oke,gv,okv,K1,rfl,rfl⟩
 have w:=EY (L':=[bL gs d.Snaps,aY gc d.Chunks,bR ge d.Exps,a8 gv d.Vols,(some km,.mp (rP nS)),(some k4,.obj 30 (jF)),(some k3,.obj 62 (aJ p1)),(some k2,.obj 30 (aC p0))]++((bO gs d.Snaps)++((bB gc d.Chunks)++(bS ge d.Exps)))) u K1 [[_],[_],[_],[_],_,_,_] [[_],[_],[_],[_]] rfl rfl [0,1,2,3,7,8,9,10,4,5,6] rfl rfl
 refine qk w.2 w.1 ?_
 refine ve λu=>bG (jF) u sP rfl rfl λk9 K2=>qk K2 rfl ?_
 refine ve λu=>aL 0 ([nZ d.Seq,aZ gs.a,aZ gc.a,aZ ge.a,aZ gv]) u rfl rfl rfl (by repeat (first | exact rfl | refine cG (cC _ _ _) ?_ | refine cG rfl ?_)) nB rfl rfl λK4=>qk K4 rfl ?_
 repeat refine vs ?_
 refine oI m (σ:=aA×Int) (τ:=dE×dE×dE×dE) (λg s=>[OC k9 s.1.Seq g.1 g.2.1 g.2.2.1 g.2.2.2,cP g.1 s.1.Snaps,cD g.2.1 s.1.Chunks,eQ g.2.2.1 s.1.Exps,a8 g.2.2.2 s.1.Vols,(some km,.mp (rP nS)),(some k4,.obj 30 (jF)),(some k3,.obj 62 (aJ p1)),(some k2,.obj 30 (aC p0))]) (λg s=>bK g.1 4 s.1.Snaps.length/\bK g.2.1 35 s.1.Chunks.length/\bK g.2.2.1 3 s.1.Exps.length/\bK g.2.2.2 4 s.1.Vols.length) (λg s=>.c 4 (.ptr k4 0) (.c 9 (.ptr k9 0) (.c 10 (nZ s.2) .nil))) (λx m=> ?_) ?_
 refine v0 (vl 7 (.agg (aJ p1)) sS rfl rfl rfl ?_)
 obtain⟨s,hs,m⟩:=aD m
 refine ve λu=> ?_
 have pq:=EX (A:=OJ k9 d gs gc ge gv) (R:=[(some km,.mp (rP nS)),(some k4,.obj 30 (jF)),(some k3,.obj 62 (aJ p1)),(some k2,.obj 30 (aC p0))]) u [[_],[_],[_],[_],[_],[_],[_],[_],[_],_,_,_] rfl [0,1,2,3,4,9,10,11] [5,6,7,8] rfl rfl rfl
 refine fP pq.1 (dO (WS _ oks okc oke okv pq.2.2 hs) rfl (R9 hs) rfl ?_)
 rintro r h' ⟨a',b',c',v',oa,ob,oc,ov,hk',rfl,rfl⟩
 have hq2:=EY (L':=[OC k9 s.1.Seq a' b' c' v',cP a' s.1.Snaps,cD b' s.1.Chunks,eQ c' s.1.Exps,a8 v' s.1.Vols,(some km,.mp (rP nS)),(some k4,.obj 30 (jF)),(some k3,.obj 62 (aJ p1)),(some k2,.obj 30 (aC p0))]) pq.2.1 hk' [[_],[_],[_],[_],[_]] [[_],[_],[_],[_]] rfl rfl [0,1,2,3,4,5,6,7,8] rfl rfl
 refine qk hq2.2 hq2.1 ?_
 exact eG m (a',b',c',v') ⟨oa,ob,oc,ov⟩ (lx (.k3 .nil))
 rintro⟨a',b',c',v'⟩ ⟨dd,ee⟩ ⟨oa,ob,oc,ov⟩ m
 repeat refine vs ?_
 refine v0 ?_
 repeat refine vs ?_
 refine v0 (v0 ?_)
 apply vi m<;>intro hc m
 repeat refine vs ?_
 refine v0 (bU (eJ (jF) GW rfl) ?_)
 refine ve λu=>aL 6 (jF) u rfl rfl rfl rfl nB rfl rfl λK0=>qk K0 rfl ?_
 refine v0 ?_
 cases m
 exact vr λu=>dW.of2 (.inl rfl) (sJ (.agg (jF)) dC rfl (aW 6 u rfl) rfl) (gQ _ _ (.sc (.int _ _)) rfl) (aU (nil_sublist _) u).1 (bD.agg (.cons (bD.refl _ _) (.cons (a9 _) (.cons (a9 _) (.cons (a9 _) (.cons (a9 _) .nil)))))) (bD.refl _ _) ⟨rfl,rfl⟩
 repeat refine vs ?_
 refine v0 (vl 0 (.agg ([nZ dd.Seq,aZ a',aZ b',aZ c',aZ v'])) dC rfl rfl rfl ?_)
 obtain⟨_,Y1,m⟩:=aD m
 refine vn (λu=>bV (fN (.cons (Br.agg (.cons (Br.refl _ _) (.cons (Br.aw 1 eP oa u rfl) (.cons (Br.aw 2 cZ ob u rfl) (.cons (Br.aw 3 gH oc u rfl) (.cons (Br.aw 4 eW ov u rfl) .nil)))))) .nil) rfl (W31 _ Y1)) rfl NF rfl) (v0 ?_)
 apply vi m<;>intro c0 m
 repeat refine vs ?_
 refine v0 (bU (eJ (jF) GW rfl) ?_)
 refine ve λu=>aL 6 (jF) u rfl rfl rfl rfl nB rfl rfl λK0=>qk K0 rfl ?_
 refine v0 ?_
 cases m
 exact vr λu=>dW.of2 (.inl rfl) (sJ (.agg (jF)) dC rfl (aW 6 u rfl) rfl) (gQ _ _ (.sc (.int _ _)) rfl) (aU (nil_sublist _) u).1 (bD.agg (.cons (bD.refl _ _) (.cons (a9 _) (.cons (a9 _) (.cons (a9 _) (.cons (a9 _) .nil)))))) (bD.refl _ _) ⟨rfl,rfl⟩
 refine v0 ?_
 repeat refine vs ?_
 refine v0 (vl 0 (.agg ([nZ dd.Seq,aZ a',aZ b',aZ c',aZ v'])) dC rfl rfl rfl ?_)
 refine ve λu=>aL 6 ([nZ dd.Seq,aZ a',aZ b',aZ c',aZ v']) u rfl rfl rfl (by repeat (first | exact rfl | refine cG (cC _ _ _) ?_ | refine cG rfl ?_)) nB rfl rfl λK5=>qk K5 rfl ?_
 refine v0 ?_
 cases m
 refine vrl λu=> ?_
 obtain⟨K6,le0⟩:=gA.fzO (n:=44) (f:=_) 1 5 ([nZ dd.Seq,.sl none 4 (map bJ dd.Snaps),aZ b',aZ c',aZ v']) u rfl (.cons (Fz.refl _ _ _) (.cons (Fz.aw 1 eP oa u rfl (.refl _)) (.cons (Fz.refl _ _ _) (.cons (Fz.refl _ _ _) (.cons (Fz.refl _ _ _) .nil)))))
 obtain⟨K7,le1⟩:=gA.fzO (n:=44) (f:=_) 1 4 ([nZ dd.Seq,.sl none 4 (map bJ dd.Snaps),.sl none 35 (map aK dd.Chunks),aZ c',aZ v']) K6 rfl (.cons (Fz.refl _ _ _) (.cons (Fz.refl _ _ _) (.cons (Fz.aw 1 cZ ob K6 rfl (.refl _)) (.cons (Fz.refl _ _ _) (.cons (Fz.refl _ _ _) .nil)))))
 obtain⟨K8,le2⟩:=gA.fzO (n:=44) (f:=_) 1 3 ([nZ dd.Seq,.sl none 4 (map bJ dd.Snaps),.sl none 35 (map aK dd.Chunks),.sl none 3 (map cH dd.Exps),aZ v']) K7 rfl (.cons (Fz.refl _ _ _) (.cons (Fz.refl _ _ _) (.cons (Fz.refl _ _ _) (.cons (Fz.aw 1 gH oc K7 rfl (.refl _)) (.cons (Fz.refl _ _ _) .nil)))))
 obtain⟨K82,le3⟩:=gA.fzO (n:=44) (f:=_) 1 2 ([nZ dd.Seq,.sl none 4 (map bJ dd.Snaps),.sl none 35 (map aK dd.Chunks),.sl none 3 (map cH dd.Exps),.sl none 4 (map dH dd.Vols)]) K8 rfl (.cons (Fz.refl _ _ _) (.cons (Fz.refl _ _ _) (.cons (Fz.refl _ _ _) (.cons (Fz.refl _ _ _) (.cons (Fz.aw 1 eW ov K8 rfl (.refl _)) .nil)))))
 exact QE.mk (gA.trans (gA.trans (gA.trans le0 le1) le2) le3) (dW.of2 (.inl rfl) (sJ (.agg (aC dd)) dC rfl (aW 2 K82 rfl) rfl) (gQ _ _ (.sc (.int _ _)) rfl) (aU (nil_sublist _) K82).1 (bD.refl _ _) (bD.refl _ _) ⟨rfl,rfl⟩)
theorem aH3:aP prog 29=true:=by kernel_rfl
theorem qB {α ρ:Type} {l:List α} (f:α->α) {F:Nat} {body:List α×Int->Option (Lp (List α×Int) ρ)} (hF:l.length < F)
    (hb:∀(cur:List α) (i:Nat) (x:α),cur.length=l.length->cur[i]? =some x->x∈l->i < l.length->body (cur,(i:Int))=some (.go (cur.set i (f x),((i+1:Nat):Int))))
    (he:∀cur:List α,cur.length=l.length->body (cur,(l.length:Int))=some (.brk (cur,(l.length:Int)))):
    aR body F (l,0)=some (.brk (l.map f,(l.length:Int))):=by
  have len:∀i,((l.take i).map f++l.drop i).length=l.length:=λi=>by simp; omega
  have:=iT (body:=body) (s0:=(l,(0:Int))) (n:=l.length) (F:=F) (λi:Nat=>((l.take i).map f++l.drop i,(i:Int))) hF (by simp) (λi hi=>by
    have hx:((l.take i).map f++l.drop i)[i]? =some l[i]:=by
      rw[List.getElem?_append_right (by simp; omega)]
      simp[Nat.min_eq_left (Nat.le_of_lt hi)]
    rw[hb _ i l[i] (len i) hx (List.getElem_mem hi) hi]
    congr 4
    rw[List.take_succ_eq_append_getElem hi,List.drop_eq_getElem_cons hi,List.set_append_right _ _ (by simp; omega),List.length_map,List.length_take,Nat.min_eq_left (Nat.le_of_lt hi),Nat.sub_self,List.set_cons_zero,List.map_append]
    simp only[map_cons,map_nil,List.append_assoc,List.cons_append,nil_append]) (he _ (len _))
  simpa using this
theorem KM {F:Nat} {m:bE} (hF:1000<=F) (hp:m.Parts.length<=10) (hi:∀p∈m.Parts,p.Ids.length<=40):OH F m=some m:=by
 unfold OH IP
 rw[bN (by simp; omega)]
 simp only[bind_some,nil_append]
 rw[qB (l:=m.Parts) id (by omega) (λcur i x hc hx hm hi'=>by
  have:=hi x hm
  unfold tY R8
  rw[iG (by omega)]
  simp only[aX,hx,bind_some,ofNat_lt,hi',decide_true,if_true]
  rw[bN (by simp; omega)]
  rfl) (λcur hc=>by unfold tY; simp)]
 simp[aG]
theorem aH4 {F:Nat} {c:aA} (hF:1000<=F) (h:Sm c):OI F c=some c:=by
 have hsn:=h.sn
 have hex:=h.ex
 have hvo:=h.vo
 have hch:=h.ch
 unfold OI IQ IR IS IT
 rw[bN (by simp; omega),bN (by simp; omega),bN (by simp; omega),bN (by simp; omega)]
 simp only[bind_some,nil_append]
 rw[qB (l:=c.Snaps) id (by omega) (λcur i x hc hx hm hi=>by
  have h1:=h.sl x hm
  obtain⟨-,h2,h3⟩:=h.man x hm
  unfold tZ CP
  rw[iG (by omega)]
  simp only[aX,hx,bind_some,ofNat_lt,hi,decide_true,if_true,KM hF h2 (λp hp=>(h3 p hp).2)]
  rw[bN (by simp; omega)]
  simp[set_set]) (λcur hc=>by unfold tZ; simp)]
 simp only[aG]
 rw[qB (l:=c.Chunks) id (by omega) (λcur i x hc hx hm hi=>by
  have h1:=h.cl x hm
  unfold uA CP M96
  have e1:app [] x.Data=some x.Data:=by rw[bN (by simp; omega)]; rfl
  rw[iG (by omega)]
  simp only[aX,hx,bind_some,ofNat_lt,hi,decide_true,if_true,e1]
  rw[bN (by simp; omega)]
  simp[set_set]) (λcur hc=>by unfold uA; simp)]
 simp only[aG]
 rw[qB (l:=c.Exps) id (by omega) (λcur i x hc hx hm hi=>by
  have h1:=h.el x hm
  unfold uB CP
  rw[iG (by omega)]
  simp only[aX,hx,bind_some,ofNat_lt,hi,decide_true,if_true]
  rw[bN (by simp; omega)]
  simp) (λcur hc=>by unfold uB; simp)]
 simp[aG]
def lf (v:Int) (l:List aS):List aS:=l.filter λy=> !(y.Vol==v)
def aH5 (v:Int) (s:aH):aH:={ s with Locs:=lf v s.Locs}
def SA (v:Int) (s:aB):aB:={ s with Locs:=lf v s.Locs}
def SB (v:Int) (s:aT):aT:={ s with Locs:=lf v s.Locs}
def OM (y:aB):Bool:= !y.Staged && ((y.Locs.length:Int)==0)
def ret (c:aA) (v:Int) (x:aQ):aA:=
 { Seq:=c.Seq,Snaps:=c.Snaps.map (aH5 v),Chunks:=(c.Chunks.map (SA v)).filter λy=> !OM y,Exps:=(c.Exps.map (SB v)).filter λy=> !((y.Locs.length:Int)==0),Vols:=c.Vols.set v.toNat { x with State:=3,Files:=0}}
def rel (c:aA) (v:Int) (x:aQ):aA:={ c with Vols:=c.Vols.set v.toNat { x with State:=1,Epoch:=x.Epoch+1}}
theorem n29 {F:Nat} {c:aA} {d:aV} {k:Nat} {e:aA} {n:Int} (hF:1000<=F) (h:Sm c) (hg:gJ c=true) (hk:nS.find? (λe=>e.1==d.Kind)=some (d.Kind,k)) (hd:o5 F k c d=some (e,n)) (hs:n=0->Sm e):
    QH F c d=some (if n=0 then (if gJ e=true then (e,0) else (bY,1)) else (bY,n)):=by
  unfold QH
  rw[hk]
  simp only[m33 hF h,hg,if_true,bind_some,aH4 hF h,hd,aG]
  by_cases e0:n=0
  . rw[if_neg (by decide),if_neg (by simp[e0]),m33 hF (hs e0),if_pos e0]
    simp only[bind_some]
    cases gJ e<;>rfl
  . rw[if_neg (by decide),if_pos (by simpa using e0),if_neg e0]
theorem qC {l:List aB}:uR l↔(∀x∈l,mL x.Id)/\l.Pairwise λy x=>ky y.Id < ky x.Id:=by
 unfold uR
 refine and_congr_right λ_=> ?_
 rw[List.pairwise_iff_getElem]
 constructor
 ·intro h i j hi hj hij
  exact h i j _ _ (getElem?_eq_getElem hi) (getElem?_eq_getElem hj) hij
 ·intro h i j x y hx hy hij
  obtain⟨hi,rfl⟩:=List.getElem?_eq_some_iff.1 hx
  obtain⟨hj,rfl⟩:=List.getElem?_eq_some_iff.1 hy
  exact h i j hi hj hij
structure At (l:List aB) (d:bH) (p:Nat):Prop where
 le:p<=l.length
 lo:∀x∈l.take p,ky x.Id < ky d
 hi:∀x∈l.drop p,ky d<=ky x.Id
theorem aCN {F:Nat} {l:List aB} {d:bH} (hF:1000<=F) (hr:uR l) (hd:mL d) (hl:l.length < 1000):∃p:Nat,At l d p/\yG F l d=some ((p:Int),kM l d):=by
 obtain⟨p',e'⟩:=aBM hF hr hd hl
 obtain⟨p,hp,e,h1,h2⟩:=bis (F:=F) hr hd hl F 0 l.length (by omega) (le_refl _) (by omega) (λj x _ hj=>by omega) (λj x hx hj=>by have:=(List.getElem?_eq_some_iff.1 hx).1; omega)
 have e2:∃b,yG F l d=some ((p:Int),b):=by
  unfold yG NC
  rw[show ((0:Int),(l.length:Int))=(((0:Nat):Int),(l.length:Int)) from rfl,e]
  simp only[aG]
  by_cases hlt:p < l.length
  ·have hx:l[p]? =some l[p]:=getElem?_eq_getElem hlt
   have hmem:=List.getElem_mem hlt
   generalize l[p]=x at hx hmem
   have gx:=hr.1 x hmem
   have e:AB F x d=some (if ky x.Id < ky d then -1 else if ky d < ky x.Id then 1 else 0):=by unfold AB; rw[NL F gx hd]; rfl
   simp only[ofNat_lt,hlt,decide_true,if_true,aX,hx,bind_some,e,aG]
   exact⟨_,rfl⟩
  ·have hn:¬((p:Int) < (l.length:Int)):=by omega
   simp only[hn,decide_false,false_eq_true,if_false,aG,bind_some]
   exact⟨_,rfl⟩
 obtain⟨b,hb⟩:=e2
 refine⟨p,⟨hp,λx hx=> ?_,λx hx=> ?_⟩, ?_⟩
 ·obtain⟨i,hi,rfl⟩:=getElem_of_mem hx
  simp only[List.length_take] at hi
  rw[List.getElem_take]
  exact h1 i _ (getElem?_eq_getElem (by omega)) (by omega)
 ·obtain⟨i,hi,rfl⟩:=getElem_of_mem hx
  simp only[length_drop] at hi
  rw[getElem_drop]
  exact h2 (p+i) _ (getElem?_eq_getElem (by omega)) (by omega)
 ·rw[hb] at e' ⊢
  have:=Option.some.inj e'
  rw[(Prod.mk.inj this).2]
theorem IV {α:Type} {l:List α} {p:Nat} {x:α} (h:p<=l.length) (hl:l.length < 1000):qR l (p:Int) x=some (l.take p++x::l.drop p):=by
 unfold qR
 rw[if_pos ⟨by omega,by omega,by omega⟩]
 simp
theorem HF {l:List aB} {p:Nat} {d:bH} (hr:uR l) (ha:At l d p) (hd:mL d) (h:kM l d=true):∃x,l[p]? =some x/\x.Id=d:=by
 obtain⟨y,hy,e⟩:=List.any_eq_true.1 h
 have e:=of_decide_eq_true e
 have hy2:y∈l.take p++l.drop p:=by rw[List.take_append_drop]; exact hy
 rcases List.mem_append.1 hy2 with h1 | h1
 ·have:=ha.lo y h1
  rw[e] at this; omega
 ·obtain⟨i,hi,e2⟩:=getElem_of_mem h1
  simp only[length_drop] at hi
  rw[getElem_drop] at e2
  have hp:l[p]? =some l[p]:=getElem?_eq_getElem (by omega)
  cases i with
  | zero=>exact⟨_,hp,by rw[<- e,<- e2]; rfl⟩
  | succ i=>
   have h3:=hr.2 p (p+(i+1)) _ _ hp (getElem?_eq_getElem (by omega)) (by omega)
   have h4:=ha.hi l[p] (by
    rw[List.drop_eq_getElem_cons (by omega)]
    exact List.mem_cons_self)
   rw[e2,e] at h3
   omega
theorem BC {ρ:Type} {body:Int->Option (Lp Int ρ)} {c:Nat->Bool}:∀(G q:Nat),q < G->(∀k:Nat,k<=q->body (k:Int)=some (if decide (0 < k) && c (k - 1) then .go ((k - 1:Nat):Int) else .brk (k:Int)))->
    ∃p:Nat,p<=q/\aR body G (q:Int)=some (.brk (p:Int))/\(∀j,p<=j->j < q->c j=true)/\(0 < p->c (p - 1)=false)
  | 0,_,h,_=>by omega
  | G+1,q,h,hb=>by
    unfold aR
    rw[hb q (le_refl _)]
    cases e:decide (0 < q) && c (q - 1) with
    | false=>
      refine⟨q,le_refl _,by simp,λj h1 h2=>by omega,λh0=> ?_⟩
      simpa [h0] using e
    | true=>
      simp only[Bool.and_eq_true,decide_eq_true_eq] at e
      obtain⟨p,h1,h2,h3,h4⟩:=BC (body:=body) (c:=c) G (q - 1) (by omega) λk hk=>hb k (by omega)
      refine⟨p,by omega,by simpa using h2,λj hj1 hj2=> ?_,h4⟩
      by_cases ej:j=q - 1
      . rw[ej]; exact e.2
      . exact h3 j hj1 (by omega)
structure Pt (l:List aS) (x:aS) (p:Nat):Prop where
 le:p<=l.length
 hi:∀y∈l.drop p,jU y x=true
 lo:∀y,0 < p->l[p - 1]? =some y->jU y x=false
theorem aCO {F:Nat} {l:List aS} {x:aS} (hF:1000<=F) (hl:l.length<=400):∃p,Pt l x p/\wA F l x=some (l.take p++x::l.drop p):=by
 obtain⟨p,h1,h2,h3,h4⟩:=BC (body:=λs=>qA F l x s) (c:=λj=>match l[j]? with | none=>false | some y=>jU y x) F l.length (by omega) (λk hk=>by
  unfold qA
  by_cases h0:0 < k
  ·have hy:l[k - 1]? =some l[k - 1]:=getElem?_eq_getElem (by omega)
   generalize l[k - 1]=y at hy
   rw[yI (by omega) h0]
   have hk0:(0:Int) < (k:Int):=by omega
   simp only[aX,hy,hk0,h0,decide_true,Bool.true_and,if_true,bind_some]
   have e:jU y x=(if decide (x.Vol < y.Vol)then true else if (y.Vol==x.Vol)then (if decide (x.File < y.File)then true else if (y.File==x.File)then decide (x.Off < y.Off) else false) else false):=by
    rw[Bool.eq_iff_iff,wU]
    by_cases a:x.Vol < y.Vol<;>by_cases b:y.Vol=x.Vol<;>by_cases c:x.File < y.File<;>by_cases d:y.File=x.File<;>simp[a,b,c,d]<;>omega
   rw[e]
   by_cases a:x.Vol < y.Vol<;>by_cases b:y.Vol=x.Vol<;>by_cases c:x.File < y.File<;>by_cases d:y.File=x.File<;>(simp[a,b,c,d,aG]<;>(split<;>rfl))
  ·obtain rfl:k=0:=by omega
   simp[aG])
 refine⟨p,⟨h1,λy hy=> ?_,λy h0 hy=> ?_⟩, ?_⟩
 ·obtain⟨i,hi,rfl⟩:=getElem_of_mem hy
  simp only[length_drop] at hi
  have:=h3 (p+i) (by omega) (by omega)
  rw[getElem?_eq_getElem (show p+i < l.length by omega)] at this
  rw[getElem_drop]
  exact this
 ·have:=h4 h0
  simp only[hy] at this
  exact this
 ·unfold wA
  rw[h2]
  simp only[aG]
  rw[IV h1 (by omega)]
  rfl
def FC (c:aA) (y:aB):aB:=if iO c y.Id then y else { y with Staged:=false,Data:=[]}
def pD (y:aB):Bool:=y.Staged || decide (0 < (y.Locs.length:Int))
def KN (c:aA):List aB:=(c.Chunks.filter λy=>pD (FC c y)).map (FC c)
theorem aH6 {F:Nat} {c:aA} (hF:1000<=F) (h:Sm c):KK F c=some (KN c):=by
 have hch:=h.ch
 unfold KK
 rw[i7 (l:=c.Chunks) [] (λy=>pD (FC c y)) (FC c) (by omega) (λi x hx hm hi acc ha=>by
  unfold tW
  simp only
  rw[iG (by omega)]
  simp only[List.length_nil] at ha
  have ea:∀z:aB,app acc [z]=some (acc++ [z]):=λz=>bN (by simp; omega)
  simp only[aX,hx,bind_some,ofNat_lt,hi,decide_true,if_true,m44 hF (c:={ Seq:=c.Seq,Snaps:=c.Snaps,Chunks:=c.Chunks,Exps:=c.Exps,Vols:=c.Vols}) h]
  unfold FC pD
  show _=_
  rw[show iO { Seq:=c.Seq,Snaps:=c.Snaps,Chunks:=c.Chunks,Exps:=c.Exps,Vols:=c.Vols} x.Id=iO c x.Id from rfl]
  generalize iO c x.Id=ub
  obtain⟨id,st,da,lo⟩:=x
  simp only
  cases ub
  ·simp only[Bool.not_false,false_eq_true,if_true,if_false,aG,Bool.false_or]
   generalize decide (0 < (lo.length:Int))=dl
   cases dl<;>simp[aG,ea]
  ·simp only[Bool.not_true,false_eq_true,if_true,if_false,aG]
   generalize decide (0 < (lo.length:Int))=dl
   cases dl<;>cases st<;>simp[aG,ea]) (λacc=>by unfold tW; simp)]
 simp[aG,KN]
def qV (c:aA) (n:Int):aA:={ c with Snaps:=c.Snaps.filter λs=> !(s.Seq==n)}
def CW (c:aA) (n:Int):aA:={ qV c n with Chunks:=KN (qV c n)}
theorem uC {c:aA} (h:Sm c) (q:aH->Bool):Sm { c with Snaps:=c.Snaps.filter q}:=
 { h with
  g:=⟨h.g.1,λs hs=>h.g.2.1 s (mem_filter.1 hs).1,h.g.2.2⟩
  sn:=Nat.le_trans (List.length_filter_le _ _) h.sn
  sl:=λs hs=>h.sl s (mem_filter.1 hs).1
  man:=λs hs=>h.man s (mem_filter.1 hs).1}
def qD (m:Nat) (p0:List aB) (q0:List aB) (q1:Int):Option (Lp ((List aB)×Int) ((List aB))):=
 if decide (q1 < (p0.length:Int)) then ((ix p0 q1).bind λx0=>(vO m x0.Data).bind λy0=>(wM m x0.Locs).bind λy1=>(app q0 ([{ { x0 with Data:=y0} with Locs:=y1}]:List aB)).bind λz0=>Gk (z0,wrap .i64 (q1+1))) else Bk (q0,q1)
def BD (m:Nat) (p0:List aB):Option ((List aB)):=
 after (aR (λs=>qD m p0 s.1 s.2) m ([],0)) λ⟨r0,r1⟩=>some r0
theorem UB {w:Nat} {p0:List aB} {o:(List aB)} (h:aF) (m:BD w p0=some o):
 aM prog 152 [.sl none 35 (map aK p0)] h (λr h'=>∃g:dE,bK g 35 o.length/\bP h [(g.t,.obj 44 (fl aK o g.sp))]/\r=aZ g/\h'=hp h [(g.t,.obj 44 (fl aK o g.sp))]):=by
 refine fQ 29 [.tmp 2] Tryz.func152 rfl rfl rfl rfl ?_
 unfold BD at m
 refine vs (v0 (vs (v0 (vs (vs (v0 (pM (z6 (.obj 44 (fl aK ([]:List aB) g0.sp)) 3 (aZ g0) (fT _)) (nU m (σ:=(List aB)×Int) (τ:=dE) (λg s=>[(dA g s.1)]) (λg s=>bK g 35 (s.1:List aB).length) (λg s=>.c 0 (.sl none 35 (map aK p0)) (.c 3 (aZ g) (.c 4 (nZ s.2) .nil))) g0 (bK.g0 35) (lx (.k3 .nil)) ?_ ?_))))))))
 rintro ag0 ⟨q0,q1⟩ x O0 m
 replace m:qD w p0 q0 q1=some x:=m
 unfold qD at m
 refine vs (vs (v0 (cU lH rfl (v0 ?_))))
 apply vi m<;>intro c0 m
 refine v0 (vs (v0 (vs (v0 (vx m hX rfl rfl λx0 _ m=>va (.agg (aK x0)) pH rfl rfl (ve λu=>bG (bC gY++(TE:List AV)) u qP rfl rfl λk115 K0=>qk K0 rfl (ve λu=>aL 0 (aK x0) u rfl rfl rfl rfl EK rfl rfl λK1=>qk K1 rfl (vs (v0 (vz [(7,some k115,.obj 44 (aK x0))] mixed (λu=>⟨λ_=>aO 0 u rfl,trivial⟩) λu=>zF 0 rfl lY rfl (zL 1 0 (.sl none 1 (map f9 x0.Data)) rfl n6 rfl rfl rfl ?_)))))))))))
 obtain⟨y0,Y0,m⟩:=aD m
 refine zC 2 rfl (bV (NR _ Y0) rfl EV rfl) (zF 3 rfl jW rfl (zL 4 0 (.sl none 4 (map aN x0.Locs)) rfl fW rfl rfl rfl ?_))
 obtain⟨y1,Y1,m⟩:=aD m
 refine zC 5 rfl (bV (NQ _ Y1) rfl EU rfl) (zF 6 rfl lY rfl (zE 7 rfl (aL 0 (aK { x0 with Data:=y0}) u rfl rfl rfl rfl EJ rfl rfl λK2=>⟨⟨λe=>absurd e (by decide),trivial⟩, ?_⟩)))
 refine zF 8 rfl jW rfl (zE 9 rfl (aL 0 (aK { { x0 with Data:=y0} with Locs:=y1}) K2 rfl rfl rfl rfl pU rfl rfl λK3=>⟨⟨λe=>absurd e (by decide),trivial⟩, ?_⟩))
 refine zX (qk (f:=Q8 23 _ _ _ _ _ _ _ _ _) K3 rfl (v0 (vl 0 (.agg (aK { { x0 with Data:=y0} with Locs:=y1})) pH rfl rfl rfl (bU (dX (map aK ([{ { x0 with Data:=y0} with Locs:=y1}]:List aB)) pE rfl rfl rfl rfl) ?_))))
 obtain⟨z0,Z0,m⟩:=aD m
 exact ve λu=>gG (c:=aK) 1 Z0 pE rfl qP rfl cZ rfl rfl O0 u rfl λag1 O1 K4=>qk K4 rfl (v0 (eG m ag1 O1 (mK [1] rfl rfl (.k3 .nil))))
 exact v0 (lR m ag0 O0 (lx (.k3 .nil)))
 rintro ag2 ⟨r0,r1⟩ t0 m
 refine vs (v0 (v0 ?_))
 obtain rfl:=eR m
 exact vr λu=>dW.one (.inl rfl) (aU (h0:=h) (L':=[(dA ag2 r0)]) (.refl _) u).1 (bD.refl _ _) ⟨ag2,t0,(aU (h0:=h) (L':=[(dA ag2 r0)]) (.refl _) u).2,rfl,rfl⟩
def CX (m:Nat) (p0:aA) (q0:List aH) (q1:Int):Option (Lp ((List aH)×Int) (aA)):=
 if decide (q1 < (p0.Snaps.length:Int)) then ((ix p0.Snaps q1).bind λx0=>(G4 m x0.Man).bind λy0=>(wM m x0.Locs).bind λy1=>(app q0 ([{ { x0 with Man:=y0} with Locs:=y1}]:List aH)).bind λz0=>Gk (z0,wrap .i64 (q1+1))) else Bk (q0,q1)
def CY (m:Nat) (p0:aA) (q0:List aT) (q1:Int):Option (Lp ((List aT)×Int) (aA)):=
 if decide (q1 < (p0.Exps.length:Int)) then ((ix p0.Exps q1).bind λx0=>(wM m x0.Locs).bind λy0=>(app q0 ([{ x0 with Locs:=y0}]:List aT)).bind λz0=>Gk (z0,wrap .i64 (q1+1))) else Bk (q0,q1)
def SC (m:Nat) (p0:aA):Option (aA):=
 after (aR (λs=>CX m p0 s.1 s.2) m ([],0)) λ⟨r0,r1⟩=>after (aR (λs=>CY m p0 s.1 s.2) m ([],0)) λ⟨r2,r3⟩=>(BD m p0.Chunks).bind λy0=>(app ([]:List aQ) p0.Vols).bind λz0=>some ({ Seq:=p0.Seq,Snaps:=r0,Chunks:=y0,Exps:=r2,Vols:=z0}:aA)
theorem aH7 {w:Nat} {p0:aA} {o:aA} (h:aF) (m:SC w p0=some o):
 aM prog 90 [.agg (aC p0)] h (λr h'=>∃gS:dE,bK gS 4 o.Snaps.length/\∃gC:dE,bK gC 35 o.Chunks.length/\∃gE:dE,bK gE 3 o.Exps.length/\∃gV:dE,bK gV 4 o.Vols.length/\bP h [(dF gS o.Snaps),(dA gC o.Chunks),(jX gE o.Exps),(lK gV o.Vols)]/\r= .agg ([nZ o.Seq,aZ gS,aZ gC,aZ gE,aZ gV])/\h'=hp h [(dF gS o.Snaps),(dA gC o.Chunks),(jX gE o.Exps),(lK gV o.Vols)]):=by
 refine fQ 68 [.cell 2 30] Tryz.func90 rfl rfl rfl rfl ?_
 unfold SC at m
 refine vs (v0 (gZ rfl rfl λk2 K3=>ve λu=>bG (jF) u sP rfl rfl λk5 K6=>qk K6 rfl (vs (v0 (vs (vs (v0 (pM (z6 (.obj 60 (fl bJ ([]:List aH) g0.sp)) 3 (aZ g0) (fT _)) (nU m (σ:=(List aH)×Int) (τ:=dE) (λg s=>[(dF g s.1),(some k5,.obj 30 (jF)),(some k2,.obj 30 (aC p0))]) (λg s=>bK g 4 (s.1:List aH).length) (λg s=>.c 1 (.ptr k2 0) (.c 2 (.ptr k5 0) (.c 3 (aZ g) (.c 4 (nZ s.2) .nil)))) g0 (bK.g0 4) (lx (.k4 .nil)) ?_ ?_)))))))))
 rintro ag0 ⟨q0,q1⟩ x O0 m
 replace m:CX w p0 q0 q1=some x:=m
 unfold CX at m
 refine vs (vs (v0 (dY eM rfl rfl (vl 2 _ fD rfl rfl rfl (cU lA rfl (v0 ?_))))))
 apply vi m<;>intro c0 m
 refine v0 (vs (v0 (vs (v0 (dY eM rfl rfl (vl 2 _ fD rfl rfl rfl (vx m iW rfl rfl λx0 _ m=>va (.agg (bJ x0)) sR rfl rfl (ve λu=>bG (XZ) u xZ rfl rfl λk121 K0=>qk K0 rfl (ve λu=>aL 0 (bJ x0) u rfl rfl rfl rfl GZ rfl rfl λK1=>qk K1 rfl (vs (v0 (vz [(7,some k121,.obj 60 (bJ x0))] mixed (λu=>⟨λ_=>aO 0 u rfl,trivial⟩) λu=>zF 0 rfl rK rfl (zL 1 0 (.agg (bI x0.Man)) rfl pW rfl rfl rfl ?_)))))))))))))
 obtain⟨y0,Y0,m⟩:=aD m
 refine zC 2 rfl (bV (aBO _ Y0) rfl UA rfl) (zF 3 rfl lJ rfl (zL 4 0 (.sl none 4 (map aN x0.Locs)) rfl fW rfl rfl rfl ?_))
 obtain⟨y1,Y1,m⟩:=aD m
 refine zC 5 rfl (bV (NQ _ Y1) rfl EU rfl) (zF 6 rfl rK rfl (zE 7 rfl (aL 0 (bJ { x0 with Man:=y0}) u rfl rfl rfl rfl z7 rfl rfl λK2=>⟨⟨λe=>absurd e (by decide),trivial⟩, ?_⟩)))
 refine zF 8 rfl lJ rfl (zE 9 rfl (aL 0 (bJ { { x0 with Man:=y0} with Locs:=y1}) K2 rfl rfl rfl rfl pU rfl rfl λK4=>⟨⟨λe=>absurd e (by decide),trivial⟩, ?_⟩))
 refine zX (qk (f:=Q8 29 _ _ _ _ _ _ _ _ _) K4 rfl (v0 (vl 0 (.agg (bJ { { x0 with Man:=y0} with Locs:=y1})) sR rfl rfl rfl (bU (dX (map bJ ([{ { x0 with Man:=y0} with Locs:=y1}]:List aH)) EG rfl rfl rfl rfl) ?_))))
 obtain⟨z0,Z0,m⟩:=aD m
 exact ve λu=>gG (c:=bJ) 1 Z0 EG rfl xZ rfl eP rfl rfl O0 u rfl λag1 O1 K5=>qk K5 rfl (v0 (eG m ag1 O1 (mK [1,2,3] rfl rfl (.k4 .nil))))
 exact v0 (lR m ag0 O0 (lx (.k4 .nil)))
 rintro ag2 ⟨r0,r1⟩ t0 m
 refine vs (v0 (vs (vs (v0 (pM (z6 (.obj 99 (fl cH ([]:List aT) g0.sp)) 6 (aZ g0) (fT _)) (nU m (σ:=(List aT)×Int) (τ:=dE) (λg s=>[(jX g s.1),(dF ag2 r0),(some k5,.obj 30 (jF)),(some k2,.obj 30 (aC p0))]) (λg s=>bK g 3 (s.1:List aT).length) (λg s=>.c 1 (.ptr k2 0) (.c 2 (.ptr k5 0) (.c 3 (aZ ag2) (.c 6 (aZ g) (.c 7 (nZ s.2) .nil))))) g0 (bK.g0 3) (lx (.k5 .nil)) ?_ ?_))))))
 rintro ag3 ⟨q2,q3⟩ x O2 m
 replace m:CY w p0 q2 q3=some x:=m
 unfold CY at m
 refine vs (vs (v0 (dY eY rfl rfl (vl 3 _ iL rfl rfl rfl (cU pT rfl (v0 ?_))))))
 apply vi m<;>intro c1 m
 refine v0 (vs (v0 (vs (v0 (dY eY rfl rfl (vl 3 _ iL rfl rfl rfl (vx m iX rfl rfl λx1 _ m=>va (.agg (cH x1)) z9 rfl rfl (ve λu=>bG ([nZ 0,nZ 0,sZ]) u sV rfl rfl λk235 K7=>qk K7 rfl (ve λu=>aL 0 (cH x1) u rfl rfl rfl rfl J7 rfl rfl λK8=>qk K8 rfl (vs (v0 (dY mZ rfl rfl (vl 0 _ fW rfl rfl rfl (vk NQ EU m rfl rfl λy2 m=>dY mZ rfl rfl (ve λu=>aL 0 (cH { x1 with Locs:=y2}) u rfl rfl rfl rfl pU rfl rfl λK9=>qk K9 rfl (v0 (vl 0 (.agg (cH { x1 with Locs:=y2})) z9 rfl rfl rfl (bU (dX (map cH ([{ x1 with Locs:=y2}]:List aT)) pF rfl rfl rfl rfl) ?_))))))))))))))))))
 obtain⟨z1,Z1,m⟩:=aD m
 exact ve λu=>gG (c:=cH) 1 Z1 pF rfl sV rfl gH rfl rfl O2 u rfl λag4 O3 K10=>qk K10 rfl (v0 (eG m ag4 O3 (mK [1,2,3,4] rfl rfl (.k5 .nil))))
 exact v0 (lR m ag3 O2 (lx (.k5 .nil)))
 rintro ag5 ⟨r2,r3⟩ t1 m
 refine vs (v0 (vs (v0 (vz [(10,some k2,.obj 30 (aC p0))] mixed (λu=>⟨λ_=>aO 3 u rfl,trivial⟩) λu=>zC 0 rfl (fJ (aw _ _ _) rfl) (zF 1 rfl fF rfl (zL 2 0 (.sl none 35 (map aK p0.Chunks)) rfl fE rfl rfl rfl (zC 4 rfl (fJ (aw _ _ _) rfl) (zC 5 rfl (fJ (.sc (.slice _ _ _)) rfl) (zF 6 rfl jA rfl (zL 7 0 (.sl none 4 (map dH p0.Vols)) rfl i9 rfl rfl rfl (zF 9 rfl eM rfl ?_)))))))))))
 obtain⟨_,Y2,m⟩:=aD m
 refine zE 3 rfl (dO (UB _ Y2) rfl NS rfl ?_)
 rintro x h' ⟨ag6,O4,K11,rfl,rfl⟩
 rw[kU]
 refine⟨⟨λ_=>aO 4 (bP.co u K11) rfl,trivial⟩, ?_⟩
 obtain⟨z2,Z2,m⟩:=aD m
 refine zE 8 rfl (B8 (c:=dH) Z2 MO rfl RD rfl eW rfl (bP.co u K11) rfl λag7 O5 K12=>⟨⟨λ_=>aO 5 K12 rfl,trivial⟩, ?_⟩)
 refine zE 10 rfl (aL 5 ([nZ p0.Seq,aZ ag2,.sl none 35 (map aK p0.Chunks),.sl none 3 (map cH p0.Exps),.sl none 4 (map dH p0.Vols)]) K12 rfl rfl (cM rfl) (cG (cC _ _ _) rfl) MM rfl rfl λK13=>⟨⟨λe=>absurd e (by decide),trivial⟩, ?_⟩)
 refine zF 11 rfl fF rfl (zE 12 rfl (aL 5 ([nZ p0.Seq,aZ ag2,aZ ag6,.sl none 3 (map cH p0.Exps),.sl none 4 (map dH p0.Vols)]) K13 rfl rfl (cM rfl) (cG (cC _ _ _) rfl) EH rfl rfl λK14=>⟨⟨λe=>absurd e (by decide),trivial⟩, ?_⟩))
 refine zF 13 rfl eY rfl (zE 14 rfl (aL 5 ([nZ p0.Seq,aZ ag2,aZ ag6,aZ ag5,.sl none 4 (map dH p0.Vols)]) K14 rfl rfl (cM rfl) (cG (cC _ _ _) rfl) MN rfl rfl λK15=>⟨⟨λe=>absurd e (by decide),trivial⟩, ?_⟩))
 refine zF 15 rfl jA rfl (zE 16 rfl (aL 5 ([nZ p0.Seq,aZ ag2,aZ ag6,aZ ag5,aZ ag7]) K15 rfl rfl (cM rfl) (cG (cC _ _ _) rfl) U9 rfl rfl λK16=>⟨⟨λe=>absurd e (by decide),trivial⟩, ?_⟩))
 refine zX (qk (f:=.c 66 _ (.c 65 _ (.c 64 _ (.c 62 _ (.c 57 _ (.c 63 _ (TP 61 _ _ _ _ (.c 56 _ (.c 55 _ (.c 54 _ _)))))))))) K16 rfl (vs (v0 (vl 5 (.agg ([nZ p0.Seq,aZ ag2,aZ ag6,aZ ag5,aZ ag7])) dC rfl rfl rfl (ve λu=>aL 4 ([nZ p0.Seq,aZ ag2,aZ ag6,aZ ag5,aZ ag7]) u rfl rfl rfl (by repeat (first | exact rfl | refine cG (jO _ _ _) ?_ | refine cG (cC _ _ _) ?_ | refine cG (gK _ _ _ _) ?_ | refine cG rfl ?_)) nB rfl rfl λK17=>qk K17 rfl ?_)))))
 refine v0 ?_
 cases m
 exact vr λu=>dW.of1 (.inl rfl) (sJ (.agg ([nZ p0.Seq,aZ ag2,aZ ag6,aZ ag5,aZ ag7])) dC rfl (aW 4 u rfl) rfl) (bQ u [3,1,2,0] rfl).2 (bD.refl _ _) ⟨ag2,t0,ag6,O4,ag5,t1,ag7,O5,(bQ u [3,1,2,0] rfl).1,rfl,rfl⟩
def SD (m:Nat) (p0:aS) (p1:aS):Option (Bool):=
 if (p0.Vol !=p1.Vol)then (some (decide (p0.Vol < p1.Vol))) else if (p0.File !=p1.File)then (some (decide (p0.File < p1.File))) else if (p0.Off !=p1.Off)then (some (decide (p0.Off < p1.Off))) else some (decide (p0.Len < p1.Len))
theorem aH8 {u:Nat} {p0:aS} {p1:aS} {o:Bool} (h:aF) (m:SD u p0 p1=some o):
 aM prog 191 [.agg (aN p0),.agg (aN p1)] h (λr h'=>r= .sc (.bool o)/\h'=h):=by
 refine fQ 40 [.tmp 4] Tryz.func191 rfl rfl rfl rfl ?_
 unfold SD at m
 refine v (gZ rfl rfl λk2 K3=>gZ rfl rfl λk5 K6=>v (vl 1 _ cB rfl rfl rfl (vl 0 _ cB rfl rfl rfl (v ?_))))
 apply vi m<;>intro c0 m
 refine v (vl 1 _ cB rfl rfl rfl (vl 0 _ cB rfl rfl rfl (v ?_)))
 cases m
 exact eH rfl
 refine v (v (vl 1 _ cB rfl rfl rfl (vl 0 _ cB rfl rfl rfl (v ?_))))
 apply vi m<;>intro c1 m
 refine v (vl 1 _ cB rfl rfl rfl (vl 0 _ cB rfl rfl rfl (v ?_)))
 cases m
 exact eH rfl
 refine v (v (vl 1 _ cB rfl rfl rfl (vl 0 _ cB rfl rfl rfl (v ?_))))
 apply vi m<;>intro c2 m
 refine v (vl 1 _ cB rfl rfl rfl (vl 0 _ cB rfl rfl rfl (v ?_)))
 cases m
 exact eH rfl
 refine v (v (vl 1 _ cB rfl rfl rfl (vl 0 _ cB rfl rfl rfl (v ?_))))
 cases m
 exact eH rfl
theorem aCP:aP prog 191=true:=by kernel_rfl
def uD (m:Nat) (p0:List aS) (p1:aS) (q0:Int):Option (Lp (Int) ((List aS))):=
 after (if decide (q0 < (p0.length:Int)) then ((ix p0 q0).bind λx0=>(SD m x0 p1).bind λy0=>Bk y0) else Bk false:Option (Lp (Bool) (Lp (Int) ((List aS))))) λj0=>if j0 then (Gk (wrap .i64 (q0+1))) else Bk q0
def HG (m:Nat) (p0:List aS) (p1:aS):Option ((List aS)):=
 after (aR (λs=>uD m p0 p1 s) m 0) λr0=>(slc p0 0 r0).bind λx0=>(app ([]:List aS) x0).bind λz0=>(app z0 ([p1]:List aS)).bind λz1=>(slc p0 r0 (p0).length).bind λx1=>(app z1 x1).bind λz2=>some z2
theorem WT {w:Nat} {p0:List aS} {p1:aS} {o:(List aS)} (h:aF) (m:HG w p0 p1=some o):
 aM prog 185 [.sl none 4 (map aN p0),.agg (aN p1)] h (λr h'=>r= .sl none 4 (map aN o)/\h'=h):=by
 refine fQ 34 [.tmp 4] Tryz.func185 rfl rfl rfl rfl ?_
 unfold HG at m
 refine v (gZ rfl rfl λk2 K3=>v (vs (jS m (σ:=Int) (λs=>[(some k2,.obj 81 (aN p1))]) (λs=>.c 0 (.sl none 4 (map aN p0)) (.c 3 (.ptr k2 0) (.c 5 (nZ s) .nil))) (lx (.k3 .nil)) ?_ ?_)))
 rintro _ q0 x m
 replace m:uD w p0 p1 q0=some x:=m
 unfold uD at m
 refine vs (vs (fO m (σ:=Bool) (λs=>[(some k2,.obj 81 (aN p1))]) (λs=>.c 0 (.sl none 4 (map aN p0)) (.c 3 (.ptr k2 0) (.c 5 (nZ q0) (.c 18 (.sc (.bool s)) .nil)))) (λx m=> ?_) ?_))
 refine v (vq (by kernel_rfl) (cU kB rfl ?_))
 apply vi m<;>intro b0 m
 rw[b0]
 exact vx m jH rfl rfl λx0 _ m=>va (.agg (aN x0)) nD rfl rfl (vl 0 (.agg (aN p1)) nD rfl rfl rfl (vk aH8 aCP m rfl rfl λ_ m=>fZ m))
 rw[b0]
 exact fZ m
 rintro _ j0 m
 refine v ?_
 apply vi m<;>intro c0 m
 exact v (v (v (hH m)))
 exact v (GT m)
 rintro _ r0 m
 refine v (v (vz [(1000000,some k2,.obj 81 (aN p1))] mixed (λu=>⟨λ_=>aO 0 u rfl,trivial⟩) λu=>zC 0 rfl (fJ (.sc (.slice _ _ _)) rfl) (zC 1 rfl (fJ (.sl _ _ _) rfl) (zI 2 rfl rfl ?_))))
 obtain⟨_,X0,m⟩:=aD m
 refine zC 3 rfl (n3 X0 jH rfl rfl rfl rfl) (zL 5 0 (.agg (aN p1)) rfl nD rfl rfl rfl (zC 6 rfl (dX (map aN ([p1]:List aS)) pG rfl rfl rfl rfl) ?_))
 obtain⟨z0,Z0,m⟩:=aD m
 refine zE 4 rfl (oM (c:=aN) Z0 pG rfl rfl u nofun rfl λtg0 t0 K0=>⟨⟨λ_=>aO 1 K0 rfl,trivial⟩, ?_⟩)
 obtain⟨z1,Z1,m⟩:=aD m
 refine zE 7 rfl (fC (c:=aN) 0 Z1 pG rfl rfl rfl t0 K0 rfl λtg1 t1 K1=>⟨⟨λ_=>aO 1 K1 rfl,trivial⟩, ?_⟩)
 refine zC 8 rfl (iC (ow _ _ _) rfl) (zX (qk (f:=.c 6 _ (.c 28 _ (.c 25 _ (.c 27 _ (.c 26 _ (TP 24 _ _ _ _ _)))))) K1 rfl (v ?_)))
 obtain⟨_,X1,m⟩:=aD m
 refine bU (n3 X1 jH rfl rfl rfl rfl) ?_
 obtain⟨z2,Z2,m⟩:=aD m
 refine ve λu=>fC (c:=aN) 0 Z2 pG rfl rfl rfl t1 u rfl λtg2 t2 K2=>qk K2 rfl (v ?_)
 obtain rfl:=eR m
 exact vr λu=>dW.of1 (.inl rfl) (gQ _ _ (ow _ _ _) rfl) (aU (nil_sublist _) u).1 ((dU _ 0 t2 u rfl)) ⟨rfl,rfl⟩
theorem ON:aP prog 185=true:=by kernel_rfl
def uE (m:Nat) (p0:List aS) (p1:Int) (q0:List aS) (q1:Int):Option (Lp ((List aS)×Int) ((List aS))):=
 if decide (q1 < (p0.length:Int)) then ((ix p0 q1).bind λx0=>after (if (x0.Vol !=p1)then ((ix p0 q1).bind λx1=>(app q0 ([x1]:List aS)).bind λz0=>Bk z0) else Bk q0:Option (Lp ((List aS)) (Lp ((List aS)×Int) ((List aS))))) λj0=>Gk (j0,wrap .i64 (q1+1))) else Bk (q0,q1)
def HH (m:Nat) (p0:List aS) (p1:Int):Option ((List aS)):=
 after (aR (λs=>uE m p0 p1 s.1 s.2) m ([],0)) λ⟨r0,r1⟩=>some r0
theorem WU {w:Nat} {p0:List aS} {p1:Int} {o:(List aS)} (h:aF) (m:HH w p0 p1=some o):
 aM prog 157 [.sl none 4 (map aN p0),nZ p1] h (λr h'=>r= .sl none 4 (map aN o)/\h'=h):=by
 refine fQ 28 [.tmp 4] Tryz.func157 rfl rfl rfl rfl ?_
 unfold HH at m
 refine v (v (v (pM (z6 (.tok 81 4 (([]:List aS).length*4)) 5 (ow none 4 (map aN [])) (gD _ _)) (nU m (σ:=(List aS)×Int) (τ:=Option bT) (λg s=>[(g,.tok 81 4 ((s.1:List aS).length*4))]) (λg s=>(g=none->s.1= [])) (λg s=>.c 0 (.sl none 4 (map aN p0)) (.c 1 (nZ p1) (.c 5 (ow g 4 (map aN s.1)) (.c 6 (nZ s.2) .nil)))) none (λ_=>rfl) (lx (.k4 .nil)) ?_ ?_))))
 rintro tg0 ⟨q0,q1⟩ x t0 m
 replace m:uE w p0 p1 q0 q1=some x:=m
 unfold uE at m
 refine v (cU kB rfl (v ?_))
 apply vi m<;>intro c0 m
 refine v (v (v (vx m jH rfl rfl λ_ _ m=>oI m (σ:=(List aS)) (τ:=Option bT) (λg s=>[(g,.tok 81 4 ((s:List aS).length*4))]) (λg s=>(g=none->s= [])) (λg s=>.c 0 (.sl none 4 (map aN p0)) (.c 1 (nZ p1) (.c 5 (ow g 4 (map aN s)) (.c 6 (nZ q1) .nil)))) (λx m=> ?_) ?_)))
 refine v ?_
 apply vi m<;>intro c1 m
 refine v (vx m jH rfl rfl λx0 _ m=>va (.agg (aN x0)) nD rfl rfl (bU (dX (map aN ([x0]:List aS)) pG rfl rfl rfl rfl) ?_))
 obtain⟨z0,Z0,m⟩:=aD m
 exact ve λu=>fC (c:=aN) 0 Z0 pG rfl rfl rfl t0 u rfl λtg1 t1 K0=>qk K0 rfl (eG m tg1 t1 (lx (.k4 .nil)))
 exact v (eG m tg0 t0 (lx (.k4 .nil)))
 rintro tg2 j0 t2 m
 exact v (eG m tg2 t2 (lx (.k4 .nil)))
 exact v (lR m tg0 t0 (lx (.k4 .nil)))
 rintro tg3 ⟨r0,r1⟩ t3 m
 refine v (v ?_)
 obtain rfl:=eR m
 exact vr λu=>dW.of1 (.inl rfl) (gQ _ _ (ow _ _ _) rfl) (aU (nil_sublist _) u).1 ((dU _ 0 t3 u rfl)) ⟨rfl,rfl⟩
theorem OO:aP prog 157=true:=by kernel_rfl
def M92 (m:Nat) (p0:aV):Option (aV):=
 (G4 m p0.Snap.Man).bind λy0=>(wM m p0.Snap.Locs).bind λy1=>(KE m ({ { p0 with Snap:={ p0.Snap with Man:=y0}} with Snap:={ { p0 with Snap:={ p0.Snap with Man:=y0}}.Snap with Locs:=y1}}.Chunks)).bind λy2=>(app ([]:List aE) ({ { p0 with Snap:={ p0.Snap with Man:=y0}} with Snap:={ { p0 with Snap:={ p0.Snap with Man:=y0}}.Snap with Locs:=y1}}.Items)).bind λz0=>some ({ Kind:={ { { p0 with Snap:={ p0.Snap with Man:=y0}} with Snap:={ { p0 with Snap:={ p0.Snap with Man:=y0}}.Snap with Locs:=y1}} with Chunks:=y2}.Kind,Snap:=({ Seq:=({ { { p0 with Snap:={ p0.Snap with Man:=y0}} with Snap:={ { p0 with Snap:={ p0.Snap with Man:=y0}}.Snap with Locs:=y1}} with Chunks:=y2}.Snap).Seq,Man:=({ Name:=(({ { { p0 with Snap:={ p0.Snap with Man:=y0}} with Snap:={ { p0 with Snap:={ p0.Snap with Man:=y0}}.Snap with Locs:=y1}} with Chunks:=y2}.Snap).Man).Name,Parts:=(({ { { p0 with Snap:={ p0.Snap with Man:=y0}} with Snap:={ { p0 with Snap:={ p0.Snap with Man:=y0}}.Snap with Locs:=y1}} with Chunks:=y2}.Snap).Man).Parts}:bE),Locs:=({ { { p0 with Snap:={ p0.Snap with Man:=y0}} with Snap:={ { p0 with Snap:={ p0.Snap with Man:=y0}}.Snap with Locs:=y1}} with Chunks:=y2}.Snap).Locs}:aH),Chunks:={ { { p0 with Snap:={ p0.Snap with Man:=y0}} with Snap:={ { p0 with Snap:={ p0.Snap with Man:=y0}}.Snap with Locs:=y1}} with Chunks:=y2}.Chunks,Seq:={ { { p0 with Snap:={ p0.Snap with Man:=y0}} with Snap:={ { p0 with Snap:={ p0.Snap with Man:=y0}}.Snap with Locs:=y1}} with Chunks:=y2}.Seq,Vol:={ { { p0 with Snap:={ p0.Snap with Man:=y0}} with Snap:={ { p0 with Snap:={ p0.Snap with Man:=y0}}.Snap with Locs:=y1}} with Chunks:=y2}.Vol,Items:=z0}:aV)
theorem W92 {w:Nat} {p0:aV} {o:aV} (h:aF) (m:M92 w p0=some o):
 aM prog 92 [.agg (aJ p0)] h (λr h'=>r= .agg (aJ o)/\h'=h):=by
 refine fQ 26 [.cell 2 62] Tryz.func92 rfl rfl rfl rfl ?_
 unfold M92 at m
 refine v (gZ rfl rfl λk2 K3=>ve λu=>bG (zS) u RG rfl rfl λk5 K6=>qk K6 rfl (v (vz [(10,some k2,.obj 62 (aJ p0))] mixed (λu=>⟨λ_=>aO 1 u rfl,trivial⟩) λu=>zF 0 rfl pX rfl (zF 1 rfl rK rfl (zL 2 0 (.agg (bI p0.Snap.Man)) rfl pW rfl rfl rfl ?_)))))
 obtain⟨y0,Y0,m⟩:=aD m
 refine zC 3 rfl (bV (aBO _ Y0) rfl UA rfl) (zF 4 rfl pX rfl (zF 5 rfl lJ rfl (zL 6 0 (.sl none 4 (map aN p0.Snap.Locs)) rfl fW rfl rfl rfl ?_)))
 obtain⟨y1,Y1,m⟩:=aD m
 refine zC 7 rfl (bV (NQ _ Y1) rfl EU rfl) (zF 8 rfl pX rfl (zF 9 rfl rK rfl (zE 10 rfl (aL 1 (aJ { p0 with Snap:={ p0.Snap with Man:=y0}}) u rfl rfl rfl rfl z7 rfl rfl λK0=>⟨⟨λe=>absurd e (by decide),trivial⟩, ?_⟩))))
 refine zF 11 rfl pX rfl (zF 12 rfl lJ rfl (zE 13 rfl (aL 1 (aJ { { p0 with Snap:={ p0.Snap with Man:=y0}} with Snap:={ { p0 with Snap:={ p0.Snap with Man:=y0}}.Snap with Locs:=y1}}) K0 rfl rfl rfl rfl pU rfl rfl λK1=>⟨⟨λe=>absurd e (by decide),trivial⟩, ?_⟩)))
 refine zX (qk (f:=MH 15 _ _ _ _ _ _ _ _ _ _ _ _ _) K1 rfl (v (v (vz [(8,some k2,.obj 62 (aJ { { p0 with Snap:={ p0.Snap with Man:=y0}} with Snap:={ { p0 with Snap:={ p0.Snap with Man:=y0}}.Snap with Locs:=y1}}))] mixed (λu=>⟨λ_=>aO 1 u rfl,trivial⟩) λu=>zF 0 rfl oP rfl (zL 1 0 (.sl none 35 (map aK ({ { p0 with Snap:={ p0.Snap with Man:=y0}} with Snap:={ { p0 with Snap:={ p0.Snap with Man:=y0}}.Snap with Locs:=y1}}.Chunks))) rfl fE rfl rfl rfl ?_)))))
 obtain⟨y2,Y2,m⟩:=aD m
 refine zC 2 rfl (bV (aG4 _ Y2) rfl NS rfl) (zC 3 rfl (fJ (.sc (.slice _ _ _)) rfl) (zF 4 rfl gW rfl (zL 5 0 (.sl none 37 (map aI ({ { p0 with Snap:={ p0.Snap with Man:=y0}} with Snap:={ { p0 with Snap:={ p0.Snap with Man:=y0}}.Snap with Locs:=y1}}.Items))) rfl mD rfl rfl rfl (zF 7 rfl oP rfl ?_))))
 obtain⟨z0,Z0,m⟩:=aD m
 refine zE 6 rfl (oM (c:=aI) Z0 lI rfl rfl u nofun rfl λtg0 t0 K2=>⟨⟨λ_=>aO 2 K2 rfl,trivial⟩, ?_⟩)
 refine zE 8 rfl (aL 2 (aJ { { { p0 with Snap:={ p0.Snap with Man:=y0}} with Snap:={ { p0 with Snap:={ p0.Snap with Man:=y0}}.Snap with Locs:=y1}} with Chunks:=y2}) K2 rfl rfl rfl rfl EH rfl rfl λK4=>⟨⟨λe=>absurd e (by decide),trivial⟩, ?_⟩)
 refine zF 9 rfl gW rfl (zE 10 rfl (aL 2 ([nZ ({ { { p0 with Snap:={ p0.Snap with Man:=y0}} with Snap:={ { p0 with Snap:={ p0.Snap with Man:=y0}}.Snap with Locs:=y1}} with Chunks:=y2}.Kind),nZ (({ { { p0 with Snap:={ p0.Snap with Man:=y0}} with Snap:={ { p0 with Snap:={ p0.Snap with Man:=y0}}.Snap with Locs:=y1}} with Chunks:=y2}.Snap).Seq),.sc (.string ((({ { { p0 with Snap:={ p0.Snap with Man:=y0}} with Snap:={ { p0 with Snap:={ p0.Snap with Man:=y0}}.Snap with Locs:=y1}} with Chunks:=y2}.Snap).Man).Name)),.sl none 3 (map bX ((({ { { p0 with Snap:={ p0.Snap with Man:=y0}} with Snap:={ { p0 with Snap:={ p0.Snap with Man:=y0}}.Snap with Locs:=y1}} with Chunks:=y2}.Snap).Man).Parts)),.sl none 4 (map aN (({ { { p0 with Snap:={ p0.Snap with Man:=y0}} with Snap:={ { p0 with Snap:={ p0.Snap with Man:=y0}}.Snap with Locs:=y1}} with Chunks:=y2}.Snap).Locs)),.sl none 35 (map aK ({ { { p0 with Snap:={ p0.Snap with Man:=y0}} with Snap:={ { p0 with Snap:={ p0.Snap with Man:=y0}}.Snap with Locs:=y1}} with Chunks:=y2}.Chunks)),nZ ({ { { p0 with Snap:={ p0.Snap with Man:=y0}} with Snap:={ { p0 with Snap:={ p0.Snap with Man:=y0}}.Snap with Locs:=y1}} with Chunks:=y2}.Seq),nZ ({ { { p0 with Snap:={ p0.Snap with Man:=y0}} with Snap:={ { p0 with Snap:={ p0.Snap with Man:=y0}}.Snap with Locs:=y1}} with Chunks:=y2}.Vol),ow tg0 37 (map aI z0)]) K4 rfl rfl (jN rfl) (pQ _ _ _) aFB rfl rfl λK5=>⟨⟨λe=>absurd e (by decide),trivial⟩, ?_⟩))
 refine zX (qk (f:=.c 24 _ (.c 22 _ (.c 23 _ (fq6 21 _ _ _ _ _ _ _)))) K5 rfl (v (vl 2 (.agg ([nZ ({ { { p0 with Snap:={ p0.Snap with Man:=y0}} with Snap:={ { p0 with Snap:={ p0.Snap with Man:=y0}}.Snap with Locs:=y1}} with Chunks:=y2}.Kind),nZ (({ { { p0 with Snap:={ p0.Snap with Man:=y0}} with Snap:={ { p0 with Snap:={ p0.Snap with Man:=y0}}.Snap with Locs:=y1}} with Chunks:=y2}.Snap).Seq),.sc (.string ((({ { { p0 with Snap:={ p0.Snap with Man:=y0}} with Snap:={ { p0 with Snap:={ p0.Snap with Man:=y0}}.Snap with Locs:=y1}} with Chunks:=y2}.Snap).Man).Name)),.sl none 3 (map bX ((({ { { p0 with Snap:={ p0.Snap with Man:=y0}} with Snap:={ { p0 with Snap:={ p0.Snap with Man:=y0}}.Snap with Locs:=y1}} with Chunks:=y2}.Snap).Man).Parts)),.sl none 4 (map aN (({ { { p0 with Snap:={ p0.Snap with Man:=y0}} with Snap:={ { p0 with Snap:={ p0.Snap with Man:=y0}}.Snap with Locs:=y1}} with Chunks:=y2}.Snap).Locs)),.sl none 35 (map aK ({ { { p0 with Snap:={ p0.Snap with Man:=y0}} with Snap:={ { p0 with Snap:={ p0.Snap with Man:=y0}}.Snap with Locs:=y1}} with Chunks:=y2}.Chunks)),nZ ({ { { p0 with Snap:={ p0.Snap with Man:=y0}} with Snap:={ { p0 with Snap:={ p0.Snap with Man:=y0}}.Snap with Locs:=y1}} with Chunks:=y2}.Seq),nZ ({ { { p0 with Snap:={ p0.Snap with Man:=y0}} with Snap:={ { p0 with Snap:={ p0.Snap with Man:=y0}}.Snap with Locs:=y1}} with Chunks:=y2}.Vol),ow tg0 37 (map aI z0)])) sS rfl rfl rfl ?_)))
 refine ve λu=>aL 1 ([nZ ({ { { p0 with Snap:={ p0.Snap with Man:=y0}} with Snap:={ { p0 with Snap:={ p0.Snap with Man:=y0}}.Snap with Locs:=y1}} with Chunks:=y2}.Kind),nZ (({ { { p0 with Snap:={ p0.Snap with Man:=y0}} with Snap:={ { p0 with Snap:={ p0.Snap with Man:=y0}}.Snap with Locs:=y1}} with Chunks:=y2}.Snap).Seq),.sc (.string ((({ { { p0 with Snap:={ p0.Snap with Man:=y0}} with Snap:={ { p0 with Snap:={ p0.Snap with Man:=y0}}.Snap with Locs:=y1}} with Chunks:=y2}.Snap).Man).Name)),.sl none 3 (map bX ((({ { { p0 with Snap:={ p0.Snap with Man:=y0}} with Snap:={ { p0 with Snap:={ p0.Snap with Man:=y0}}.Snap with Locs:=y1}} with Chunks:=y2}.Snap).Man).Parts)),.sl none 4 (map aN (({ { { p0 with Snap:={ p0.Snap with Man:=y0}} with Snap:={ { p0 with Snap:={ p0.Snap with Man:=y0}}.Snap with Locs:=y1}} with Chunks:=y2}.Snap).Locs)),.sl none 35 (map aK ({ { { p0 with Snap:={ p0.Snap with Man:=y0}} with Snap:={ { p0 with Snap:={ p0.Snap with Man:=y0}}.Snap with Locs:=y1}} with Chunks:=y2}.Chunks)),nZ ({ { { p0 with Snap:={ p0.Snap with Man:=y0}} with Snap:={ { p0 with Snap:={ p0.Snap with Man:=y0}}.Snap with Locs:=y1}} with Chunks:=y2}.Seq),nZ ({ { { p0 with Snap:={ p0.Snap with Man:=y0}} with Snap:={ { p0 with Snap:={ p0.Snap with Man:=y0}}.Snap with Locs:=y1}} with Chunks:=y2}.Vol),ow tg0 37 (map aI z0)]) u rfl rfl rfl (by repeat (first | exact rfl | refine cG (jO _ _ _) ?_ | refine cG (cC _ _ _) ?_ | refine cG (gK _ _ _ _) ?_ | refine cG rfl ?_)) yA rfl rfl λK7=>qk K7 rfl ?_
 refine v ?_
 cases m
 exact vr λu=>dW.of1 (.inl rfl) (sJ (.agg ([nZ ({ { { p0 with Snap:={ p0.Snap with Man:=y0}} with Snap:={ { p0 with Snap:={ p0.Snap with Man:=y0}}.Snap with Locs:=y1}} with Chunks:=y2}.Kind),nZ (({ { { p0 with Snap:={ p0.Snap with Man:=y0}} with Snap:={ { p0 with Snap:={ p0.Snap with Man:=y0}}.Snap with Locs:=y1}} with Chunks:=y2}.Snap).Seq),.sc (.string ((({ { { p0 with Snap:={ p0.Snap with Man:=y0}} with Snap:={ { p0 with Snap:={ p0.Snap with Man:=y0}}.Snap with Locs:=y1}} with Chunks:=y2}.Snap).Man).Name)),.sl none 3 (map bX ((({ { { p0 with Snap:={ p0.Snap with Man:=y0}} with Snap:={ { p0 with Snap:={ p0.Snap with Man:=y0}}.Snap with Locs:=y1}} with Chunks:=y2}.Snap).Man).Parts)),.sl none 4 (map aN (({ { { p0 with Snap:={ p0.Snap with Man:=y0}} with Snap:={ { p0 with Snap:={ p0.Snap with Man:=y0}}.Snap with Locs:=y1}} with Chunks:=y2}.Snap).Locs)),.sl none 35 (map aK ({ { { p0 with Snap:={ p0.Snap with Man:=y0}} with Snap:={ { p0 with Snap:={ p0.Snap with Man:=y0}}.Snap with Locs:=y1}} with Chunks:=y2}.Chunks)),nZ ({ { { p0 with Snap:={ p0.Snap with Man:=y0}} with Snap:={ { p0 with Snap:={ p0.Snap with Man:=y0}}.Snap with Locs:=y1}} with Chunks:=y2}.Seq),nZ ({ { { p0 with Snap:={ p0.Snap with Man:=y0}} with Snap:={ { p0 with Snap:={ p0.Snap with Man:=y0}}.Snap with Locs:=y1}} with Chunks:=y2}.Vol),ow tg0 37 (map aI z0)])) sS rfl (aW 1 u rfl) rfl) (aU (nil_sublist _) u).1 (bD.agg (.k8 (.cons ((dU _ 0 t0 u rfl)) .nil))) ⟨rfl,rfl⟩
theorem aH9:aP prog 92=true:=by kernel_rfl
def AF (m:Nat) (p0:aA) (p1:Int) (p2:Int) (p3:Int):Option (Bool):=
 after (if decide (0<=p1) then (if decide (p1 < (p0.Vols.length:Int)) then ((ix p0.Vols p1).bind λx0=>if (x0.State==p2)then Bk true else (ix p0.Vols p1).bind λx1=>Bk (x1.State==p3)) else Bk false) else Bk false:Option (Lp (Bool) (Bool))) λj0=>some j0
theorem WV {w:Nat} {p0:aA} {p1:Int} {p2:Int} {p3:Int} {o:Bool} (h:aF) {p0K:bT} {gS:dE} (ok_Snaps:bK gS 4 p0.Snaps.length) {gC:dE} (oC:bK gC 35 p0.Chunks.length) {gE:dE} (oE:bK gE 3 p0.Exps.length) {gV:dE} (oV:bK gV 4 p0.Vols.length) (K0:bP h (hC p0K p0 gS gC gE gV)) (m:AF w p0 p1 p2 p3=some o):
 aM prog 155 [.ptr p0K 0,nZ p1,nZ p2,nZ p3] (hp h (hC p0K p0 gS gC gE gV)) (λr h'=>bP h (hC p0K p0 gS gC gE gV)/\r= .sc (.bool o)/\h'=hp h (hC p0K p0 gS gC gE gV)):=by
 refine F1 K0 44 [.tmp 8] Tryz.func155 rfl rfl rfl rfl ?_
 unfold AF at m
 refine vs (v0 (vs (fO m (σ:=Bool) (λs=>(hC p0K p0 gS gC gE gV)) (λs=>.c 8 (.sc (.bool s)) .nil) (λx m=> ?_) ?_)))
 refine v0 ?_
 apply vi m<;>intro b0 m
 rw[b0]
 refine l4 rfl (dY jA rfl rfl (vl 0 (aZ gV) i9 rfl rfl rfl (bU (fK rF oV rfl) ?_)))
 apply vi m<;>intro b1 m
 rw[b1]
 refine l4 rfl (dY jA rfl rfl (vl 0 (aZ gV) i9 rfl rfl rfl ?_))
 obtain⟨x0,X0,m⟩:=aD m
 refine bU (dG X0 nA oV rfl rfl) (bU (cX (bK.ne oV X0) rI rfl rfl) (vn (λu=>eK (fo:=2) (nZ x0.State) X0 eW oV cB rfl (aO 4 u rfl) (λ_=>rfl)) ?_))
 apply vi m<;>intro b2 m
 rw[b2]
 exact n5 m
 rw[b2]
 refine l4 rfl (dY jA rfl rfl (vl 0 (aZ gV) i9 rfl rfl rfl ?_))
 obtain⟨x1,X1,m⟩:=aD m
 exact bU (dG X1 nA oV rfl rfl) (bU (cX (bK.ne oV X1) rI rfl rfl) (vn (λu=>eK (fo:=2) (nZ x1.State) X1 eW oV cB rfl (aO 4 u rfl) (λ_=>rfl)) (n5 m)))
 rw[b1]
 exact n5 m
 rw[b0]
 exact n5 m
 rintro _ j0 m
 refine v0 ?_
 obtain rfl:=eR m
 exact vr λu=>dW.of1 (.inl rfl) (gQ _ _ (.sc (.bool _)) rfl) (bQ u [0,1,2,3,4] rfl).2 (bD.refl _ _) ⟨(bQ u [0,1,2,3,4] rfl).1,rfl,rfl⟩
theorem OP:aP prog 155=true:=by kernel_rfl
def qE (m:Nat) (p0:List aB) (p1:aB) (q0:Int):Option (Lp (Int) ((List aB))):=
 after (if decide (q0 < (p0.length:Int)) then ((ix p0 q0).bind λx0=>(NG m x0.Id p1.Id).bind λy0=>Bk y0) else Bk false:Option (Lp (Bool) (Lp (Int) ((List aB))))) λj0=>if j0 then (Gk (wrap .i64 (q0+1))) else Bk q0
def FD (m:Nat) (p0:List aB) (p1:aB):Option ((List aB)):=
 after (aR (λs=>qE m p0 p1 s) m 0) λr0=>after (if decide (r0 < (p0.length:Int)) then ((ix p0 r0).bind λx0=>Bk (decide (x0.Id=p1.Id))) else Bk false:Option (Lp (Bool) ((List aB)))) λj0=>if j0 then ((BD m p0).bind λy0=>(vO m p1.Data).bind λy1=>(ix y0 r0).bind λx1=>(ix (y0.set r0.toNat ({ x1 with Staged:=true})) r0).bind λx2=>some ((y0.set r0.toNat ({ x1 with Staged:=true})).set r0.toNat ({ x2 with Data:=y1}))) else (slc p0 0 r0).bind λx3=>(app ([]:List aB) x3).bind λz0=>(app z0 ([p1]:List aB)).bind λz1=>(slc p0 r0 (p0).length).bind λx4=>(app z1 x4).bind λz2=>some z2
theorem aCR {w:Nat} {p0:List aB} {p1:aB} {o:(List aB)} (h:aF) (m:FD w p0 p1=some o):
 aM prog 153 [.sl none 35 (map aK p0),.agg (aK p1)] h (λr h'=>∃g:dE,bK g 35 o.length/\bP h [(g.t,.obj 44 (fl aK o g.sp))]/\r=aZ g/\h'=hp h [(g.t,.obj 44 (fl aK o g.sp))]):=by
 refine fQ 65 [.tmp 4] Tryz.func153 rfl rfl rfl rfl ?_
 unfold FD at m
 refine vs (v0 (gZ rfl rfl λk2 K3=>vs (v0 (vs (jS m (σ:=Int) (λs=>[(some k2,.obj 44 (aK p1))]) (λs=>.c 0 (.sl none 35 (map aK p0)) (.c 3 (.ptr k2 0) (.c 5 (nZ s) .nil))) (lx (.k3 .nil)) ?_ ?_)))))
 rintro _ q0 x m
 replace m:qE w p0 p1 q0=some x:=m
 unfold qE at m
 refine vs (vs (fO m (σ:=Bool) (λs=>[(some k2,.obj 44 (aK p1))]) (λs=>.c 0 (.sl none 35 (map aK p0)) (.c 3 (.ptr k2 0) (.c 5 (nZ q0) (.c 21 (.sc (.bool s)) .nil)))) (λx m=> ?_) ?_))
 refine v0 (CL (by kernel_rfl) (cU lH rfl ?_))
 apply vi m<;>intro b0 m
 rw[b0]
 exact vx m hX rfl rfl λx0 _ m=>bU (m9 rH rfl rfl) (va (.agg (bC x0.Id)) fA rfl rfl (dY rH rfl rfl (vl 0 (.agg (bC p1.Id)) fA rfl rfl rfl (vk aAZ T1 m rfl rfl λ_ m=>fZ m))))
 rw[b0]
 exact fZ m
 rintro _ j0 m
 refine v0 ?_
 apply vi m<;>intro c0 m
 exact v0 (v0 (v0 (hH m)))
 exact v0 (GT m)
 rintro _ r0 m
 refine vs (vs (fO m (σ:=Bool) (λs=>[(some k2,.obj 44 (aK p1))]) (λs=>.c 0 (.sl none 35 (map aK p0)) (.c 3 (.ptr k2 0) (.c 5 (nZ r0) (.c 37 (.sc (.bool s)) .nil)))) (λx m=> ?_) ?_))
 refine v0 (CL (by kernel_rfl) (cU lH rfl ?_))
 apply vi m<;>intro b1 m
 rw[b1]
 exact vx m hX rfl rfl λx1 _ m=>bU (m9 rH rfl rfl) (va (.agg (bC x1.Id)) fA rfl rfl (dY rH rfl rfl (vl 0 (.agg (bC p1.Id)) fA rfl rfl rfl (bU (AY EI TR u5 EE rfl rfl) (fZ m)))))
 rw[b1]
 exact fZ m
 rintro _ j1 m
 refine v0 ?_
 apply vi m<;>intro c1 m
 refine vs (v0 ?_)
 obtain⟨y0,Y0,m⟩:=aD m
 refine ve λu=>dO (UB _ Y0) rfl NS rfl ?_
 rintro x h' ⟨ag0,O0,K0,rfl,rfl⟩
 refine qk (bP.co u K0) (kU _ _ _) (vs (v0 (dY lY rfl rfl (vl 1 _ n6 rfl rfl rfl (vk NR EV m rfl rfl λy1 m=> ?_)))))
 obtain⟨x2,X0,m⟩:=aD m
 refine bU (dG X0 hX O0 rfl rfl) (bU (cX (bK.ne O0 X0) pV rfl rfl) (ve λu=>cY (fo:=32) ({ x2 with Staged:=true}:aB) 0 u X0 cZ O0 rfl rfl rfl rfl (cS.refl _ _) ZY rfl rfl λK1=>qk K1 rfl ?_))
 obtain⟨x3,X1,m⟩:=aD m
 refine bU (dG X1 hX (bK.set O0) rfl rfl) (bU (cX (bK.ne (bK.set O0) X1) lY rfl rfl) (ve λu=>cY (fo:=33) ({ x3 with Data:=y1}:aB) 0 u X1 cZ (bK.set O0) rfl rfl rfl rfl (cS.refl _ _) EJ rfl rfl λK2=>qk K2 rfl (vs (v0 (v0 ?_)))))
 cases m
 exact vr λu=>dW.one (.inl rfl) (aU (h0:=h) (L':=[(dA ag0 ((y0.set r0.toNat ({ x2 with Staged:=true})).set r0.toNat ({ x3 with Data:=y1})))]) (.cons_cons _ (.cons _ (.refl _))) u).1 (bD.refl _ _) ⟨ag0,(bK.set (bK.set O0)),(aU (h0:=h) (L':=[(dA ag0 ((y0.set r0.toNat ({ x2 with Staged:=true})).set r0.toNat ({ x3 with Data:=y1})))]) (.cons_cons _ (.cons _ (.refl _))) u).2,rfl,rfl⟩
 refine v0 (vs (v0 (vs (v0 (vz [(1000000,some k2,.obj 44 (aK p1))] mixed (λu=>⟨λ_=>aO 0 u rfl,trivial⟩) λu=>zC 0 rfl (fJ (.sc (.slice _ _ _)) rfl) (zC 1 rfl (fJ (.sl _ _ _) rfl) (zI 2 rfl rfl ?_)))))))
 obtain⟨_,X2,m⟩:=aD m
 refine zC 3 rfl (n3 X2 hX rfl rfl rfl rfl) (zL 5 0 (.agg (aK p1)) rfl pH rfl rfl rfl (zC 6 rfl (dX (map aK ([p1]:List aB)) pE rfl rfl rfl rfl) ?_))
 obtain⟨z0,Z0,m⟩:=aD m
 refine zE 4 rfl (B8 (c:=aK) Z0 pE rfl qP rfl cZ rfl u rfl λag1 O1 K4=>⟨⟨λ_=>aO 1 K4 rfl,trivial⟩, ?_⟩)
 obtain⟨z1,Z1,m⟩:=aD m
 refine zE 7 rfl (gG (c:=aK) 0 Z1 pE rfl qP rfl cZ rfl rfl O1 K4 rfl λag2 O2 K5=>⟨⟨λ_=>aO 1 K5 rfl,trivial⟩, ?_⟩)
 refine zC 8 rfl (iC (aw _ _ _) rfl) (zX (qk (f:=.c 7 _ (.c 59 _ (.c 56 _ (.c 58 _ (.c 57 _ (TP 55 _ _ _ _ _)))))) K5 rfl (vs (v0 ?_))))
 obtain⟨_,X3,m⟩:=aD m
 refine bU (n3 X3 hX rfl rfl rfl rfl) ?_
 obtain⟨z2,Z2,m⟩:=aD m
 refine ve λu=>gG (c:=aK) 0 Z2 pE rfl qP rfl cZ rfl rfl O2 u rfl λag3 O3 K6=>qk K6 rfl (v0 ?_)
 obtain rfl:=eR m
 exact vr λu=>dW.one (.inl rfl) (aU (h0:=h) (L':=[(dA ag3 z2)]) (.cons_cons _ (.cons _ (.refl _))) u).1 (bD.refl _ _) ⟨ag3,O3,(aU (h0:=h) (L':=[(dA ag3 z2)]) (.cons_cons _ (.cons _ (.refl _))) u).2,rfl,rfl⟩
theorem aCS:aP prog 153=true:=by kernel_rfl
theorem aIA {F:Nat} {c:aA} (hF:1000<=F) (h:Sm c):SC F c=some c:=by
 rw[<- m14 (F:=F) hF h]
 rfl
theorem wru {n:Nat} (h:n < 1000000000):wrap .u64 (n:Int)=n:=by
 have e:wrap .u64 (n:Int)=(n:Int) % 18446744073709551616:=rfl
 rw[e]; omega
theorem OQ (p:Int):0<=wrap .u64 p:=by
 have e:wrap .u64 p=p % 18446744073709551616:=rfl
 rw[e]; omega
theorem WW (p:Int) {n:Nat} (h0:0 < n) (hn:n < 1000000000):∃j:Nat,j < n/\wrap .i64 ((wrap .u64 p).tmod (n:Int))=(j:Int):=by
 have h1:=OQ p
 generalize wrap .u64 p=a at h1
 rw[Int.tmod_eq_emod_of_nonneg h1]
 have h2:0<=a % (n:Int):=Int.emod_nonneg _ (by omega)
 have h3:a % (n:Int) < n:=Int.emod_lt_of_pos _ (by omega)
 refine⟨(a % (n:Int)).toNat,by omega, ?_⟩
 rw[wr (by omega) (by omega)]
 omega
def uF (m:Nat) (p0:aA) (p1:Int) (q0:List aH) (q1:Int):Option (Lp ((List aH)×Int) (Bool×(List aH)×(List aB))):=
 if decide (q1 < (p0.Snaps.length:Int)) then ((ix p0.Snaps q1).bind λx0=>after (if (x0.Seq !=p1)then ((ix p0.Snaps q1).bind λx1=>(app q0 ([x1]:List aH)).bind λz0=>Bk z0) else Bk q0:Option (Lp ((List aH)) (Lp ((List aH)×Int) (Bool×(List aH)×(List aB))))) λj0=>Gk (j0,wrap .i64 (q1+1))) else Bk (q0,q1)
def uG (m:Nat) (p0:aA) (r0:List aH) (q0:List aB) (q1:Int):Option (Lp ((List aB)×Int) (Bool×(List aH)×(List aB))):=
 if decide (q1 < (p0.Chunks.length:Int)) then (after ((ix p0.Chunks q1).bind λx0=>(WF m ({ Seq:=p0.Seq,Snaps:=r0,Chunks:=p0.Chunks,Exps:=p0.Exps,Vols:=p0.Vols}:aA) x0.Id).bind λy0=>after (if (!y0)then (if ((({ { x0 with Staged:=false} with Data:=([]:List Int)}.Locs).length:Int)==0)then (Rk (.brk q0)) else Bk { { x0 with Staged:=false} with Data:=([]:List Int)}) else Bk x0:Option (Lp (aB) (Lp ((List aB)) (Lp ((List aB)×Int) (Bool×(List aH)×(List aB)))))) λj0=>(app q0 ([j0]:List aB)).bind λz0=>Bk z0:Option (Lp ((List aB)) (Lp ((List aB)×Int) (Bool×(List aH)×(List aB))))) λj1=>Gk (j1,wrap .i64 (q1+1))) else Bk (q0,q1)
def CZ (m:Nat) (p0:aA) (p1:Int):Option (Bool×(List aH)×(List aB)):=
 after (aR (λs=>uF m p0 p1 s.1 s.2) m ([],0)) λ⟨r0,r1⟩=>if ((r0.length:Int)==(p0.Snaps.length:Int))then (some (false,p0.Snaps,p0.Chunks)) else after (aR (λs=>uG m p0 r0 s.1 s.2) m ([],0)) λ⟨r2,r3⟩=>some (true,r0,r2)
theorem aCU {w:Nat} {p0:aA} {p1:Int} {o:Bool×(List aH)×(List aB)} (h:aF) {p0K:bT} {gS:dE} (ok_Snaps:bK gS 4 p0.Snaps.length) {gC:dE} (oC:bK gC 35 p0.Chunks.length) {gE:dE} (oE:bK gE 3 p0.Exps.length) {gV:dE} (oV:bK gV 4 p0.Vols.length) (K0:bP h (hC p0K p0 gS gC gE gV)) (m:CZ w p0 p1=some o):
 aM prog 154 [.ptr p0K 0,nZ p1] (hp h (hC p0K p0 gS gC gE gV)) (λr h'=>∃g_Snaps':dE,bK g_Snaps' 4 (o.2.1:List aH).length/\∃g_Chunks':dE,bK g_Chunks' 35 (o.2.2:List aB).length/\bP h (hL p0K p0.Seq g_Snaps' g_Chunks' gE gV o.2.1 o.2.2 p0.Exps p0.Vols)/\r= .sc (.bool o.1)/\h'=hp h (hL p0K p0.Seq g_Snaps' g_Chunks' gE gV o.2.1 o.2.2 p0.Exps p0.Vols)):=by
 refine F1 K0 88 [.tmp 4] Tryz.func154 rfl rfl rfl rfl ?_
 unfold CZ at m
 refine vs (v0 (vs (v0 (vs (vs (v0 (pM (z6 (.obj 60 (fl bJ ([]:List aH) g0.sp)) 5 (aZ g0) (fT _)) (nU m (σ:=(List aH)×Int) (τ:=dE) (λg s=>((dF g s.1)::(hC p0K p0 gS gC gE gV))) (λg s=>bK g 4 (s.1:List aH).length) (λg s=>.c 0 (.ptr p0K 0) (.c 1 (nZ p1) (.c 5 (aZ g) (.c 6 (nZ s.2) .nil)))) g0 (bK.g0 4) (lx (.k4 .nil)) ?_ ?_))))))))
 rintro ag0 ⟨q0,q1⟩ x O0 m
 replace m:uF w p0 p1 q0 q1=some x:=m
 unfold uF at m
 refine vs (vs (v0 (l4 rfl (dY eM rfl rfl (vl 1 (aZ gS) fD rfl rfl rfl (bU (fK lA ok_Snaps rfl) (v0 ?_)))))))
 apply vi m<;>intro c0 m
 refine v0 (vs (v0 (vs (v0 (l4 rfl (dY eM rfl rfl (vl 1 (aZ gS) fD rfl rfl rfl ?_)))))))
 obtain⟨x0,X0,m⟩:=aD m
 refine bU (dG X0 iW ok_Snaps rfl rfl) (bU (cX (bK.ne ok_Snaps X0) CF rfl rfl) (vn (λu=>eK (fo:=0) (nZ x0.Seq) X0 eP ok_Snaps cB rfl (aO 2 u rfl) (λ_=>rfl)) (oI m (σ:=(List aH)) (τ:=dE) (λg s=>((dF g s)::(hC p0K p0 gS gC gE gV))) (λg s=>bK g 4 (s:List aH).length) (λg s=>.c 0 (.ptr p0K 0) (.c 1 (nZ p1) (.c 5 (aZ g) (.c 6 (nZ q1) .nil)))) (λx m=> ?_) ?_)))
 refine v0 ?_
 apply vi m<;>intro c1 m
 refine v0 (l4 rfl (dY eM rfl rfl (vl 1 (aZ gS) fD rfl rfl rfl ?_)))
 obtain⟨x1,X1,m⟩:=aD m
 refine bU (dG X1 iW ok_Snaps rfl rfl) (vn (λu=>eK (fo:=0) (.agg (bJ x1)) X1 eP ok_Snaps sR rfl (aO 2 u rfl) (λ_=>rfl)) (bU (dX (map bJ ([x1]:List aH)) EG rfl rfl rfl rfl) ?_))
 obtain⟨z0,Z0,m⟩:=aD m
 exact ve λu=>gG (c:=bJ) 0 Z0 EG rfl xZ rfl eP rfl rfl O0 u rfl λag1 O1 K1=>qk K1 rfl (eG m ag1 O1 (lx (.k4 .nil)))
 exact v0 (eG m ag0 O0 (lx (.k4 .nil)))
 rintro ag2 j0 O2 m
 exact v0 (eG m ag2 O2 (lx (.k4 .nil)))
 exact v0 (lR m ag0 O0 (lx (.k4 .nil)))
 rintro ag3 ⟨r0,r1⟩ t0 m
 refine vs (vs (v0 (bU (fK lA t0 rfl) (l4 rfl (dY eM rfl rfl (vl 1 (aZ gS) fD rfl rfl rfl (bU (fK lA ok_Snaps rfl) (v0 ?_))))))))
 apply vi m<;>intro c2 m
 refine vs (v0 (v0 ?_))
 cases m
 exact vr λu=>dW.of1 (.inl rfl) (gQ _ _ (.sc (.bool _)) rfl) (bQ u [1,2,3,4,5] rfl).2 (bD.refl _ _) ⟨gS,ok_Snaps,gC,oC,(bQ u [1,2,3,4,5] rfl).1,rfl,rfl⟩
 refine v0 (vs (v0 (l4 rfl (dY eM rfl rfl (ve λu=>aL 1 ([nZ p0.Seq,aZ ag3,aZ gC,aZ gE,aZ gV]) u rfl rfl (cM rfl) (cG (cC _ _ _) rfl) MM rfl rfl λK2=>qk K2 rfl (vs (v0 (vs (vs (v0 (pM (z6 (.obj 44 (fl aK ([]:List aB) g0.sp)) 7 (aZ g0) (fT _)) (nU m (σ:=(List aB)×Int) (τ:=dE) (λg s=>[(dA g s.1),(dF ag3 r0),(hO p0K p0.Seq ag3 gC gE gV),(dF gS p0.Snaps),(dA gC p0.Chunks),(jX gE p0.Exps),(lK gV p0.Vols)]) (λg s=>bK g 35 (s.1:List aB).length) (λg s=>.c 0 (.ptr p0K 0) (.c 7 (aZ g) (.c 8 (nZ s.2) .nil))) g0 (bK.g0 35) (lx (.k3 .nil)) ?_ ?_))))))))))))
 rintro ag4 ⟨q2,q3⟩ x O3 m
 replace m:uG w p0 r0 q2 q3=some x:=m
 unfold uG at m
 refine vs (vs (v0 (l4 rfl (dY fF rfl rfl (vl 2 (aZ gC) fE rfl rfl rfl (bU (fK lH oC rfl) (v0 ?_)))))))
 apply vi m<;>intro c3 m
 refine v0 (vs (oI m (σ:=(List aB)) (τ:=dE) (λg s=>[(dA g s),(dF ag3 r0),(hO p0K p0.Seq ag3 gC gE gV),(dF gS p0.Snaps),(dA gC p0.Chunks),(jX gE p0.Exps),(lK gV p0.Vols)]) (λg s=>bK g 35 (s:List aB).length) (λg s=>.c 0 (.ptr p0K 0) (.c 7 (aZ g) (.c 8 (nZ q3) .nil))) (λx m=> ?_) ?_))
 refine v0 (vs (v0 (l4 rfl (dY fF rfl rfl (vl 2 (aZ gC) fE rfl rfl rfl ?_)))))
 obtain⟨x2,X2,m⟩:=aD m
 refine bU (dG X2 hX oC rfl rfl) (vn (λu=>eK (fo:=0) (.agg (aK x2)) X2 cZ oC pH rfl (aO 4 u rfl) (λ_=>rfl)) (ve λu=>bG (bC gY++(TE:List AV)) u qP rfl rfl λk465 K3=>qk K3 rfl (ve λu=>aL 0 (aK x2) u rfl rfl rfl rfl EK rfl rfl λK4=>qk K4 rfl (vs (vs (v0 (CL (by kernel_rfl) (l4 rfl (vl 3 (.agg ([nZ p0.Seq,aZ ag3,aZ gC,aZ gE,aZ gV])) dC rfl rfl rfl (dY rH rfl rfl (vl 0 (.agg (bC x2.Id)) fA rfl rfl rfl ?_)))))))))))
 obtain⟨_,Y0,m⟩:=aD m
 refine vn (λu=>bV (fN (.cons (Br.agg (.cons (Br.refl _ _) (.cons (Br.aw 2 eP t0 u rfl) (.cons (Br.aw 5 cZ oC u rfl) (.cons (Br.aw 6 gH oE u rfl) (.cons (Br.aw 7 eW oV u rfl) .nil)))))) (.cons (Br.refl _ _) .nil)) rfl (W38 _ Y0)) rfl WG rfl) (fO m (σ:=aB) (λs=>[(some k465,.obj 44 (aK s)),(dA ag4 q2),(dF ag3 r0),(hO p0K p0.Seq ag3 gC gE gV),(dF gS p0.Snaps),(dA gC p0.Chunks),(jX gE p0.Exps),(lK gV p0.Vols)]) (λs=>.c 0 (.ptr p0K 0) (.c 7 (aZ ag4) (.c 8 (nZ q3) (.c 9 (.ptr k465 0) .nil)))) (λx m=> ?_) ?_)
 refine v0 ?_
 apply vi m<;>intro c4 m
 refine vs (v0 (dY pV rfl rfl (ve λu=>aL 0 (aK { x2 with Staged:=false}) u rfl rfl rfl rfl ZY rfl rfl λK5=>qk K5 rfl (dY lY rfl rfl (ve λu=>xQ 0 (aK { { x2 with Staged:=false} with Data:=([]:List Int)}) u rfl rfl rfl rfl (.cons (a9 _) .nil) EJ rfl rfl λK6=>qk K6 rfl (vs (v0 (dY jW rfl rfl (vl 0 _ fW rfl rfl rfl (cU kB rfl (v0 ?_)))))))))))
 apply vi m<;>intro c5 m
 exact v0 (vxt m rfl λm=>eG m ag4 O3 (mK [1,2,3,4,5,6,7] rfl rfl (.k3 .nil)))
 exact v0 (fZ m)
 exact v0 (fZ m)
 rintro _ j1 m
 refine v0 (vl 0 (.agg (aK j1)) pH rfl rfl rfl (bU (dX (map aK ([j1]:List aB)) pE rfl rfl rfl rfl) ?_))
 obtain⟨z1,Z1,m⟩:=aD m
 exact ve λu=>gG (c:=aK) 1 Z1 pE rfl qP rfl cZ rfl rfl O3 u rfl λag5 O4 K7=>qk K7 rfl (eG m ag5 O4 (mK [1,2,3,4,5,6,7] rfl rfl (.k3 .nil)))
 rintro ag6 j2 O5 m
 exact v0 (eG m ag6 O5 (lx (.k3 .nil)))
 exact v0 (lR m ag4 O3 (lx (.k3 .nil)))
 rintro ag7 ⟨r2,r3⟩ t1 m
 refine vs (v0 (l4 rfl (dY fF rfl rfl (ve λu=>aL 2 ([nZ p0.Seq,aZ ag3,aZ ag7,aZ gE,aZ gV]) u rfl rfl (cM rfl) (cG (cC _ _ _) rfl) EH rfl rfl λK8=>qk K8 rfl (vs (v0 (v0 ?_)))))))
 cases m
 exact vr λu=>dW.of1 (.inl rfl) (gQ _ _ (.sc (.bool _)) rfl) (bQ u [2,1,0,5,6] rfl).2 (bD.refl _ _) ⟨ag3,t0,ag7,t1,(bQ u [2,1,0,5,6] rfl).1,rfl,rfl⟩
theorem UC:aP prog 154=true:=by kernel_rfl
def mH (m:Nat) (p0:aA) (p1:aE) (p2:aS) (q0:Int):Option (Lp (Int) (Lp (Int×(List aB)×(List aT)) (Bool×Int×A5))):=
 if decide (q0 < (p0.Snaps.length:Int)) then ((ix p0.Snaps q0).bind λx0=>if (x0.Seq==p1.Seq)then ((ix p0.Snaps q0).bind λx1=>(HG m x1.Locs p2).bind λy0=>(ix p0.Snaps q0).bind λx2=>Rk (.ret (true,p0.Seq,p0.Snaps.set q0.toNat ({ x2 with Locs:=y0}),p0.Chunks,p0.Exps))) else Gk (wrap .i64 (q0+1))) else Bk q0
def uH (m:Nat) (p0:aA) (p1:aE) (q0:Int):Option (Lp (Int) (Lp (Int×(List aB)×(List aT)) (Bool×Int×A5))):=
 after (if decide (q0 < (p0.Exps.length:Int)) then ((ix p0.Exps q0).bind λx0=>Bk (decide (x0.Seq < p1.Seq))) else Bk false:Option (Lp (Bool) (Lp (Int) (Lp (Int×(List aB)×(List aT)) (Bool×Int×A5))))) λj0=>if j0 then (Gk (wrap .i64 (q0+1))) else Bk q0
def HI (m:Nat) (p0:aA) (p1:aE) (p2:aS):Option (Bool×Int×A5):=
 after (if (p1.Kind==1)then ((LI m ({ Seq:=p0.Seq,Snaps:=p0.Snaps,Chunks:=p0.Chunks,Exps:=p0.Exps,Vols:=p0.Vols}:aA) p1.Id).bind λy0=>if decide (y0 < 0) then (Rk (false,p0.Seq,p0.Snaps,p0.Chunks,p0.Exps)) else (ix p0.Chunks y0).bind λx0=>(HG m x0.Locs p2).bind λy1=>(ix p0.Chunks y0).bind λx1=>Bk (p0.Seq,p0.Chunks.set y0.toNat ({ x1 with Locs:=y1}),p0.Exps)) else if (p1.Kind==2)then (after (aR (λs=>mH m p0 p1 p2 s) m 0) λr0=>Rk (false,p0.Seq,p0.Snaps,p0.Chunks,p0.Exps)) else after (aR (λs=>uH m p0 p1 s) m 0) λr1=>after (if decide (r1 < (p0.Exps.length:Int)) then ((ix p0.Exps r1).bind λx2=>Bk (x2.Seq==p1.Seq)) else Bk false:Option (Lp (Bool) (Lp (Int×(List aB)×(List aT)) (Bool×Int×A5)))) λj0=>if j0 then ((ix p0.Exps r1).bind λx3=>(HG m x3.Locs p2).bind λy2=>(ix p0.Exps r1).bind λx4=>Rk (true,p0.Seq,p0.Snaps,p0.Chunks,p0.Exps.set r1.toNat ({ x4 with Locs:=y2}))) else (slc p0.Exps 0 r1).bind λx5=>(app ([]:List aT) x5).bind λz0=>(app z0 ([({ Seq:=p1.Seq,Of:=p1.Of,Locs:=([p2]:List aS)}:aT)]:List aT)).bind λz1=>(slc p0.Exps r1 (p0.Exps).length).bind λx6=>(app z1 x6).bind λz2=>after (if decide (p0.Seq<=p1.Seq) then (Bk (decide (p1.Seq < 4611686018427387904))) else Bk false:Option (Lp (Bool) (Lp (Int×(List aB)×(List aT)) (Bool×Int×A5)))) λj1=>after (if j1 then (Bk (wrap .i64 (p1.Seq+1))) else Bk p0.Seq:Option (Lp (Int) (Lp (Int×(List aB)×(List aT)) (Bool×Int×A5)))) λj2=>Bk (j2,p0.Chunks,z2):Option (Lp (Int×(List aB)×(List aT)) (Bool×Int×A5))) λ⟨j3,j4,j5⟩=>some (true,j3,p0.Snaps,j4,j5)
theorem aIB {w:Nat} {p0:aA} {p1:aE} {p2:aS} {o:Bool×Int×A5} (h:aF) {p0K:bT} {gS:dE} (ok_Snaps:bK gS 4 p0.Snaps.length) {gC:dE} (oC:bK gC 35 p0.Chunks.length) {gE:dE} (oE:bK gE 3 p0.Exps.length) {gV:dE} (oV:bK gV 4 p0.Vols.length) (K0:bP h (hC p0K p0 gS gC gE gV)) (m:HI w p0 p1 p2=some o):
 aM prog 156 [.ptr p0K 0,.agg (aI p1),.agg (aN p2)] (hp h (hC p0K p0 gS gC gE gV)) (λr h'=>∃g_Snaps':dE,bK g_Snaps' 4 (o.2.2.1:List aH).length/\∃g_Chunks':dE,bK g_Chunks' 35 (o.2.2.2.1:List aB).length/\∃g_Exps':dE,bK g_Exps' 3 (o.2.2.2.2:List aT).length/\bP h (hL p0K o.2.1 g_Snaps' g_Chunks' g_Exps' gV o.2.2.1 o.2.2.2.1 o.2.2.2.2 p0.Vols)/\r= .sc (.bool o.1)/\h'=hp h (hL p0K o.2.1 g_Snaps' g_Chunks' g_Exps' gV o.2.2.1 o.2.2.2.1 o.2.2.2.2 p0.Vols)):=by
 refine F1 K0 184 [.tmp 6] Tryz.func156 rfl rfl rfl rfl ?_
 unfold HI at m
 refine vs (v0 (gZ rfl rfl λk2 K3=>gZ rfl rfl λk5 K6=>vs (vs (v0 (dY mY rfl rfl (vl 1 _ cB rfl rfl rfl (v0 (vs (v0 (oI m (σ:=Int×(List aB)×(List aT)) (τ:=dE×dE) (λg s=>((some k5,.obj 81 (aN p2))::(some k2,.obj 38 (aI p1))::(hL p0K s.1 gS g.1 g.2 gV p0.Snaps s.2.1 s.2.2 p0.Vols))) (λg s=>bK g.1 35 (s.2.1:List aB).length/\bK g.2 3 (s.2.2:List aT).length) (λg s=>.nil) (λx m=> ?_) ?_))))))))))
 refine v0 ?_
 apply vi m<;>intro c0 m
 refine vs (v0 (CL (by kernel_rfl) (l4 rfl (vl 2 (.agg ([nZ p0.Seq,aZ gS,aZ gC,aZ gE,aZ gV])) dC rfl rfl rfl (dY xU rfl rfl (vl 1 (.agg (bC p1.Id)) fA rfl rfl rfl ?_))))))
 obtain⟨_,Y0,m⟩:=aD m
 refine vn (λu=>bV (fN (.cons (Br.agg (.cons (Br.refl _ _) (.cons (Br.aw 3 eP ok_Snaps u rfl) (.cons (Br.aw 4 cZ oC u rfl) (.cons (Br.aw 5 gH oE u rfl) (.cons (Br.aw 6 eW oV u rfl) .nil)))))) (.cons (Br.refl _ _) .nil)) rfl (W88 _ Y0)) rfl RM rfl) (vs (vs (v0 (v0 ?_))))
 apply vi m<;>intro c1 m
 refine vs (v0 (v0 (fY m λm=> ?_)))
 cases m
 exact vr λu=>dW.of1 (.inl rfl) (gQ _ _ (.sc (.bool _)) rfl) (bQ u [2,3,4,5,6] rfl).2 (bD.refl _ _) ⟨gS,ok_Snaps,gC,oC,gE,oE,(bQ u [2,3,4,5,6] rfl).1,rfl,rfl⟩
 refine v0 (v0 (vz [(1000000,some p0K,.obj 30 ([nZ p0.Seq,aZ gS,aZ gC,aZ gE,aZ gV])),(17,gC.t,.obj 44 (fl aK (p0.Chunks:List aB) gC.sp)),(1000000,some k5,.obj 81 (aN p2))] mixed (λu=>⟨λ_=>aO 2 u rfl,λ_=>aO 4 u rfl,λ_=>aO 0 u rfl,trivial⟩) λu=>zP 0 rfl rfl (zN 1 rfl rfl (zF 2 rfl fF rfl (zL 3 0 (aZ gC) rfl fE rfl rfl rfl (zI 4 rfl rfl (zP 5 rfl rfl (zN 6 rfl rfl (zF 7 rfl fF rfl (zL 8 0 (aZ gC) rfl fE rfl rfl rfl (zI 9 rfl rfl ?_)))))))))))
 obtain⟨x0,X0,m⟩:=aD m
 refine zC 10 rfl (dG X0 hX oC rfl rfl) (zC 11 rfl (cX (bK.ne oC X0) jW rfl rfl) (z5 12 rfl (λ_ _ hi hB=>eK (fo:=34) (.sl none 4 (map aN x0.Locs)) X0 cZ oC fW rfl (fV.get 1 hi rfl (hB 17 (by kernel_rfl))) (λ_=>rfl)) (zL 13 2 (.agg (aN p2)) rfl nD rfl rfl rfl ?_)))
 obtain⟨y0,Y1,m⟩:=aD m
 refine zC 14 rfl (bV (WT _ Y1) rfl ON rfl) ?_
 obtain⟨x1,X1,m⟩:=aD m
 refine zC 15 rfl (dG X1 hX oC rfl rfl) (zC 16 rfl (cX (bK.ne oC X1) jW rfl rfl) (zE 17 rfl (cY (fo:=34) ({ x1 with Locs:=y0}:aB) 4 u X1 cZ oC rfl rfl rfl rfl (cS.refl _ _) pU rfl rfl λK1=>⟨⟨λ_=>aO 2 K1 rfl,λe=>absurd e (by decide),λ_=>aO 0 K1 rfl,trivial⟩, ?_⟩)))
 exact zX (qk (f:=GQ 144 _ _ _ _ _ _ _ _ _ _ _ _ _ _ _ _ _ _) K1 rfl (eG m (gC,gE) ⟨(bK.set oC),oE⟩ (lx .nil)))
 refine vs (v0 (v0 ?_))
 apply vi m<;>intro c2 m
 refine vs (vs (v0 (jS m (σ:=Int) (λs=>((some k5,.obj 81 (aN p2))::(some k2,.obj 38 (aI p1))::(hC p0K p0 gS gC gE gV))) (λs=>.c 0 (.ptr p0K 0) (.c 4 (.ptr k2 0) (.c 5 (.ptr k5 0) (.c 8 (nZ s) .nil)))) (lx (.k4 .nil)) ?_ ?_)))
 rintro _ q0 x m
 replace m:mH w p0 p1 p2 q0=some x:=m
 unfold mH at m
 refine vs (vs (v0 (l4 rfl (dY eM rfl rfl (vl 2 (aZ gS) fD rfl rfl rfl (bU (fK lA ok_Snaps rfl) (v0 ?_)))))))
 apply vi m<;>intro c3 m
 refine v0 (vs (v0 (vs (v0 (CL (by kernel_rfl) (l4 rfl (dY eM rfl rfl (vl 2 (aZ gS) fD rfl rfl rfl ?_))))))))
 obtain⟨x2,X2,m⟩:=aD m
 refine bU (dG X2 iW ok_Snaps rfl rfl) (bU (cX (bK.ne ok_Snaps X2) CF rfl rfl) (vn (λu=>eK (fo:=0) (nZ x2.Seq) X2 eP ok_Snaps cB rfl (aO 3 u rfl) (λ_=>rfl)) (dY lX rfl rfl (vl 1 _ cB rfl rfl rfl (v0 ?_)))))
 apply vi m<;>intro c4 m
 refine vs (v0 (vz [(1000000,some p0K,.obj 30 ([nZ p0.Seq,aZ gS,aZ gC,aZ gE,aZ gV])),(17,gS.t,.obj 60 (fl bJ (p0.Snaps:List aH) gS.sp)),(1000000,some k5,.obj 81 (aN p2))] mixed (λu=>⟨λ_=>aO 2 u rfl,λ_=>aO 3 u rfl,λ_=>aO 0 u rfl,trivial⟩) λu=>zP 0 rfl rfl (zN 1 rfl rfl (zF 2 rfl eM rfl (zL 3 0 (aZ gS) rfl fD rfl rfl rfl (zI 4 rfl rfl (zP 5 rfl rfl (zN 6 rfl rfl (zF 7 rfl eM rfl (zL 8 0 (aZ gS) rfl fD rfl rfl rfl (zI 9 rfl rfl ?_)))))))))))
 obtain⟨x3,X3,m⟩:=aD m
 refine zC 10 rfl (dG X3 iW ok_Snaps rfl rfl) (zC 11 rfl (cX (bK.ne ok_Snaps X3) lJ rfl rfl) (z5 12 rfl (λ_ _ hi hB=>eK (fo:=3) (.sl none 4 (map aN x3.Locs)) X3 eP ok_Snaps fW rfl (fV.get 1 hi rfl (hB 17 (by kernel_rfl))) (λ_=>rfl)) (zL 13 2 (.agg (aN p2)) rfl nD rfl rfl rfl ?_)))
 obtain⟨y1,Y2,m⟩:=aD m
 refine zC 14 rfl (bV (WT _ Y2) rfl ON rfl) ?_
 obtain⟨x4,X4,m⟩:=aD m
 refine zC 15 rfl (dG X4 iW ok_Snaps rfl rfl) (zC 16 rfl (cX (bK.ne ok_Snaps X4) lJ rfl rfl) (zE 17 rfl (cY (fo:=3) ({ x4 with Locs:=y1}:aH) 3 u X4 eP ok_Snaps rfl rfl rfl rfl (cS.refl _ _) pU rfl rfl λK2=>⟨⟨λ_=>aO 2 K2 rfl,λe=>absurd e (by decide),λ_=>aO 0 K2 rfl,trivial⟩, ?_⟩)))
 refine zX (qk (f:=GQ 183 _ _ _ _ _ _ _ _ _ _ _ _ _ _ _ _ _ _) K2 rfl (vs (v0 (v0 (fY m λm=>fY m λm=> ?_)))))
 cases m
 exact vr λu=>dW.of1 (.inl rfl) (gQ _ _ (.sc (.bool _)) rfl) (bQ u [2,3,4,5,6] rfl).2 (bD.refl _ _) ⟨gS,(bK.set ok_Snaps),gC,oC,gE,oE,(bQ u [2,3,4,5,6] rfl).1,rfl,rfl⟩
 exact v0 (v0 (fZ m))
 exact v0 (vB m)
 rintro _ r0 m
 refine vs (v0 (v0 (fY m λm=> ?_)))
 cases m
 exact vr λu=>dW.of1 (.inl rfl) (gQ _ _ (.sc (.bool _)) rfl) (bQ u [2,3,4,5,6] rfl).2 (bD.refl _ _) ⟨gS,ok_Snaps,gC,oC,gE,oE,(bQ u [2,3,4,5,6] rfl).1,rfl,rfl⟩
 refine vs (v0 (vs (jS m (σ:=Int) (λs=>((some k5,.obj 81 (aN p2))::(some k2,.obj 38 (aI p1))::(hC p0K p0 gS gC gE gV))) (λs=>.c 0 (.ptr p0K 0) (.c 4 (.ptr k2 0) (.c 5 (.ptr k5 0) (.c 9 (nZ s) .nil)))) (lx (.k4 .nil)) ?_ ?_)))
 rintro _ q1 x m
 replace m:uH w p0 p1 q1=some x:=m
 unfold uH at m
 refine vs (vs (fO m (σ:=Bool) (λs=>((some k5,.obj 81 (aN p2))::(some k2,.obj 38 (aI p1))::(hC p0K p0 gS gC gE gV))) (λs=>.c 0 (.ptr p0K 0) (.c 4 (.ptr k2 0) (.c 5 (.ptr k5 0) (.c 9 (nZ q1) (.c 32 (.sc (.bool s)) .nil))))) (λx m=> ?_) ?_))
 refine v0 (CL (by kernel_rfl) (l4 rfl (dY eY rfl rfl (vl 2 (aZ gE) iL rfl rfl rfl (bU (fK pT oE rfl) ?_)))))
 apply vi m<;>intro b0 m
 rw[b0]
 refine l4 rfl (dY eY rfl rfl (vl 2 (aZ gE) iL rfl rfl rfl ?_))
 obtain⟨x5,X5,m⟩:=aD m
 exact bU (dG X5 iX oE rfl rfl) (bU (cX (bK.ne oE X5) yD rfl rfl) (vn (λu=>eK (fo:=0) (nZ x5.Seq) X5 gH oE cB rfl (aO 5 u rfl) (λ_=>rfl)) (dY lX rfl rfl (vl 1 _ cB rfl rfl rfl (kN m)))))
 rw[b0]
 exact kN m
 rintro _ j0 m
 refine v0 ?_
 apply vi m<;>intro c5 m
 exact v0 (v0 (v0 (fZ m)))
 exact v0 (vB m)
 rintro _ r1 m
 refine vs (vs (fO m (σ:=Bool) (λs=>((some k5,.obj 81 (aN p2))::(some k2,.obj 38 (aI p1))::(hC p0K p0 gS gC gE gV))) (λs=>.c 0 (.ptr p0K 0) (.c 4 (.ptr k2 0) (.c 5 (.ptr k5 0) (.c 9 (nZ r1) (.c 54 (.sc (.bool s)) .nil))))) (λx m=> ?_) ?_))
 refine v0 (CL (by kernel_rfl) (l4 rfl (dY eY rfl rfl (vl 2 (aZ gE) iL rfl rfl rfl (bU (fK pT oE rfl) ?_)))))
 apply vi m<;>intro b1 m
 rw[b1]
 refine l4 rfl (dY eY rfl rfl (vl 2 (aZ gE) iL rfl rfl rfl ?_))
 obtain⟨x6,X6,m⟩:=aD m
 exact bU (dG X6 iX oE rfl rfl) (bU (cX (bK.ne oE X6) yD rfl rfl) (vn (λu=>eK (fo:=0) (nZ x6.Seq) X6 gH oE cB rfl (aO 5 u rfl) (λ_=>rfl)) (dY lX rfl rfl (vl 1 _ cB rfl rfl rfl (kN m)))))
 rw[b1]
 exact kN m
 rintro _ j1 m
 refine v0 ?_
 apply vi m<;>intro c6 m
 refine vs (v0 (vz [(1000000,some p0K,.obj 30 ([nZ p0.Seq,aZ gS,aZ gC,aZ gE,aZ gV])),(17,gE.t,.obj 99 (fl cH (p0.Exps:List aT) gE.sp)),(1000000,some k5,.obj 81 (aN p2))] mixed (λu=>⟨λ_=>aO 2 u rfl,λ_=>aO 5 u rfl,λ_=>aO 0 u rfl,trivial⟩) λu=>zP 0 rfl rfl (zN 1 rfl rfl (zF 2 rfl eY rfl (zL 3 0 (aZ gE) rfl iL rfl rfl rfl (zI 4 rfl rfl (zP 5 rfl rfl (zN 6 rfl rfl (zF 7 rfl eY rfl (zL 8 0 (aZ gE) rfl iL rfl rfl rfl (zI 9 rfl rfl ?_)))))))))))
 obtain⟨x7,X7,m⟩:=aD m
 refine zC 10 rfl (dG X7 iX oE rfl rfl) (zC 11 rfl (cX (bK.ne oE X7) mZ rfl rfl) (z5 12 rfl (λ_ _ hi hB=>eK (fo:=2) (.sl none 4 (map aN x7.Locs)) X7 gH oE fW rfl (fV.get 1 hi rfl (hB 17 (by kernel_rfl))) (λ_=>rfl)) (zL 13 2 (.agg (aN p2)) rfl nD rfl rfl rfl ?_)))
 obtain⟨y2,Y3,m⟩:=aD m
 refine zC 14 rfl (bV (WT _ Y3) rfl ON rfl) ?_
 obtain⟨x8,X8,m⟩:=aD m
 refine zC 15 rfl (dG X8 iX oE rfl rfl) (zC 16 rfl (cX (bK.ne oE X8) mZ rfl rfl) (zE 17 rfl (cY (fo:=2) ({ x8 with Locs:=y2}:aT) 5 u X8 gH oE rfl rfl rfl rfl (cS.refl _ _) pU rfl rfl λK4=>⟨⟨λ_=>aO 2 K4 rfl,λe=>absurd e (by decide),λ_=>aO 0 K4 rfl,trivial⟩, ?_⟩)))
 refine zX (qk (f:=GQ 71 _ _ _ _ _ _ _ _ _ _ _ _ _ _ _ _ _ _) K4 rfl (vs (v0 (v0 (fY m λm=> ?_)))))
 cases m
 exact vr λu=>dW.of1 (.inl rfl) (gQ _ _ (.sc (.bool _)) rfl) (bQ u [2,3,4,5,6] rfl).2 (bD.refl _ _) ⟨gS,ok_Snaps,gC,oC,gE,(bK.set oE),(bQ u [2,3,4,5,6] rfl).1,rfl,rfl⟩
 refine v0 (vs (v0 (vs (pM (λu=>gA.fzO (n:=184) (f:=_) 5 2 ([nZ p0.Seq,aZ gS,aZ gC,.sl none 3 (map cH p0.Exps),aZ gV]) u rfl (.cons (Fz.refl _ _ _) (.cons (Fz.refl _ _ _) (.cons (Fz.refl _ _ _) (.cons (Fz.aw 5 gH oE u rfl (.refl _)) (.cons (Fz.refl _ _ _) .nil)))))) (v0 (vz [(1000000,some p0K,.obj 30 ([nZ p0.Seq,aZ gS,aZ gC,.sl none 3 (map cH p0.Exps),aZ gV])),(1000000,some k2,.obj 38 (aI p1)),(1000000,some k5,.obj 81 (aN p2))] mixed (λu=>⟨λ_=>aO 2 u rfl,λ_=>aO 1 u rfl,λ_=>aO 0 u rfl,trivial⟩) λu=>zC 0 rfl (fJ (.sc (.slice _ _ _)) rfl) (zP 1 rfl rfl (zN 2 rfl rfl (zF 3 rfl eY rfl (zL 4 0 (.sl none 3 (map cH p0.Exps)) rfl iL rfl rfl rfl (zI 5 rfl rfl ?_)))))))))))
 obtain⟨_,X9,m⟩:=aD m
 refine zC 6 rfl (n3 X9 iX rfl rfl rfl rfl) (zF 8 rfl lX rfl (zL 9 1 (nZ p1.Seq) rfl cB rfl rfl rfl (zF 10 rfl xV rfl (zL 11 1 (nZ p1.Of) rfl cB rfl rfl rfl (zL 12 2 (.agg (aN p2)) rfl nD rfl rfl rfl (zC 13 rfl (dX (map aN ([p2]:List aS)) pG rfl rfl rfl rfl) (zC 14 rfl (eJ (cH ({ Seq:=p1.Seq,Of:=p1.Of,Locs:=([p2]:List aS)}:aT)) aAE rfl) (zC 15 rfl (dX (map cH ([({ Seq:=p1.Seq,Of:=p1.Of,Locs:=([p2]:List aS)}:aT)]:List aT)) pF rfl rfl rfl rfl) ?_))))))))
 obtain⟨z0,Z0,m⟩:=aD m
 refine zE 7 rfl (B8 (c:=cH) Z0 pF rfl sV rfl gH rfl u rfl λag0 O0 K5=>⟨⟨λ_=>aO 3 K5 rfl,λ_=>aO 2 K5 rfl,λ_=>aO 1 K5 rfl,trivial⟩, ?_⟩)
 obtain⟨z1,Z1,m⟩:=aD m
 refine zE 16 rfl (gG (c:=cH) 0 Z1 pF rfl sV rfl gH rfl rfl O0 K5 rfl λag1 O1 K7=>⟨⟨λ_=>aO 3 K7 rfl,λ_=>aO 2 K7 rfl,λ_=>aO 1 K7 rfl,trivial⟩, ?_⟩)
 refine zC 17 rfl (iC (aw _ _ _) rfl) (zX (qk (f:=.c 10 _ (.c 88 _ (.c 79 _ (Q8 87 _ _ _ _ _ _ _ _ (fq7 78 _ _ _ _ _ _ _ _))))) K7 rfl (vs (v0 (l4 rfl (dY eY rfl rfl (vl 3 _ iL rfl rfl rfl ?_)))))))
 obtain⟨_,X10,m⟩:=aD m
 refine bU (n3 X10 iX rfl rfl rfl rfl) ?_
 obtain⟨z2,Z2,m⟩:=aD m
 refine ve λu=>gG (c:=cH) 0 Z2 pF rfl sV rfl gH rfl rfl O1 u rfl λag2 O2 K8=>qk K8 rfl (l4 rfl (dY eY rfl rfl (ve λu=>aL 3 ([nZ p0.Seq,aZ gS,aZ gC,aZ ag2,aZ gV]) u rfl rfl (cM rfl) (cG (cC _ _ _) rfl) MN rfl rfl λK9=>qk K9 rfl (vs (fO m (σ:=Bool) (λs=>[(jX ag2 z2),(some k5,.obj 81 (aN p2)),(some k2,.obj 38 (aI p1)),(hO p0K p0.Seq gS gC ag2 gV),(dF gS p0.Snaps),(dA gC p0.Chunks),(lK gV p0.Vols)]) (λs=>.c 0 (.ptr p0K 0) (.c 4 (.ptr k2 0) (.c 111 (.sc (.bool s)) .nil))) (λx m=> ?_) ?_)))))
 refine v0 (CL (by kernel_rfl) (dY lX rfl rfl (vl 2 _ cB rfl rfl rfl (l4 rfl (dY rG rfl rfl (vl 3 _ cB rfl rfl rfl ?_))))))
 apply vi m<;>intro b2 m
 rw[b2]
 exact dY lX rfl rfl (vl 2 _ cB rfl rfl rfl (hH m))
 rw[b2]
 exact hH m
 rintro _ j2 m
 refine fO m (σ:=Int) (λs=>[(jX ag2 z2),(some k5,.obj 81 (aN p2)),(some k2,.obj 38 (aI p1)),(hO p0K s gS gC ag2 gV),(dF gS p0.Snaps),(dA gC p0.Chunks),(lK gV p0.Vols)]) (λs=>.nil) (λx m=> ?_) ?_
 refine v0 ?_
 apply vi m<;>intro c7 m
 exact v0 (dY lX rfl rfl (vl 2 _ cB rfl rfl rfl (l4 rfl (dY rG rfl rfl (ve λu=>aL 3 ([nZ (wrap .i64 (p1.Seq+1)),aZ gS,aZ gC,aZ ag2,aZ gV]) u rfl rfl rfl rfl A2 rfl rfl λK10=>qk K10 rfl (gq0 m))))))
 exact v0 (gq0 m)
 rintro _ j3 m
 exact eG m (gC,ag2) ⟨oC,O2⟩ (mK [1,2,3,4,5,0,6] rfl rfl .nil)
 rintro⟨ag3,ag4⟩ ⟨j4,j5,j6⟩ ⟨O3,O4⟩ m
 refine vs (v0 (v0 ?_))
 cases m
 exact vr λu=>dW.of1 (.inl rfl) (gQ _ _ (.sc (.bool _)) rfl) (bQ u [2,3,4,5,6] rfl).2 (bD.refl _ _) ⟨gS,ok_Snaps,ag3,O3,ag4,O4,(bQ u [2,3,4,5,6] rfl).1,rfl,rfl⟩
theorem aCV:aP prog 156=true:=by kernel_rfl
end Go.Proofs.YtbbifdfldpfphaaGreat
