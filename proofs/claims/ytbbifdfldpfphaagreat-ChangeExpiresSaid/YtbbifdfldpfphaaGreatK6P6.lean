import Derived.Test.YtbbifdfldpfphaaGreatK6P5
import Derived.Test.YtbbifdfldpfphaaGreatK6P3
import Derived.Test.YtbbifdfldpfphaaGreatK6P4
set_option linter.unusedSimpArgs false
set_option linter.unusedVariables false
set_option maxHeartbeats 4000000
set_option maxRecDepth 100000
namespace Go.Proofs.YtbbifdfldpfphaaGreat
open Go.Vm
def m7 (m:Nat) (p0:List aH) (p1:aH→Option Bool) (q0:Int):Option (Lp (Int) (Int)):=
 if (decide (q0 < (p0.length:Int)))=true then ((ix p0 q0).bind λx0=>(p1 x0).bind λy0=>if y0=true then (some (.ret q0)) else some (.go (IntKind.wrap .i64 (q0+1)))) else some (.brk q0)
def vX (m:Nat) (p0:List aH) (p1:aH→Option Bool):Option (Int):=
 after (aU (λs=>m7 m p0 p1 s) m 0) λr0=>some (-1)
theorem RZ {w:Nat} {p0:List aH} {p1:aH→Option Bool} {o:Int} (h:aE) {g_p0:dC} (ok_p0:bM g_p0 4 p0.length) (K0:bQ h [(dH g_p0 p0)]) {p1F:Nat} {p1C:List AV} (p1B:aP Tryz.prog p1F=true) (p1H:∀x0 o h0,iT h h0→p1 x0=some o→aL Tryz.prog p1F ([.agg (bK x0)]++p1C) h0 (λr h'=>r= .sc (.bool o)∧h'=h0)) (m:vX w p0 p1=some o):
 aL Tryz.prog 103 [aZ g_p0,.fn (.func p1F) p1C] (hp h [(dH g_p0 p0)]) (λr h'=>r=nZ o∧h'=hp h [(dH g_p0 p0)]):=by
 refine B9 K0 19 [.tmp 4] Tryz.func103 rfl rfl rfl rfl ?_
 unfold vX at m
 refine vs (v0 (vs (vs (v0 (bV (eR iQ ok_p0 rfl) ?_)))))
 refine kD m (σ:=Int) (λs=> [(dH g_p0 p0)]) (λs=>.c 0 (aZ g_p0) (.c 1 (.fn (.func p1F) p1C) (.c 7 (nZ (p0.length:Int)) (.c 8 (nZ s) .nil)))) (lx (.k4 .nil)) ?_ ?_
 rintro _ q0 x m
 replace m:m7 w p0 p1 q0=some x:=m
 unfold m7 at m
 refine vs (v0 (vs (v0 ?_)))
 apply vi m <;> intro c0 m
 refine v0 (vs (v0 (vs (v0 (vs (v0 ?_))))))
 obtain⟨x1,X0,m⟩:=aC m
 refine bV (dJ X0 iX ok_p0 rfl rfl) (vn (λu=>eT (fo:=0) (.agg (bK x1)) X0 eC ok_p0 sO rfl (aK 0 u rfl) (λ_=>rfl)) ?_)
 obtain⟨_,Y0,m⟩:=aC m
 refine vn (λu=>cB (p1H _ _ _ (aW (List.nil_sublist _) u).1 Y0) rfl p1B rfl) (v0 ?_)
 apply vi m <;> intro c1 m
 refine vs (v0 (v0 ?_))
 refine gM m λm=> ?_
 obtain rfl:=eU m
 exact vr λu=>dZ.of1 (.inl rfl) (f0 _ _ (.sc (.int _ _)) rfl) (bJ u [0] rfl).2 (bB.refl _ _) ⟨rfl,rfl⟩
 refine v0 (v0 ?_)
 exact gJ m
 refine v0 ?_
 exact zK m
 rintro _ r0 m
 refine vs (v0 (v0 ?_))
 cases m
 exact vr λu=>dZ.of1 (.inl rfl) (f0 _ _ (.sc (.int _ _)) rfl) (bJ u [0] rfl).2 (bB.refl _ _) ⟨rfl,rfl⟩
def M3 (m:Nat) (p0:aH) (c0:aN):Option (Bool):=
 some (p0.Seq==c0.Seq)
theorem aEI {w:Nat} {p0:aH} {c0:aN} {o:Bool} (h:aE) {c0K:bY} (c0H:h c0K=some (.obj 62 (aD c0))) (m:M3 w p0 c0=some o):
 aL Tryz.prog 118 [.agg (bK p0),.ptr c0K 0] h (λr h'=>r= .sc (.bool o)∧h'=h):=by
 refine fT 9 [.tmp 3] Tryz.func118 rfl rfl rfl rfl ?_
 unfold M3 at m
 refine v ?_
 refine hX rfl rfl λk2 K3=> ?_
 refine v (vl 0 _ cD rfl rfl rfl (vn (λu=>pN (nZ c0.Seq) cD rfl (l8 u c0H) rfl) (v ?_)))
 cases m
 exact eA rfl
theorem YW:aP Tryz.prog 118=true:=by kernel_rfl
def tM (m:Nat) (p0:aA) (q0:List aB) (q1:Int):Option (Lp ((List aB)×Int) ((List aB))):=
 if (decide (q1 < (p0.Chunks.length:Int)))=true then ((ix p0.Chunks q1).bind λx0=>(XV m ({ Seq:=p0.Seq,Snaps:=p0.Snaps,Chunks:=p0.Chunks,Exps:=p0.Exps,Vols:=p0.Vols}:aA) x0.Id).bind λy0=>after (if (!y0)=true then (some (.brk { { x0 with Staged:=false} with Data:=([]:List Int)})) else some (.brk x0):Option (Lp (aB) (Lp ((List aB)×Int) ((List aB))))) λj0=>after (if j0.Staged=true then (some (.brk true)) else some (.brk (decide (0 < (j0.Locs.length:Int)))):Option (Lp (Bool) (Lp ((List aB)×Int) ((List aB))))) λj1=>after (if j1=true then ((app q0 ([j0]:List aB)).bind λz0=>some (.brk z0)) else some (.brk q0):Option (Lp ((List aB)) (Lp ((List aB)×Int) ((List aB))))) λj2=>some (.go (j2,IntKind.wrap .i64 (q1+1)))) else some (.brk (q0,q1))
def G2 (m:Nat) (p0:aA):Option ((List aB)):=
 after (aU (λs=>tM m p0 s.1 s.2) m ([],0)) λ⟨r0,r1⟩=>some r0
theorem YX {w:Nat} {p0:aA} {o:(List aB)} (h:aE) {p0K:bY} {gS:dC} (ok_Snaps:bM gS 4 p0.Snaps.length) {gC:dC} (oC:bM gC 35 p0.Chunks.length) {gE:dC} (oE:bM gE 3 p0.Exps.length) {gV:dC} (oV:bM gV 4 p0.Vols.length) (K0:bQ h [OC p0K p0.Seq gS gC gE gV,bN gS p0.Snaps,bF gC p0.Chunks,cK gE p0.Exps,aT gV p0.Vols]) (m:G2 w p0=some o):
 aL Tryz.prog 120 [.ptr p0K 0] (hp h [OC p0K p0.Seq gS gC gE gV,bN gS p0.Snaps,bF gC p0.Chunks,cK gE p0.Exps,aT gV p0.Vols]) (λr h'=>∃g_Chunks':dC,bM g_Chunks' 35 (o:List aB).length∧bQ h [OC p0K p0.Seq gS g_Chunks' gE gV,bN gS p0.Snaps,bF g_Chunks' o,cK gE p0.Exps,aT gV p0.Vols]∧r= .tup []∧h'=hp h [OC p0K p0.Seq gS g_Chunks' gE gV,bN gS p0.Snaps,bF g_Chunks' o,cK gE p0.Exps,aT gV p0.Vols]):=by
 refine B9 K0 40 [] Tryz.func120 rfl rfl rfl rfl ?_
 unfold G2 at m
 refine vs (v0 (vs (vs (v0 (kQ rfl (dP eG rfl rfl (vl 0 (aZ gC) eO rfl rfl rfl (bV (eR jG oC rfl) (rE (FG (.obj 44 (fl aI ([]:List aB) g0.sp)) 2 (aZ g0) (fP _)) ?_)))))))))
 refine pB m (σ:=(List aB)×Int) (τ:=dC) (λg s=> [bF g s.1,OC p0K p0.Seq gS gC gE gV,bN gS p0.Snaps,bF gC p0.Chunks,cK gE p0.Exps,aT gV p0.Vols]) (λg s=>bM g 35 (s.1:List aB).length) (λg s=>.c 0 (.ptr p0K 0) (.c 2 (aZ g) (.c 8 (aZ gC) (.c 9 (nZ (p0.Chunks.length:Int)) (.c 10 (nZ s.2) .nil))))) g0 (bM.g0 35) (lx (.k5 .nil)) ?_ ?_
 rintro ag0 ⟨q0,q1⟩ x O0 m
 replace m:tM w p0 q0 q1=some x:=m
 unfold tM at m
 refine vs (v0 (vs (v0 ?_)))
 apply vi m <;> intro c0 m
 refine v0 (vs (v0 (vs (v0 ?_))))
 obtain⟨x0,X0,m⟩:=aC m
 refine bV (dJ X0 fH oC rfl rfl) (vn (λu=>eT (fo:=0) (.agg (aI x0)) X0 cL oC nT rfl (aK 3 u rfl) (λ_=>rfl)) ?_)
 refine ve λu=>bG (bH jI++(OB:List AV)) u oK rfl rfl λk174 K1=>qk K1 rfl ?_
 refine ve λu=>aJ 0 (aI x0) u rfl rfl rfl rfl CF rfl rfl λK2=>qk K2 rfl ?_
 refine vs (vs (v0 (zM (by kernel_rfl) (kQ rfl (vl 2 (.agg ([nZ p0.Seq,aZ gS,aZ gC,aZ gE,aZ gV])) eP rfl rfl rfl (dP oI rfl rfl (vl 0 (.agg (bH x0.Id)) fL rfl rfl rfl ?_)))))))
 obtain⟨_,Y0,m⟩:=aC m
 refine vn (λu=>cB (fA (.cons (Br.agg (.cons (Br.refl _ _) (.cons (Br.aw 3 eC ok_Snaps u rfl) (.cons (Br.aw 4 cL oC u rfl) (.cons (Br.aw 5 fY oE u rfl) (.cons (Br.aw 6 eS oV u rfl) .nil)))))) (.cons (Br.refl _ _) .nil)) rfl (W22 _ Y0)) rfl aDD rfl) ?_
 refine fQ m (σ:=aB) (λs=> [(some k174,.obj 44 (aI s)),bF ag0 q0,OC p0K p0.Seq gS gC gE gV,bN gS p0.Snaps,bF gC p0.Chunks,cK gE p0.Exps,aT gV p0.Vols]) (λs=>.c 0 (.ptr p0K 0) (.c 2 (aZ ag0) (.c 4 (.ptr k174 0) (.c 8 (aZ gC) (.c 9 (nZ (p0.Chunks.length:Int)) (.c 10 (nZ q1) .nil)))))) (λx m=> ?_) ?_
 refine v0 ?_
 apply vi m <;> intro c1 m
 refine v0 (dP oJ rfl rfl ?_)
 refine ve λu=>aJ 0 (aI { x0 with Staged:=false}) u rfl rfl rfl rfl VP rfl rfl λK3=>qk K3 rfl ?_
 refine dP jP rfl rfl ?_
 refine ve λu=>xS 0 (aI { { x0 with Staged:=false} with Data:=([]:List Int)}) u rfl rfl rfl rfl (.cons (aR _) .nil) CE rfl rfl λK4=>qk K4 rfl ?_
 exact rG m
 refine v0 ?_
 exact rG m
 rintro _ j0 m
 refine vs ?_
 refine fQ m (σ:=Bool) (λs=> [(some k174,.obj 44 (aI j0)),bF ag0 q0,OC p0K p0.Seq gS gC gE gV,bN gS p0.Snaps,bF gC p0.Chunks,cK gE p0.Exps,aT gV p0.Vols]) (λs=>.c 0 (.ptr p0K 0) (.c 2 (aZ ag0) (.c 4 (.ptr k174 0) (.c 8 (aZ gC) (.c 9 (nZ (p0.Chunks.length:Int)) (.c 10 (nZ q1) (.c 30 (.sc (.bool s)) .nil))))))) (λx m=> ?_) ?_
 refine v0 (dP oJ rfl rfl (vl 0 _ DO rfl rfl rfl ?_))
 apply vi m <;> intro b0 m
 rw[b0]
 exact CB m
 rw[b0]
 refine dP jQ rfl rfl (vl 0 _ fM rfl rfl rfl (cY jO rfl ?_))
 exact CB m
 rintro _ j1 m
 refine qM m (σ:=(List aB)) (τ:=dC) (λg s=> [(some k174,.obj 44 (aI j0)),bF g s,OC p0K p0.Seq gS gC gE gV,bN gS p0.Snaps,bF gC p0.Chunks,cK gE p0.Exps,aT gV p0.Vols]) (λg s=>bM g 35 (s:List aB).length) (λg s=>.c 0 (.ptr p0K 0) (.c 2 (aZ g) (.c 8 (aZ gC) (.c 9 (nZ (p0.Chunks.length:Int)) (.c 10 (nZ q1) .nil))))) (λx m=> ?_) ?_
 refine v0 ?_
 apply vi m <;> intro c2 m
 refine v0 (vl 0 (.agg (aI j0)) nT rfl rfl rfl (bV (eD (List.map aI ([j0]:List aB)) lK rfl rfl rfl rfl) ?_))
 obtain⟨z0,Z0,m⟩:=aC m
 refine ve λu=>fS (c:=aI) 1 Z0 lK rfl oK rfl cL rfl rfl O0 u rfl λag1 O1 K5=>qk K5 rfl ?_
 exact fB m ag1 O1 (lx (.k5 .nil))
 refine v0 ?_
 exact fB m ag0 O0 (lx (.k5 .nil))
 rintro ag2 j2 O2 m
 refine v0 ?_
 exact fB m ag2 O2 (nD [1,2,3,4,5,6] rfl rfl (.k5 .nil))
 refine v0 ?_
 exact mL m ag0 O0 (lx (.k5 .nil))
 rintro ag3 ⟨r0,r1⟩ t0 m
 refine v0 (kQ rfl (dP eG rfl rfl ?_))
 refine ve λu=>aJ 1 ([nZ p0.Seq,aZ gS,aZ ag3,aZ gE,aZ gV]) u rfl rfl (cG rfl) (cE (bZ _ _ _) rfl) CC rfl rfl λK6=>qk K6 rfl ?_
 obtain rfl:=eU m
 exact vr λu=>dZ.zero (.inr rfl) (bJ u [1,2,0,4,5] rfl).2 ⟨ag3,t0,(bJ u [1,2,0,4,5] rfl).1,rfl,rfl⟩
theorem R0:aP Tryz.prog 120=true:=by kernel_rfl
theorem aEJ {α:Type} {c:α→List AV} (hc:∀y,(c y).length=4) {p0 o:List α} {p1 p2:Int} (h:aE) {g:dC} (ok:bM g 4 p0.length) (K0:bQ h [(g.t,.obj 60 (fl c p0 g.sp))]) (u:JT p0 p1 p2=some o):
 aL Tryz.prog 119 [aZ g,nZ p1,nZ p2] (hp h [(g.t,.obj 60 (fl c p0 g.sp))]) (λr h'=>∃g:dC,bM g 4 o.length∧bQ h [(g.t,.obj 60 (fl c o g.sp))]∧r=aZ g∧h'=hp h [(g.t,.obj 60 (fl c o g.sp))]):=by
 obtain⟨i0,i1,i2,ho⟩:=JU u
 obtain⟨gt,gn,cap,sp⟩:=g
 have hne:gt≠none:=λe=>by have:=ok.nil e; omega
 obtain⟨k,rfl⟩:∃k,gt=some k:=by cases gt with
 | none=>exact absurd rfl hne
 | some k=>exact⟨k,rfl⟩
 have hgn:gn=p0.length:=ok.eqn
 subst hgn
 have hle:p0.length≤cap:=ok.le
 have hmx:cap≤maxLen:=ok.mx
 have hlen:p0.length*4+sp.length=cap*4:=ok.len
 obtain⟨a,rfl⟩:∃a:Nat,p1=a:=⟨p1.toNat,by omega⟩
 obtain⟨b,rfl⟩:∃b:Nat,p2=b:=⟨p2.toNat,by omega⟩
 simp only[Int.toNat_natCast] at ho
 have ha:a < b:=by omega
 have hb:b≤p0.length:=by omega
 have hzl:(p0.take a++p0.drop b).length=a+(p0.length - b):=by simp; omega
 have hsp:=G1 hc (Nat.le_of_lt ha) hb sp
 have hal:(p0.take a++p0.drop b++p0.drop (a+(p0.length - b))).length=p0.length:=by simp; omega
 have htk:(p0.take a++p0.drop b++p0.drop (a+(p0.length - b))).take (a+(p0.length - b))=o:=by rw[ho,← hzl,List.take_left]
 have O2:bM ⟨some k,p0.length,cap,sp⟩ 4 (p0.take a++p0.drop b++p0.drop (a+(p0.length - b))).length:=by rw[hal]; exact ok
 have O3:bM ⟨some k,a+(p0.length - b),cap,((p0.drop (a+(p0.length - b))).map c).flatten++sp⟩ 4 (a+(p0.length - b)):=⟨rfl,nofun,by show a+(p0.length - b)≤cap; omega,hmx,by
   show (a+(p0.length - b))*4+(((p0.drop (a+(p0.length - b))).map c).flatten++sp).length=cap*4
   rw[List.length_append,jF hc,List.length_drop]; omega⟩
 refine B9 K0 33 [.tmp 6] Tryz.func119 rfl rfl rfl rfl ?_
 repeat refine vs ?_
 refine v0 ?_
 repeat refine vs ?_
 refine v0 (bV (eR iQ ok rfl) (bV (UG (cap:=cap) i0 (by omega) (by omega) (by omega) iX rfl rfl rfl rfl) ?_))
 repeat refine vs ?_
 refine v0 (v0 (vf (by simp; omega) (v0 ?_)))
 repeat refine vs ?_
 refine v0 (bV (eR iQ ok rfl) ?_)
 repeat refine vs ?_
 refine v0 ?_
 refine vz [] mixed (λw=>trivial) λw=> ?_
 refine zC 0 rfl (eZ (.vw _ _ _) rfl) ?_
 refine zI 1 rfl rfl ?_
 refine zC 2 rfl (yV (cap:=cap) i0 (by omega) iX rfl rfl) ?_
 refine zC 3 rfl (eZ (.vw _ _ _) rfl) ?_
 refine zI 4 rfl rfl ?_
 by_cases hbl:b=p0.length
 subst hbl
 have e0:p0.length - p0.length=0:=Nat.sub_self _
 refine zC 5 rfl (YV (m:=p0.length) iX rfl rfl) ?_
 have ee:fl c p0 sp=fl c (p0.take a++p0.drop p0.length++p0.drop (a+(p0.length - p0.length))) sp:=by
   rw[List.drop_length,List.append_nil,e0,Nat.add_zero,List.take_append_drop]
 refine zE 6 rfl (M2 wJ (i:=a) rfl rfl ⟨trivial, ?_⟩)
 refine zC 7 rfl (fG (y:=.vw k (a+(p0.length - p0.length)) cap) (hU (.vw k a cap) rfl) (bB.of_eq (by rw[e0,Nat.add_zero]))) ?_
 have K1:bQ h [(some k,iB.obj 60 (fl c (p0.take a++p0.drop p0.length++p0.drop (a+(p0.length - p0.length))) sp))]:=by rw[← ee]; exact w
 refine zX (qk (f:=.c 0 (.vw k (a+(p0.length - p0.length)) cap) (.c 26 _ (.c 25 _ (.c 24 _ (.c 23 _ (.c 22 _ (.c 21 _ (.c 20 _ _)))))))) K1 (by rw[← ee]) ?_)
 repeat refine vs ?_
 refine v0 (bV (eR (g:=⟨some k,a+(p0.length - p0.length),cap,_⟩) iQ O3 rfl) (bV (RY (cap:=cap) (by omega) (by omega) (by omega) iX rfl rfl rfl) ?_))
 refine ve λw=>LK (g:=⟨some k,p0.length,cap,sp⟩) (i:=((a+(p0.length - p0.length):Nat):Int)) 0 w (by rw[hal]; simp; omega) hc O2 u25 sP rfl rfl (by rw[hal]; rfl) rfl λsp' ok' hk'=>qk hk' rfl ?_
 repeat refine vs ?_
 refine v0 (v0 ?_)
 subst htk
 exact vr λw=>dZ.one (.inl rfl) (bJ w [0] rfl).2 (bB.refl _ _) ⟨⟨some k,a+(p0.length - p0.length),cap,sp'⟩,ok',(bJ w [0] rfl).1,rfl,rfl⟩
 refine zC 5 rfl (jM (m:=p0.length) (by omega) (by omega) iX rfl rfl) ?_
 have e2:((p0.drop b).map c).flatten=((fl c p0 sp).drop (b*4)).take (((p0.drop b).map c).flatten.length):=by
   rw[EZ hc hb]; unfold fl; rw[List.take_left]
 obtain⟨j,K1,_⟩:=jB (e':=.obj 60 (fl c (p0.take a++p0.drop b++p0.drop (a+(p0.length - b))) sp)) 0 w (show ([(some k,iB.obj 60 (fl c p0 sp))]:HL)[0]? =_ from rfl) (.inl rfl)
 refine zE 6 rfl (M1 wJ (i:=a) (m:=p0.length - b) (ys:=((p0.drop b).map c).flatten) rfl (aX 0 w rfl) (by rw[e2]; rw[← e2]; have:=A3.view (m:=p0.length - b) (off:=b*4) (c:=((p0.drop b).map c).flatten.length) (aX 0 w (show ([(some k,iB.obj 60 (fl c p0 sp))]:HL)[0]? =some (some k,iB.obj 60 (fl c p0 sp)) from rfl)); rw[← e2] at this; exact this) (by rw[jF hc,List.length_drop]) (by omega) (by rw[jF hc,List.length_drop,FY hc]; omega) ⟨trivial, ?_⟩)
 refine zC 7 rfl (hU (.vw _ _ _) rfl) ?_
 refine zX (qk (f:=.c 0 (.vw k (a+(p0.length - b)) cap) (.c 26 _ (.c 25 _ (.c 24 _ (.c 23 _ (.c 22 _ (.c 21 _ (.c 20 _ _)))))))) K1 (by rw[← j]; show upd _ _ (some (iB.obj 60 (dV (fl c p0 sp) (a*4) _)))=_; rw[hsp]) ?_)
 repeat refine vs ?_
 refine v0 (bV (eR (g:=⟨some k,a+(p0.length - b),cap,_⟩) iQ O3 rfl) (bV (RY (cap:=cap) (by omega) (by omega) (by omega) iX rfl rfl rfl) ?_))
 refine ve λw=>LK (g:=⟨some k,p0.length,cap,sp⟩) (i:=((a+(p0.length - b):Nat):Int)) 0 w (by rw[hal]; simp; omega) hc O2 u25 sP rfl rfl (by rw[hal]; rfl) rfl λsp' ok' hk'=>qk hk' rfl ?_
 repeat refine vs ?_
 refine v0 (v0 ?_)
 subst htk
 exact vr λw=>dZ.one (.inl rfl) (bJ w [0] rfl).2 (bB.refl _ _) ⟨⟨some k,a+(p0.length - b),cap,sp'⟩,ok',(bJ w [0] rfl).1,rfl,rfl⟩
theorem YY:aP Tryz.prog 119=true:=by kernel_rfl
def VX (m:Nat) (p0:aA) (p1:aN):Option (Int×(List aH)×(List aB)):=
 (vX m p0.Snaps (λx0=>M3 m x0 p1)).bind λy6=>if (decide (y6 < 0))=true then (some (8,p0.Snaps,p0.Chunks)) else (JT p0.Snaps y6 (IntKind.wrap .i64 (y6+1))).bind λy0=>(G2 m ({ Seq:=p0.Seq,Snaps:=y0,Chunks:=p0.Chunks,Exps:=p0.Exps,Vols:=p0.Vols}:aA)).bind λy1=>some (0,y0,y1)
theorem W73 {w:Nat} {p0:aA} {p1:aN} {o:Int×(List aH)×(List aB)} (h:aE) {p0K:bY} {gS:dC} (ok_Snaps:bM gS 4 p0.Snaps.length) {gC:dC} (oC:bM gC 35 p0.Chunks.length) {gE:dC} (oE:bM gE 3 p0.Exps.length) {gV:dC} (oV:bM gV 4 p0.Vols.length) (K0:bQ h [OC p0K p0.Seq gS gC gE gV,bN gS p0.Snaps,bF gC p0.Chunks,cK gE p0.Exps,aT gV p0.Vols]) (m:VX w p0 p1=some o):
 aL Tryz.prog 73 [.ptr p0K 0,.agg (aD p1)] (hp h [OC p0K p0.Seq gS gC gE gV,bN gS p0.Snaps,bF gC p0.Chunks,cK gE p0.Exps,aT gV p0.Vols]) (λr h'=>∃g_Snaps':dC,bM g_Snaps' 4 (o.2.1:List aH).length∧∃g_Chunks':dC,bM g_Chunks' 35 (o.2.2:List aB).length∧bQ h [OC p0K p0.Seq g_Snaps' g_Chunks' gE gV,bN g_Snaps' o.2.1,bF g_Chunks' o.2.2,cK gE p0.Exps,aT gV p0.Vols]∧r=nZ o.1∧h'=hp h [OC p0K p0.Seq g_Snaps' g_Chunks' gE gV,bN g_Snaps' o.2.1,bF g_Chunks' o.2.2,cK gE p0.Exps,aT gV p0.Vols]):=by
 refine B9 K0 27 [.tmp 4] Tryz.func73 rfl rfl rfl rfl ?_
 unfold VX at m
 refine vs (v0 ?_)
 refine hX rfl rfl λk2 K3=> ?_
 refine vs (v0 (kQ rfl (dP dQ rfl rfl (vl 1 (aZ gS) eV rfl rfl rfl ?_))))
 obtain⟨_,Y7,m⟩:=aC m
 refine ve λu=>dO ((bP u [2,0,1,3,4,5] rfl rfl).1.trans (dR h [bN gS p0.Snaps] [(some k2,.obj 62 (aD p1)),OC p0K p0.Seq gS gC gE gV,bF gC p0.Chunks,cK gE p0.Exps,aT gV p0.Vols]).symm) (cR (RZ (hp h [(some k2,.obj 62 (aD p1)),OC p0K p0.Seq gS gC gE gV,bF gC p0.Chunks,cK gE p0.Exps,aT gV p0.Vols]) ok_Snaps (dL [bN gS p0.Snaps] [(some k2,.obj 62 (aD p1)),OC p0K p0.Seq gS gC gE gV,bF gC p0.Chunks,cK gE p0.Exps,aT gV p0.Vols] (bP u [2,0,1,3,4,5] rfl rfl).2).2 YW (λ_ o h0 hs ho=>aEI _ (hs _ _ (aX 0 (dL [bN gS p0.Snaps] [(some k2,.obj 62 (aD p1)),OC p0K p0.Seq gS gC gE gV,bF gC p0.Chunks,cK gE p0.Exps,aT gV p0.Vols] (bP u [2,0,1,3,4,5] rfl rfl).2).1 rfl)) ho) Y7) rfl EI rfl ?_)
 rintro x h' ⟨rfl,rfl⟩
 refine qk u ((dR h [bN gS p0.Snaps] [(some k2,.obj 62 (aD p1)),OC p0K p0.Seq gS gC gE gV,bF gC p0.Chunks,cK gE p0.Exps,aT gV p0.Vols]).trans (bP u [2,0,1,3,4,5] rfl rfl).1.symm) ?_
 refine vs (vs (v0 (v0 ?_)))
 apply vi m <;> intro c0 m
 refine vs (v0 (v0 ?_))
 cases m
 exact vr λu=>dZ.of1 (.inl rfl) (f0 _ _ (.sc (.int _ _)) rfl) (bJ u [1,2,3,4,5] rfl).2 (bB.refl _ _) ⟨gS,ok_Snaps,gC,oC,(bJ u [1,2,3,4,5] rfl).1,rfl,rfl⟩
 refine v0 (vs (v0 (kQ rfl (dP dQ rfl rfl (vl 1 (aZ gS) eV rfl rfl rfl ?_)))))
 obtain⟨y0,Y0,m⟩:=aC m
 refine ve λu=> ?_
 have ho0:=lX (A:= [bN gS p0.Snaps]) (R:= [(some k2,.obj 62 (aD p1)),OC p0K p0.Seq gS gC gE gV,bF gC p0.Chunks,cK gE p0.Exps,aT gV p0.Vols]) u [[_], [_], [_], [_], [_], [_]] rfl [2] [0,1,3,4,5] rfl rfl rfl
 refine dO ho0.1 (cR (aEJ eC _ ok_Snaps ho0.2.2 Y0) rfl YY rfl ?_)
 rintro x h' ⟨ag0,O0,K1,rfl,rfl⟩
 have K2:=lY (L':= [(some k2,.obj 62 (aD p1)),(hO p0K p0.Seq gS gC gE gV),bN ag0 y0,bF gC p0.Chunks,cK gE p0.Exps,aT gV p0.Vols]) ho0.2.1 K1 [[_]] [[_], [_], [_], [_], [_]] rfl rfl [1,2,0,3,4,5] rfl rfl
 refine qk K2.2 K2.1 ?_
 refine kQ rfl (dP dQ rfl rfl ?_)
 refine ve λu=>aJ 1 ([nZ p0.Seq,aZ ag0,aZ gC,aZ gE,aZ gV]) u rfl rfl (cG rfl) (cE (bZ _ _ _) rfl) F9 rfl rfl λK4=>qk K4 rfl ?_
 refine vs (v0 ?_)
 obtain⟨y1,Y1,m⟩:=aC m
 refine ve λu=>dO ((bP u [1,2,3,4,5,0] rfl rfl).1.trans (dR h [OC p0K p0.Seq ag0 gC gE gV,bN ag0 y0,bF gC p0.Chunks,cK gE p0.Exps,aT gV p0.Vols] [(some k2,.obj 62 (aD p1))]).symm) (cR (YX (p0:=({ Seq:=p0.Seq,Snaps:=y0,Chunks:=p0.Chunks,Exps:=p0.Exps,Vols:=p0.Vols}:aA)) (hp h [(some k2,.obj 62 (aD p1))]) O0 oC oE oV (dL [OC p0K p0.Seq ag0 gC gE gV,bN ag0 y0,bF gC p0.Chunks,cK gE p0.Exps,aT gV p0.Vols] [(some k2,.obj 62 (aD p1))] (bP u [1,2,3,4,5,0] rfl rfl).2).2 Y1) rfl R0 rfl ?_)
 rintro x h' ⟨ag1,O1,K5,rfl,rfl⟩
 have K6:=bP (L':= [(some k2,.obj 62 (aD p1)),OC p0K p0.Seq ag0 ag1 gE gV,bN ag0 y0,bF ag1 y1,cK gE p0.Exps,aT gV p0.Vols]) (eL (dL [OC p0K p0.Seq ag0 gC gE gV,bN ag0 y0,bF gC p0.Chunks,cK gE p0.Exps,aT gV p0.Vols] [(some k2,.obj 62 (aD p1))] (bP u [1,2,3,4,5,0] rfl rfl).2).1 K5) [5,0,1,2,3,4] rfl rfl
 refine qk K6.2 ((dR h [OC p0K p0.Seq ag0 ag1 gE gV,bN ag0 y0,bF ag1 y1,cK gE p0.Exps,aT gV p0.Vols] [(some k2,.obj 62 (aD p1))]).trans K6.1) ?_
 refine vs (v0 (v0 ?_))
 cases m
 exact vr λu=>dZ.of1 (.inl rfl) (f0 _ _ (.sc (.int _ _)) rfl) (bJ u [1,2,3,4,5] rfl).2 (bB.refl _ _) ⟨ag0,O0,ag1,O1,(bJ u [1,2,3,4,5] rfl).1,rfl,rfl⟩
theorem aEK:aP Tryz.prog 73=true:=by kernel_rfl
open Go.Vm
theorem aEL {α:Type} {c:α→List AV} (hc:∀y,(c y).length=4) {p0 o:List α} {p1:Int} {x:α} (h:aE) {g:dC} (ok:bM g 4 p0.length) (K0:bQ h [(g.t,.obj 81 (fl c p0 g.sp))]) (u:pI p0 p1 x=some o):
 aL Tryz.prog 187 [aZ g,nZ p1,.sl none 4 (List.map c [x])] (hp h [(g.t,.obj 81 (fl c p0 g.sp))]) (λr h'=>∃g:dC,bM g 4 o.length∧bQ h [(g.t,.obj 81 (fl c o g.sp))]∧r=aZ g∧h'=hp h [(g.t,.obj 81 (fl c o g.sp))]):=by
 obtain⟨i0,i1,i2,ho⟩:=lD u
 have hv1:((([x]:List α).length:Int)==0)=false:=rfl
 refine B9 K0 95 [.tmp 6] Tryz.func187 rfl rfl rfl rfl ?_
 repeat refine vs ?_
 refine v0 ?_
 repeat refine vs ?_
 refine v0 (bV (G0 i0 i1 ok lA rfl rfl) ?_)
 repeat refine vs ?_
 refine v0 (cY jO rfl ?_)
 repeat refine vs ?_
 refine v0 (v0 ?_)
 show VC _ _ _ Code.skip _ _ _ _
 refine v0 ?_
 repeat refine vs ?_
 refine v0 (bV (eR jO ok rfl) ?_)
 repeat refine vs ?_
 refine v0 (v0 ?_)
 by_cases hi:p1=(p0.length:Int)
 refine vt (by simpa using hi) ?_
 repeat refine vs ?_
 refine v0 ?_
 refine ve λw=>fS (c:=c) 0 (CS i2) pF rfl JH rfl hc rfl rfl ok w rfl λg' ok' hk'=>qk hk' rfl ?_
 refine v0 ?_
 have e:o=p0++ [x]:=by subst hi; rw[ho]; simp
 subst e
 exact vr λw=>dZ.one (.inl rfl) (iT.refl _) (bB.refl _ _) ⟨g',ok',w,rfl,rfl⟩
 refine vf (by simpa using hi) (v0 ?_)
 have hlt:p1.toNat < p0.length:=by omega
 obtain⟨gt,gn,cap,sp⟩:=g
 have hne:gt≠none:=λe=>by have:=ok.nil e; omega
 obtain⟨k,rfl⟩:∃k,gt=some k:=by cases gt with
 | none=>exact absurd rfl hne
 | some k=>exact⟨k,rfl⟩
 have hgn:gn=p0.length:=ok.eqn
 subst hgn
 have hle:p0.length≤cap:=ok.le
 have hmx:cap≤maxLen:=ok.mx
 have hlen:p0.length*4+sp.length=cap*4:=ok.len
 have hw:IntKind.wrap .i64 ((p0.length:Int)+(([x]:List α).length:Int))=((p0.length+1:Nat):Int):=by
   rw[IntKind.wrap_i64]; simp only[List.length_singleton]; omega
 have hw2:IntKind.wrap .i64 (IntKind.wrap .i64 ((p0.length:Int)+(([x]:List α).length:Int)) - p1)=((p0.length+1 - p1.toNat:Nat):Int):=by
   rw[hw,IntKind.wrap_i64]; omega
 have hw3:IntKind.wrap .i64 (p1+(([x]:List α).length:Int))=((p1.toNat+1:Nat):Int):=by
   rw[IntKind.wrap_i64]; simp only[List.length_singleton]; omega
 obtain⟨q1,q2,q3,q4⟩:=n4 hc (i:=p1.toNat) (by omega:p1.toNat≤p0.length) sp
 generalize hA:((p0.take p1.toNat).map c).flatten=A at q1 q2 q4
 generalize hB:((p0.drop p1.toNat).map c).flatten=B at q1 q3 q4
 repeat refine vs ?_
 refine v0 (bV (GY u42 rfl) (v0 ?_))
 by_cases hcap:cap < p0.length+1
 refine vt (by rw[hw]; exact decide_eq_true (show (cap:Int) < ((p0.length+1:Nat):Int) by omega)) ?_
 repeat refine vs ?_
 refine v0 (bV (yV (cap:=cap) i0 (by omega) lA rfl rfl) ?_)
 refine ve λw=>GZ (cap:=cap) (cs:=fl c p0 sp) (i:=p1.toNat) (m:=p0.length+1 - p1.toNat) 0 pF u3 JH rfl (by decide) w rfl rfl (congrArg (λz=>AV.sc (.int .i64 z)) hw2) (by omega) (by rw[q1]; simp only[List.length_append]; omega) (by omega) λq cap' R h1 h2 h3 hk'=>qk hk' rfl ?_
 repeat refine vs ?_
 refine v0 (bV (jM i0 (by omega) lA rfl rfl) ?_)
 have hn0:p1.toNat+(p0.length+1 - p1.toNat)=p0.length+1:=by omega
 have hn1:p1.toNat+(p0.length+1 - p1.toNat) - p1.toNat=p0.length+1 - p1.toNat:=by omega
 have e1:List.take (p1.toNat*4) (fl c p0 sp)=A:=by rw[q1,← q2,List.take_left]
 have hxl:=hc x
 have hR:4+B.length≤R.length:=by omega
 have hfl:(fl c p0 sp).length=A.length+(B.length+sp.length):=by rw[q1]; simp
 obtain⟨R1,R2,R3,hR0,hR1,hR2⟩:∃R1 R2 R3:List AV,R=R1++(R2++R3)∧R1.length=(c x).length∧R2.length=B.length:=
 ⟨R.take 4,(R.drop 4).take B.length,(R.drop 4).drop B.length,by rw[List.take_append_drop,List.take_append_drop],by rw[List.length_take,hxl]; omega,by rw[List.length_take,List.length_drop]; omega⟩
 refine ve λw=>lT 0 pF w rfl rfl (A3.sl (ys:=List.map c [x]) (by simp) _) (by simp[hxl]; omega) (by rw[e1]; simp only[List.length_append]; simp[hxl,q2]; omega) (A++(c x++(R2++R3))) (by
 rw[e1,hR0]
 simp only[List.map_cons,List.map_nil,List.flatten_cons,List.flatten_nil,List.append_nil]
 exact fN q2 hR1) λhk'=>qk hk' rfl ?_
 repeat refine vs ?_
 refine v0 ?_
 have hv4:AV.view q ((IntKind.wrap .i64 (p1+(([x]:List α).length:Int))).toNat*4) (p1.toNat+(p0.length+1 - p1.toNat) - (IntKind.wrap .i64 (p1+(([x]:List α).length:Int))).toNat)= .view q ((p1.toNat+1)*4) (p0.length - p1.toNat):=by
   rw[hw3,Int.toNat_natCast,show p1.toNat+(p0.length+1 - p1.toNat) - (p1.toNat+1)=p0.length - p1.toNat from by omega]
 refine vz [] mixed (λw=>trivial) λw=> ?_
 refine zC 0 rfl (eZ (.vw _ _ _) rfl) ?_
 refine zI 1 rfl rfl ?_
 refine zI 2 rfl rfl ?_
 refine zC 3 rfl (lJ rfl rfl rfl trivial) ?_
 refine zC 4 rfl (fG (jM (by rw[hw3]; omega) (by rw[hw3]; omega) lA rfl rfl) (bB.of_eq hv4)) ?_
 refine zC 5 rfl (eZ (.vw _ _ _) rfl) ?_
 refine zI 6 rfl rfl ?_
 refine zC 7 rfl (jM (m:=p0.length) i0 (by omega) lA rfl rfl) ?_
 have e2:(List.drop (p1.toNat*4) (fl c p0 sp)).take ((p0.length - p1.toNat)*4)=B:=by
   rw[q1,← q2,List.drop_left,← q3,List.take_left]
 refine zE 8 rfl (lT 0 pF w rfl rfl (cs:=B) (by rw[← e2]; exact A3.view (aX 1 w rfl)) (n1:=p0.length - p1.toNat) (m:=p0.length - p1.toNat) (by rw[q3,Nat.min_self]) (by simp only[List.length_append,hxl,q2,hR2]; omega) (fl c (p0.take p1.toNat++x::p0.drop p1.toNat) R3) (by
 rw[q4 x R3,← List.append_assoc A,← List.append_assoc A]
 exact fN (A:=A++c x) (by rw[List.length_append,hxl,q2]; omega) hR2) λK1=>⟨trivial, ?_⟩)
 refine zX (qk (f:=VO 54 _ _ _ _ _ _ _ _ _ _) K1 rfl ?_)
 repeat refine vs ?_
 refine v0 (v0 ?_)
 subst ho
 have hol:(List.take p1.toNat p0++x::List.drop p1.toNat p0).length=p0.length+1:=by simp; omega
 refine vr λw=>dZ.one (.inl rfl) (bJ K1 [0] rfl).2 (bB.of_eq (show AV.vw q _ cap'=aw (some q) (p0.length+1) cap' by rw[hn0]; rfl)) ⟨⟨some q,p0.length+1,cap',R3⟩,⟨hol.symm,nofun,by rw[hol]; show p0.length+1≤cap'; omega,h2,by rw[hol]; show (p0.length+1)*4+R3.length=cap'*4; simp only[hR0,List.length_append,hR1,hR2,hxl] at h3; omega⟩,(bJ K1 [0] rfl).1,rfl,rfl⟩
 refine vf (by rw[hw]; exact decide_eq_false (show ¬(cap:Int) < ((p0.length+1:Nat):Int) by omega)) (v0 ?_)
 repeat refine vs ?_
 refine v0 ?_
 have hv0:AV.vw k (IntKind.wrap .i64 ((p0.length:Int)+(([x]:List α).length:Int))).toNat cap= .vw k (p0.length+1) cap:=by rw[hw,Int.toNat_natCast]
 refine bV (fG (yV (cap:=cap) (by rw[hw]; omega) (by rw[hw]; omega) lA rfl rfl) (bB.of_eq hv0)) ?_
 repeat refine vs ?_
 refine v0 ?_
 have hv4:AV.view k ((IntKind.wrap .i64 (p1+(([x]:List α).length:Int))).toNat*4) (p0.length+1 - (IntKind.wrap .i64 (p1+(([x]:List α).length:Int))).toNat)= .view k ((p1.toNat+1)*4) (p0.length - p1.toNat):=by
   rw[hw3,Int.toNat_natCast,show p0.length+1 - (p1.toNat+1)=p0.length - p1.toNat from by omega]
 refine bV (fG (jM (m:=p0.length+1) (by rw[hw3]; omega) (by rw[hw3]; omega) lA rfl rfl) (bB.of_eq hv4)) ?_
 have hfl:(fl c p0 sp).length=p1.toNat*4+((p0.length - p1.toNat)*4+sp.length):=by rw[q1,List.length_append,List.length_append,q2,q3]
 refine ve λw=>oX (sz:=4) (tS:=42) (tR:=4) Tryz.func193 (by kernel_rfl) (by kernel_rfl) (by kernel_rfl) (by kernel_rfl) pF (ys:=List.map c [x]) (by simp) (by decide) rfl rfl (aX 0 w rfl) (by rw[hfl]; omega) (qk w rfl ?_)
 refine v0 ?_
 repeat refine vs ?_
 refine v0 ?_
 refine vz [] mixed (λw=>trivial) λw=> ?_
 refine zC 0 rfl (eZ (.vw _ _ _) rfl) ?_
 refine zI 1 rfl rfl ?_
 refine zI 2 rfl rfl ?_
 refine zC 3 rfl (lJ rfl rfl rfl trivial) ?_
 refine zC 4 rfl (fG (jM (m:=p0.length+1) (by rw[hw3]; omega) (by rw[hw3]; omega) lA rfl rfl) (bB.of_eq hv4)) ?_
 refine zC 5 rfl (eZ (.vw _ _ _) rfl) ?_
 refine zI 6 rfl rfl ?_
 refine zC 7 rfl (jM (m:=p0.length+1) i0 (by omega) lA rfl rfl) ?_
 have hxl:=hc x
 have e2:(List.drop (p1.toNat*4) (fl c p0 sp)).take ((p0.length - p1.toNat)*4)=B:=by
   rw[q1,← q2,List.drop_left,← q3,List.take_left]
 have hsp:4≤sp.length:=by omega
 obtain⟨X0,Y,Z,hXY,hX0,hY⟩:∃X0 Y Z:List AV,B++sp=X0++(Y++Z)∧X0.length=4∧Y.length=B.length:=
 ⟨(B++sp).take 4,((B++sp).drop 4).take B.length,((B++sp).drop 4).drop B.length,by rw[List.take_append_drop,List.take_append_drop],by rw[List.length_take,List.length_append]; omega,by rw[List.length_take,List.length_drop,List.length_append]; omega⟩
 have hZ:Z.length+4=sp.length:=by
   have:=congrArg List.length hXY
   simp only[List.length_append] at this
   omega
 refine zE 8 rfl (lT 0 pF w rfl rfl (cs:=B) (by rw[← e2]; exact A3.view (aX 0 w rfl)) (n1:=p0.length - p1.toNat) (m:=p0.length+1 - p1.toNat) (by rw[q3]; congr 1; omega) (by show (p1.toNat+1)*4+B.length≤(fl c p0 sp).length; rw[hfl]; omega) (A++(X0++(B++Z))) (by
 show dV (fl c p0 sp) ((p1.toNat+1)*4) B=_
 rw[q1,hXY,← List.append_assoc A,← List.append_assoc A]
 exact fN (A:=A++X0) (by rw[List.length_append,hX0,q2]; omega) hY) λK1=>⟨trivial, ?_⟩)
 refine zX (qk (f:=VO 77 _ _ _ _ _ _ _ _ _ _) K1 rfl ?_)
 repeat refine vs ?_
 refine v0 (bV (jM (m:=p0.length+1) i0 (by omega) lA rfl rfl) ?_)
 refine ve λw=>lT 0 pF w rfl rfl (A3.sl (ys:=List.map c [x]) (by simp) _) (by simp[hxl]; omega) (by simp only[List.map_cons,List.map_nil,List.flatten_cons,List.flatten_nil,List.append_nil,List.length_append,q2,hX0,hxl]; omega) (fl c (p0.take p1.toNat++x::p0.drop p1.toNat) Z) (by
 simp only[List.map_cons,List.map_nil,List.flatten_cons,List.flatten_nil,List.append_nil]
 rw[q4 x Z]
 exact fN q2 (by rw[hX0,hxl])) λK1=>qk K1 rfl ?_
 repeat refine vs ?_
 refine v0 (v0 ?_)
 subst ho
 have hol:(List.take p1.toNat p0++x::List.drop p1.toNat p0).length=p0.length+1:=by simp; omega
 refine vr λw=>dZ.one (.inl rfl) (bJ w [0] rfl).2 (bB.of_eq (show AV.vw k _ cap=aw (some k) (p0.length+1) cap by rfl)) ⟨⟨some k,p0.length+1,cap,Z⟩,⟨hol.symm,nofun,by rw[hol]; show p0.length+1≤cap; omega,hmx,by rw[hol]; show (p0.length+1)*4+Z.length=cap*4; omega⟩,(bJ w [0] rfl).1,rfl,rfl⟩
theorem YZ:aP Tryz.prog 187=true:=by kernel_rfl
theorem aEM {α:Type} {c:α→List AV} (hc:∀y,(c y).length=3) {p0 o:List α} {p1:Int} {x:α} (h:aE) {g:dC} (ok:bM g 3 p0.length) (K0:bQ h [(g.t,.obj 99 (fl c p0 g.sp))]) (u:pI p0 p1 x=some o):
 aL Tryz.prog 180 [aZ g,nZ p1,.sl none 3 (List.map c [x])] (hp h [(g.t,.obj 99 (fl c p0 g.sp))]) (λr h'=>∃g:dC,bM g 3 o.length∧bQ h [(g.t,.obj 99 (fl c o g.sp))]∧r=aZ g∧h'=hp h [(g.t,.obj 99 (fl c o g.sp))]):=by
 obtain⟨i0,i1,i2,ho⟩:=lD u
 have hv1:((([x]:List α).length:Int)==0)=false:=rfl
 refine B9 K0 95 [.tmp 6] Tryz.func180 rfl rfl rfl rfl ?_
 repeat refine vs ?_
 refine v0 ?_
 repeat refine vs ?_
 refine v0 (bV (G0 i0 i1 ok jY rfl rfl) ?_)
 repeat refine vs ?_
 refine v0 (cY qN rfl ?_)
 repeat refine vs ?_
 refine v0 (v0 ?_)
 show VC _ _ _ Code.skip _ _ _ _
 refine v0 ?_
 repeat refine vs ?_
 refine v0 (bV (eR qN ok rfl) ?_)
 repeat refine vs ?_
 refine v0 (v0 ?_)
 by_cases hi:p1=(p0.length:Int)
 refine vt (by simpa using hi) ?_
 repeat refine vs ?_
 refine v0 ?_
 refine ve λw=>fS (c:=c) 0 (CS i2) pC rfl u6 rfl hc rfl rfl ok w rfl λg' ok' hk'=>qk hk' rfl ?_
 refine v0 ?_
 have e:o=p0++ [x]:=by subst hi; rw[ho]; simp
 subst e
 exact vr λw=>dZ.one (.inl rfl) (iT.refl _) (bB.refl _ _) ⟨g',ok',w,rfl,rfl⟩
 refine vf (by simpa using hi) (v0 ?_)
 have hlt:p1.toNat < p0.length:=by omega
 obtain⟨gt,gn,cap,sp⟩:=g
 have hne:gt≠none:=λe=>by have:=ok.nil e; omega
 obtain⟨k,rfl⟩:∃k,gt=some k:=by cases gt with
 | none=>exact absurd rfl hne
 | some k=>exact⟨k,rfl⟩
 have hgn:gn=p0.length:=ok.eqn
 subst hgn
 have hle:p0.length≤cap:=ok.le
 have hmx:cap≤maxLen:=ok.mx
 have hlen:p0.length*3+sp.length=cap*3:=ok.len
 have hw:IntKind.wrap .i64 ((p0.length:Int)+(([x]:List α).length:Int))=((p0.length+1:Nat):Int):=by
   rw[IntKind.wrap_i64]; simp only[List.length_singleton]; omega
 have hw2:IntKind.wrap .i64 (IntKind.wrap .i64 ((p0.length:Int)+(([x]:List α).length:Int)) - p1)=((p0.length+1 - p1.toNat:Nat):Int):=by
   rw[hw,IntKind.wrap_i64]; omega
 have hw3:IntKind.wrap .i64 (p1+(([x]:List α).length:Int))=((p1.toNat+1:Nat):Int):=by
   rw[IntKind.wrap_i64]; simp only[List.length_singleton]; omega
 obtain⟨q1,q2,q3,q4⟩:=n4 hc (i:=p1.toNat) (by omega:p1.toNat≤p0.length) sp
 generalize hA:((p0.take p1.toNat).map c).flatten=A at q1 q2 q4
 generalize hB:((p0.drop p1.toNat).map c).flatten=B at q1 q3 q4
 repeat refine vs ?_
 refine v0 (bV (GY u27 rfl) (v0 ?_))
 by_cases hcap:cap < p0.length+1
 refine vt (by rw[hw]; exact decide_eq_true (show (cap:Int) < ((p0.length+1:Nat):Int) by omega)) ?_
 repeat refine vs ?_
 refine v0 (bV (yV (cap:=cap) i0 (by omega) jY rfl rfl) ?_)
 refine ve λw=>GZ (cap:=cap) (cs:=fl c p0 sp) (i:=p1.toNat) (m:=p0.length+1 - p1.toNat) 0 pC u3 u6 rfl (by decide) w rfl rfl (congrArg (λz=>AV.sc (.int .i64 z)) hw2) (by omega) (by rw[q1]; simp only[List.length_append]; omega) (by omega) λq cap' R h1 h2 h3 hk'=>qk hk' rfl ?_
 repeat refine vs ?_
 refine v0 (bV (jM i0 (by omega) jY rfl rfl) ?_)
 have hn0:p1.toNat+(p0.length+1 - p1.toNat)=p0.length+1:=by omega
 have hn1:p1.toNat+(p0.length+1 - p1.toNat) - p1.toNat=p0.length+1 - p1.toNat:=by omega
 have e1:List.take (p1.toNat*3) (fl c p0 sp)=A:=by rw[q1,← q2,List.take_left]
 have hxl:=hc x
 have hR:3+B.length≤R.length:=by omega
 have hfl:(fl c p0 sp).length=A.length+(B.length+sp.length):=by rw[q1]; simp
 obtain⟨R1,R2,R3,hR0,hR1,hR2⟩:∃R1 R2 R3:List AV,R=R1++(R2++R3)∧R1.length=(c x).length∧R2.length=B.length:=
 ⟨R.take 3,(R.drop 3).take B.length,(R.drop 3).drop B.length,by rw[List.take_append_drop,List.take_append_drop],by rw[List.length_take,hxl]; omega,by rw[List.length_take,List.length_drop]; omega⟩
 refine ve λw=>lT 0 pC w rfl rfl (A3.sl (ys:=List.map c [x]) (by simp) _) (by simp[hxl]; omega) (by rw[e1]; simp only[List.length_append]; simp[hxl,q2]; omega) (A++(c x++(R2++R3))) (by
 rw[e1,hR0]
 simp only[List.map_cons,List.map_nil,List.flatten_cons,List.flatten_nil,List.append_nil]
 exact fN q2 hR1) λhk'=>qk hk' rfl ?_
 repeat refine vs ?_
 refine v0 ?_
 have hv4:AV.view q ((IntKind.wrap .i64 (p1+(([x]:List α).length:Int))).toNat*3) (p1.toNat+(p0.length+1 - p1.toNat) - (IntKind.wrap .i64 (p1+(([x]:List α).length:Int))).toNat)= .view q ((p1.toNat+1)*3) (p0.length - p1.toNat):=by
   rw[hw3,Int.toNat_natCast,show p1.toNat+(p0.length+1 - p1.toNat) - (p1.toNat+1)=p0.length - p1.toNat from by omega]
 refine vz [] mixed (λw=>trivial) λw=> ?_
 refine zC 0 rfl (eZ (.vw _ _ _) rfl) ?_
 refine zI 1 rfl rfl ?_
 refine zI 2 rfl rfl ?_
 refine zC 3 rfl (lJ rfl rfl rfl trivial) ?_
 refine zC 4 rfl (fG (jM (by rw[hw3]; omega) (by rw[hw3]; omega) jY rfl rfl) (bB.of_eq hv4)) ?_
 refine zC 5 rfl (eZ (.vw _ _ _) rfl) ?_
 refine zI 6 rfl rfl ?_
 refine zC 7 rfl (jM (m:=p0.length) i0 (by omega) jY rfl rfl) ?_
 have e2:(List.drop (p1.toNat*3) (fl c p0 sp)).take ((p0.length - p1.toNat)*3)=B:=by
   rw[q1,← q2,List.drop_left,← q3,List.take_left]
 refine zE 8 rfl (lT 0 pC w rfl rfl (cs:=B) (by rw[← e2]; exact A3.view (aX 1 w rfl)) (n1:=p0.length - p1.toNat) (m:=p0.length - p1.toNat) (by rw[q3,Nat.min_self]) (by simp only[List.length_append,hxl,q2,hR2]; omega) (fl c (p0.take p1.toNat++x::p0.drop p1.toNat) R3) (by
 rw[q4 x R3,← List.append_assoc A,← List.append_assoc A]
 exact fN (A:=A++c x) (by rw[List.length_append,hxl,q2]; omega) hR2) λK1=>⟨trivial, ?_⟩)
 refine zX (qk (f:=VO 54 _ _ _ _ _ _ _ _ _ _) K1 rfl ?_)
 repeat refine vs ?_
 refine v0 (v0 ?_)
 subst ho
 have hol:(List.take p1.toNat p0++x::List.drop p1.toNat p0).length=p0.length+1:=by simp; omega
 refine vr λw=>dZ.one (.inl rfl) (bJ K1 [0] rfl).2 (bB.of_eq (show AV.vw q _ cap'=aw (some q) (p0.length+1) cap' by rw[hn0]; rfl)) ⟨⟨some q,p0.length+1,cap',R3⟩,⟨hol.symm,nofun,by rw[hol]; show p0.length+1≤cap'; omega,h2,by rw[hol]; show (p0.length+1)*3+R3.length=cap'*3; simp only[hR0,List.length_append,hR1,hR2,hxl] at h3; omega⟩,(bJ K1 [0] rfl).1,rfl,rfl⟩
 refine vf (by rw[hw]; exact decide_eq_false (show ¬(cap:Int) < ((p0.length+1:Nat):Int) by omega)) (v0 ?_)
 repeat refine vs ?_
 refine v0 ?_
 have hv0:AV.vw k (IntKind.wrap .i64 ((p0.length:Int)+(([x]:List α).length:Int))).toNat cap= .vw k (p0.length+1) cap:=by rw[hw,Int.toNat_natCast]
 refine bV (fG (yV (cap:=cap) (by rw[hw]; omega) (by rw[hw]; omega) jY rfl rfl) (bB.of_eq hv0)) ?_
 repeat refine vs ?_
 refine v0 ?_
 have hv4:AV.view k ((IntKind.wrap .i64 (p1+(([x]:List α).length:Int))).toNat*3) (p0.length+1 - (IntKind.wrap .i64 (p1+(([x]:List α).length:Int))).toNat)= .view k ((p1.toNat+1)*3) (p0.length - p1.toNat):=by
   rw[hw3,Int.toNat_natCast,show p0.length+1 - (p1.toNat+1)=p0.length - p1.toNat from by omega]
 refine bV (fG (jM (m:=p0.length+1) (by rw[hw3]; omega) (by rw[hw3]; omega) jY rfl rfl) (bB.of_eq hv4)) ?_
 have hfl:(fl c p0 sp).length=p1.toNat*3+((p0.length - p1.toNat)*3+sp.length):=by rw[q1,List.length_append,List.length_append,q2,q3]
 refine ve λw=>oX (sz:=3) (tS:=27) (tR:=4) Tryz.func188 (by kernel_rfl) (by kernel_rfl) (by kernel_rfl) (by kernel_rfl) pC (ys:=List.map c [x]) (by simp) (by decide) rfl rfl (aX 0 w rfl) (by rw[hfl]; omega) (qk w rfl ?_)
 refine v0 ?_
 repeat refine vs ?_
 refine v0 ?_
 refine vz [] mixed (λw=>trivial) λw=> ?_
 refine zC 0 rfl (eZ (.vw _ _ _) rfl) ?_
 refine zI 1 rfl rfl ?_
 refine zI 2 rfl rfl ?_
 refine zC 3 rfl (lJ rfl rfl rfl trivial) ?_
 refine zC 4 rfl (fG (jM (m:=p0.length+1) (by rw[hw3]; omega) (by rw[hw3]; omega) jY rfl rfl) (bB.of_eq hv4)) ?_
 refine zC 5 rfl (eZ (.vw _ _ _) rfl) ?_
 refine zI 6 rfl rfl ?_
 refine zC 7 rfl (jM (m:=p0.length+1) i0 (by omega) jY rfl rfl) ?_
 have hxl:=hc x
 have e2:(List.drop (p1.toNat*3) (fl c p0 sp)).take ((p0.length - p1.toNat)*3)=B:=by
   rw[q1,← q2,List.drop_left,← q3,List.take_left]
 have hsp:3≤sp.length:=by omega
 obtain⟨X0,Y,Z,hXY,hX0,hY⟩:∃X0 Y Z:List AV,B++sp=X0++(Y++Z)∧X0.length=3∧Y.length=B.length:=
 ⟨(B++sp).take 3,((B++sp).drop 3).take B.length,((B++sp).drop 3).drop B.length,by rw[List.take_append_drop,List.take_append_drop],by rw[List.length_take,List.length_append]; omega,by rw[List.length_take,List.length_drop,List.length_append]; omega⟩
 have hZ:Z.length+3=sp.length:=by
   have:=congrArg List.length hXY
   simp only[List.length_append] at this
   omega
 refine zE 8 rfl (lT 0 pC w rfl rfl (cs:=B) (by rw[← e2]; exact A3.view (aX 0 w rfl)) (n1:=p0.length - p1.toNat) (m:=p0.length+1 - p1.toNat) (by rw[q3]; congr 1; omega) (by show (p1.toNat+1)*3+B.length≤(fl c p0 sp).length; rw[hfl]; omega) (A++(X0++(B++Z))) (by
 show dV (fl c p0 sp) ((p1.toNat+1)*3) B=_
 rw[q1,hXY,← List.append_assoc A,← List.append_assoc A]
 exact fN (A:=A++X0) (by rw[List.length_append,hX0,q2]; omega) hY) λK1=>⟨trivial, ?_⟩)
 refine zX (qk (f:=VO 77 _ _ _ _ _ _ _ _ _ _) K1 rfl ?_)
 repeat refine vs ?_
 refine v0 (bV (jM (m:=p0.length+1) i0 (by omega) jY rfl rfl) ?_)
 refine ve λw=>lT 0 pC w rfl rfl (A3.sl (ys:=List.map c [x]) (by simp) _) (by simp[hxl]; omega) (by simp only[List.map_cons,List.map_nil,List.flatten_cons,List.flatten_nil,List.append_nil,List.length_append,q2,hX0,hxl]; omega) (fl c (p0.take p1.toNat++x::p0.drop p1.toNat) Z) (by
 simp only[List.map_cons,List.map_nil,List.flatten_cons,List.flatten_nil,List.append_nil]
 rw[q4 x Z]
 exact fN q2 (by rw[hX0,hxl])) λK1=>qk K1 rfl ?_
 repeat refine vs ?_
 refine v0 (v0 ?_)
 subst ho
 have hol:(List.take p1.toNat p0++x::List.drop p1.toNat p0).length=p0.length+1:=by simp; omega
 refine vr λw=>dZ.one (.inl rfl) (bJ w [0] rfl).2 (bB.of_eq (show AV.vw k _ cap=aw (some k) (p0.length+1) cap by rfl)) ⟨⟨some k,p0.length+1,cap,Z⟩,⟨hol.symm,nofun,by rw[hol]; show p0.length+1≤cap; omega,hmx,by rw[hol]; show (p0.length+1)*3+Z.length=cap*3; omega⟩,(bJ w [0] rfl).1,rfl,rfl⟩
theorem ZA:aP Tryz.prog 180=true:=by kernel_rfl
theorem aEN {α:Type} {c:α→List AV} (hc:∀y,(c y).length=35) {p0 o:List α} {p1:Int} {x:α} (h:aE) {g:dC} (ok:bM g 35 p0.length) (K0:bQ h [(g.t,.obj 44 (fl c p0 g.sp))]) (u:pI p0 p1 x=some o):
 aL Tryz.prog 117 [aZ g,nZ p1,.sl none 35 (List.map c [x])] (hp h [(g.t,.obj 44 (fl c p0 g.sp))]) (λr h'=>∃g:dC,bM g 35 o.length∧bQ h [(g.t,.obj 44 (fl c o g.sp))]∧r=aZ g∧h'=hp h [(g.t,.obj 44 (fl c o g.sp))]):=by
 obtain⟨i0,i1,i2,ho⟩:=lD u
 have hv1:((([x]:List α).length:Int)==0)=false:=rfl
 refine B9 K0 95 [.tmp 6] Tryz.func117 rfl rfl rfl rfl ?_
 repeat refine vs ?_
 refine v0 ?_
 repeat refine vs ?_
 refine v0 (bV (G0 i0 i1 ok fH rfl rfl) ?_)
 repeat refine vs ?_
 refine v0 (cY jG rfl ?_)
 repeat refine vs ?_
 refine v0 (v0 ?_)
 show VC _ _ _ Code.skip _ _ _ _
 refine v0 ?_
 repeat refine vs ?_
 refine v0 (bV (eR jG ok rfl) ?_)
 repeat refine vs ?_
 refine v0 (v0 ?_)
 by_cases hi:p1=(p0.length:Int)
 refine vt (by simpa using hi) ?_
 repeat refine vs ?_
 refine v0 ?_
 refine ve λw=>fS (c:=c) 0 (CS i2) lK rfl oK rfl hc rfl rfl ok w rfl λg' ok' hk'=>qk hk' rfl ?_
 refine v0 ?_
 have e:o=p0++ [x]:=by subst hi; rw[ho]; simp
 subst e
 exact vr λw=>dZ.one (.inl rfl) (iT.refl _) (bB.refl _ _) ⟨g',ok',w,rfl,rfl⟩
 refine vf (by simpa using hi) (v0 ?_)
 have hlt:p1.toNat < p0.length:=by omega
 obtain⟨gt,gn,cap,sp⟩:=g
 have hne:gt≠none:=λe=>by have:=ok.nil e; omega
 obtain⟨k,rfl⟩:∃k,gt=some k:=by cases gt with
 | none=>exact absurd rfl hne
 | some k=>exact⟨k,rfl⟩
 have hgn:gn=p0.length:=ok.eqn
 subst hgn
 have hle:p0.length≤cap:=ok.le
 have hmx:cap≤maxLen:=ok.mx
 have hlen:p0.length*35+sp.length=cap*35:=ok.len
 have hw:IntKind.wrap .i64 ((p0.length:Int)+(([x]:List α).length:Int))=((p0.length+1:Nat):Int):=by
   rw[IntKind.wrap_i64]; simp only[List.length_singleton]; omega
 have hw2:IntKind.wrap .i64 (IntKind.wrap .i64 ((p0.length:Int)+(([x]:List α).length:Int)) - p1)=((p0.length+1 - p1.toNat:Nat):Int):=by
   rw[hw,IntKind.wrap_i64]; omega
 have hw3:IntKind.wrap .i64 (p1+(([x]:List α).length:Int))=((p1.toNat+1:Nat):Int):=by
   rw[IntKind.wrap_i64]; simp only[List.length_singleton]; omega
 obtain⟨q1,q2,q3,q4⟩:=n4 hc (i:=p1.toNat) (by omega:p1.toNat≤p0.length) sp
 generalize hA:((p0.take p1.toNat).map c).flatten=A at q1 q2 q4
 generalize hB:((p0.drop p1.toNat).map c).flatten=B at q1 q3 q4
 repeat refine vs ?_
 refine v0 (bV (GY u26 rfl) (v0 ?_))
 by_cases hcap:cap < p0.length+1
 refine vt (by rw[hw]; exact decide_eq_true (show (cap:Int) < ((p0.length+1:Nat):Int) by omega)) ?_
 repeat refine vs ?_
 refine v0 (bV (yV (cap:=cap) i0 (by omega) fH rfl rfl) ?_)
 refine ve λw=>GZ (cap:=cap) (cs:=fl c p0 sp) (i:=p1.toNat) (m:=p0.length+1 - p1.toNat) 0 lK u3 oK rfl (by decide) w rfl rfl (congrArg (λz=>AV.sc (.int .i64 z)) hw2) (by omega) (by rw[q1]; simp only[List.length_append]; omega) (by omega) λq cap' R h1 h2 h3 hk'=>qk hk' rfl ?_
 repeat refine vs ?_
 refine v0 (bV (jM i0 (by omega) fH rfl rfl) ?_)
 have hn0:p1.toNat+(p0.length+1 - p1.toNat)=p0.length+1:=by omega
 have hn1:p1.toNat+(p0.length+1 - p1.toNat) - p1.toNat=p0.length+1 - p1.toNat:=by omega
 have e1:List.take (p1.toNat*35) (fl c p0 sp)=A:=by rw[q1,← q2,List.take_left]
 have hxl:=hc x
 have hR:35+B.length≤R.length:=by omega
 have hfl:(fl c p0 sp).length=A.length+(B.length+sp.length):=by rw[q1]; simp
 obtain⟨R1,R2,R3,hR0,hR1,hR2⟩:∃R1 R2 R3:List AV,R=R1++(R2++R3)∧R1.length=(c x).length∧R2.length=B.length:=
 ⟨R.take 35,(R.drop 35).take B.length,(R.drop 35).drop B.length,by rw[List.take_append_drop,List.take_append_drop],by rw[List.length_take,hxl]; omega,by rw[List.length_take,List.length_drop]; omega⟩
 refine ve λw=>lT 0 lK w rfl rfl (A3.sl (ys:=List.map c [x]) (by simp) _) (by simp[hxl]; omega) (by rw[e1]; simp only[List.length_append]; simp[hxl,q2]; omega) (A++(c x++(R2++R3))) (by
 rw[e1,hR0]
 simp only[List.map_cons,List.map_nil,List.flatten_cons,List.flatten_nil,List.append_nil]
 exact fN q2 hR1) λhk'=>qk hk' rfl ?_
 repeat refine vs ?_
 refine v0 ?_
 have hv4:AV.view q ((IntKind.wrap .i64 (p1+(([x]:List α).length:Int))).toNat*35) (p1.toNat+(p0.length+1 - p1.toNat) - (IntKind.wrap .i64 (p1+(([x]:List α).length:Int))).toNat)= .view q ((p1.toNat+1)*35) (p0.length - p1.toNat):=by
   rw[hw3,Int.toNat_natCast,show p1.toNat+(p0.length+1 - p1.toNat) - (p1.toNat+1)=p0.length - p1.toNat from by omega]
 refine vz [] mixed (λw=>trivial) λw=> ?_
 refine zC 0 rfl (eZ (.vw _ _ _) rfl) ?_
 refine zI 1 rfl rfl ?_
 refine zI 2 rfl rfl ?_
 refine zC 3 rfl (lJ rfl rfl rfl trivial) ?_
 refine zC 4 rfl (fG (jM (by rw[hw3]; omega) (by rw[hw3]; omega) fH rfl rfl) (bB.of_eq hv4)) ?_
 refine zC 5 rfl (eZ (.vw _ _ _) rfl) ?_
 refine zI 6 rfl rfl ?_
 refine zC 7 rfl (jM (m:=p0.length) i0 (by omega) fH rfl rfl) ?_
 have e2:(List.drop (p1.toNat*35) (fl c p0 sp)).take ((p0.length - p1.toNat)*35)=B:=by
   rw[q1,← q2,List.drop_left,← q3,List.take_left]
 refine zE 8 rfl (lT 0 lK w rfl rfl (cs:=B) (by rw[← e2]; exact A3.view (aX 1 w rfl)) (n1:=p0.length - p1.toNat) (m:=p0.length - p1.toNat) (by rw[q3,Nat.min_self]) (by simp only[List.length_append,hxl,q2,hR2]; omega) (fl c (p0.take p1.toNat++x::p0.drop p1.toNat) R3) (by
 rw[q4 x R3,← List.append_assoc A,← List.append_assoc A]
 exact fN (A:=A++c x) (by rw[List.length_append,hxl,q2]; omega) hR2) λK1=>⟨trivial, ?_⟩)
 refine zX (qk (f:=VO 54 _ _ _ _ _ _ _ _ _ _) K1 rfl ?_)
 repeat refine vs ?_
 refine v0 (v0 ?_)
 subst ho
 have hol:(List.take p1.toNat p0++x::List.drop p1.toNat p0).length=p0.length+1:=by simp; omega
 refine vr λw=>dZ.one (.inl rfl) (bJ K1 [0] rfl).2 (bB.of_eq (show AV.vw q _ cap'=aw (some q) (p0.length+1) cap' by rw[hn0]; rfl)) ⟨⟨some q,p0.length+1,cap',R3⟩,⟨hol.symm,nofun,by rw[hol]; show p0.length+1≤cap'; omega,h2,by rw[hol]; show (p0.length+1)*35+R3.length=cap'*35; simp only[hR0,List.length_append,hR1,hR2,hxl] at h3; omega⟩,(bJ K1 [0] rfl).1,rfl,rfl⟩
 refine vf (by rw[hw]; exact decide_eq_false (show ¬(cap:Int) < ((p0.length+1:Nat):Int) by omega)) (v0 ?_)
 repeat refine vs ?_
 refine v0 ?_
 have hv0:AV.vw k (IntKind.wrap .i64 ((p0.length:Int)+(([x]:List α).length:Int))).toNat cap= .vw k (p0.length+1) cap:=by rw[hw,Int.toNat_natCast]
 refine bV (fG (yV (cap:=cap) (by rw[hw]; omega) (by rw[hw]; omega) fH rfl rfl) (bB.of_eq hv0)) ?_
 repeat refine vs ?_
 refine v0 ?_
 have hv4:AV.view k ((IntKind.wrap .i64 (p1+(([x]:List α).length:Int))).toNat*35) (p0.length+1 - (IntKind.wrap .i64 (p1+(([x]:List α).length:Int))).toNat)= .view k ((p1.toNat+1)*35) (p0.length - p1.toNat):=by
   rw[hw3,Int.toNat_natCast,show p0.length+1 - (p1.toNat+1)=p0.length - p1.toNat from by omega]
 refine bV (fG (jM (m:=p0.length+1) (by rw[hw3]; omega) (by rw[hw3]; omega) fH rfl rfl) (bB.of_eq hv4)) ?_
 have hfl:(fl c p0 sp).length=p1.toNat*35+((p0.length - p1.toNat)*35+sp.length):=by rw[q1,List.length_append,List.length_append,q2,q3]
 refine ve λw=>oX (sz:=35) (tS:=26) (tR:=4) Tryz.func173 (by kernel_rfl) (by kernel_rfl) (by kernel_rfl) (by kernel_rfl) lK (ys:=List.map c [x]) (by simp) (by decide) rfl rfl (aX 0 w rfl) (by rw[hfl]; omega) (qk w rfl ?_)
 refine v0 ?_
 repeat refine vs ?_
 refine v0 ?_
 refine vz [] mixed (λw=>trivial) λw=> ?_
 refine zC 0 rfl (eZ (.vw _ _ _) rfl) ?_
 refine zI 1 rfl rfl ?_
 refine zI 2 rfl rfl ?_
 refine zC 3 rfl (lJ rfl rfl rfl trivial) ?_
 refine zC 4 rfl (fG (jM (m:=p0.length+1) (by rw[hw3]; omega) (by rw[hw3]; omega) fH rfl rfl) (bB.of_eq hv4)) ?_
 refine zC 5 rfl (eZ (.vw _ _ _) rfl) ?_
 refine zI 6 rfl rfl ?_
 refine zC 7 rfl (jM (m:=p0.length+1) i0 (by omega) fH rfl rfl) ?_
 have hxl:=hc x
 have e2:(List.drop (p1.toNat*35) (fl c p0 sp)).take ((p0.length - p1.toNat)*35)=B:=by
   rw[q1,← q2,List.drop_left,← q3,List.take_left]
 have hsp:35≤sp.length:=by omega
 obtain⟨X0,Y,Z,hXY,hX0,hY⟩:∃X0 Y Z:List AV,B++sp=X0++(Y++Z)∧X0.length=35∧Y.length=B.length:=
 ⟨(B++sp).take 35,((B++sp).drop 35).take B.length,((B++sp).drop 35).drop B.length,by rw[List.take_append_drop,List.take_append_drop],by rw[List.length_take,List.length_append]; omega,by rw[List.length_take,List.length_drop,List.length_append]; omega⟩
 have hZ:Z.length+35=sp.length:=by
   have:=congrArg List.length hXY
   simp only[List.length_append] at this
   omega
 refine zE 8 rfl (lT 0 lK w rfl rfl (cs:=B) (by rw[← e2]; exact A3.view (aX 0 w rfl)) (n1:=p0.length - p1.toNat) (m:=p0.length+1 - p1.toNat) (by rw[q3]; congr 1; omega) (by show (p1.toNat+1)*35+B.length≤(fl c p0 sp).length; rw[hfl]; omega) (A++(X0++(B++Z))) (by
 show dV (fl c p0 sp) ((p1.toNat+1)*35) B=_
 rw[q1,hXY,← List.append_assoc A,← List.append_assoc A]
 exact fN (A:=A++X0) (by rw[List.length_append,hX0,q2]; omega) hY) λK1=>⟨trivial, ?_⟩)
 refine zX (qk (f:=VO 77 _ _ _ _ _ _ _ _ _ _) K1 rfl ?_)
 repeat refine vs ?_
 refine v0 (bV (jM (m:=p0.length+1) i0 (by omega) fH rfl rfl) ?_)
 refine ve λw=>lT 0 lK w rfl rfl (A3.sl (ys:=List.map c [x]) (by simp) _) (by simp[hxl]; omega) (by simp only[List.map_cons,List.map_nil,List.flatten_cons,List.flatten_nil,List.append_nil,List.length_append,q2,hX0,hxl]; omega) (fl c (p0.take p1.toNat++x::p0.drop p1.toNat) Z) (by
 simp only[List.map_cons,List.map_nil,List.flatten_cons,List.flatten_nil,List.append_nil]
 rw[q4 x Z]
 exact fN q2 (by rw[hX0,hxl])) λK1=>qk K1 rfl ?_
 repeat refine vs ?_
 refine v0 (v0 ?_)
 subst ho
 have hol:(List.take p1.toNat p0++x::List.drop p1.toNat p0).length=p0.length+1:=by simp; omega
 refine vr λw=>dZ.one (.inl rfl) (bJ w [0] rfl).2 (bB.of_eq (show AV.vw k _ cap=aw (some k) (p0.length+1) cap by rfl)) ⟨⟨some k,p0.length+1,cap,Z⟩,⟨hol.symm,nofun,by rw[hol]; show p0.length+1≤cap; omega,hmx,by rw[hol]; show (p0.length+1)*35+Z.length=cap*35; omega⟩,(bJ w [0] rfl).1,rfl,rfl⟩
theorem ZB:aP Tryz.prog 117=true:=by kernel_rfl
open Go.Vm
def p5 (m:Nat) (p0:List bE) (p1:bE) (q0:Int):Option (Lp (Int) ((List bE))):=
 after (if (decide (0 < q0))=true then ((ix p0 (IntKind.wrap .i64 (q0 - 1))).bind λx0=>if (decide (p1.Vol < x0.Vol))=true then (some (.brk true)) else (ix p0 (IntKind.wrap .i64 (q0 - 1))).bind λx1=>if (x1.Vol==p1.Vol)=true then ((ix p0 (IntKind.wrap .i64 (q0 - 1))).bind λx2=>if (decide (p1.File < x2.File))=true then (some (.brk true)) else (ix p0 (IntKind.wrap .i64 (q0 - 1))).bind λx3=>if (x3.File==p1.File)=true then ((ix p0 (IntKind.wrap .i64 (q0 - 1))).bind λx4=>some (.brk (decide (p1.Off < x4.Off)))) else some (.brk false)) else some (.brk false)) else some (.brk false):Option (Lp (Bool) (Lp (Int) ((List bE))))) λj0=>if j0=true then (some (.go (IntKind.wrap .i64 (q0 - 1)))) else some (.brk q0)
def vY (m:Nat) (p0:List bE) (p1:bE):Option ((List bE)):=
 after (aU (λs=>p5 m p0 p1 s) m (p0.length:Int)) λr0=>(pI p0 r0 (p1:bE)).bind λy0=>some y0
theorem M4 {w:Nat} {p0:List bE} {p1:bE} {o:(List bE)} (h:aE) {g_p0:dC} (ok_p0:bM g_p0 4 p0.length) (K0:bQ h [jZ g_p0 p0]) (m:vY w p0 p1=some o):
 aL Tryz.prog 176 [aZ g_p0,.agg (aQ p1)] (hp h [jZ g_p0 p0]) (λr h'=>∃g:dC,bM g 4 o.length∧bQ h [(g.t,.obj 81 (fl aQ o g.sp))]∧r=aZ g∧h'=hp h [(g.t,.obj 81 (fl aQ o g.sp))]):=by
 refine B9 K0 72 [.tmp 4] Tryz.func176 rfl rfl rfl rfl ?_
 unfold vY at m
 refine vs (v0 (hX rfl rfl λk2 K3=>vs (v0 (bV (eR jO ok_p0 rfl) (vs (kD m (σ:=Int) (λs=> [(some k2,.obj 81 (aQ p1)),jZ g_p0 p0]) (λs=>.c 0 (aZ g_p0) (.c 3 (.ptr k2 0) (.c 5 (nZ s) .nil))) (lx (.k3 .nil)) ?_ ?_))))))
 rintro _ q0 x m
 replace m:p5 w p0 p1 q0=some x:=m
 unfold p5 at m
 refine vs (vs (fQ m (σ:=Bool) (λs=> [(some k2,.obj 81 (aQ p1)),jZ g_p0 p0]) (λs=>.c 0 (aZ g_p0) (.c 3 (.ptr k2 0) (.c 5 (nZ q0) (.c 64 (.sc (.bool s)) .nil)))) (λx m=> ?_) ?_))
 refine v0 (zM (by kernel_rfl) ?_)
 apply vi m <;> intro b0 m
 rw[b0]
 obtain⟨x0,X0,m⟩:=aC m
 refine bV (dJ X0 lA ok_p0 rfl rfl) (bV (cZ (bM.ne ok_p0 X0) CJ rfl rfl) (vn (λu=>eT (fo:=0) (nZ x0.Vol) X0 f9 ok_p0 cD rfl (aK 1 u rfl) (λ_=>rfl)) (dP CJ rfl rfl (vl 0 _ cD rfl rfl rfl ?_))))
 apply vi m <;> intro b1 m
 rw[b1]
 exact gJ m
 rw[b1]
 obtain⟨x1,X1,m⟩:=aC m
 refine bV (dJ X1 lA ok_p0 rfl rfl) (bV (cZ (bM.ne ok_p0 X1) CJ rfl rfl) (vn (λu=>eT (fo:=0) (nZ x1.Vol) X1 f9 ok_p0 cD rfl (aK 1 u rfl) (λ_=>rfl)) (dP CJ rfl rfl (vl 0 _ cD rfl rfl rfl ?_))))
 apply vi m <;> intro b2 m
 rw[b2]
 obtain⟨x2,X2,m⟩:=aC m
 refine bV (dJ X2 lA ok_p0 rfl rfl) (bV (cZ (bM.ne ok_p0 X2) CK rfl rfl) (vn (λu=>eT (fo:=1) (nZ x2.File) X2 f9 ok_p0 cD rfl (aK 1 u rfl) (λ_=>rfl)) (dP CK rfl rfl (vl 0 _ cD rfl rfl rfl ?_))))
 apply vi m <;> intro b3 m
 rw[b3]
 exact gJ m
 rw[b3]
 obtain⟨x3,X3,m⟩:=aC m
 refine bV (dJ X3 lA ok_p0 rfl rfl) (bV (cZ (bM.ne ok_p0 X3) CK rfl rfl) (vn (λu=>eT (fo:=1) (nZ x3.File) X3 f9 ok_p0 cD rfl (aK 1 u rfl) (λ_=>rfl)) (dP CK rfl rfl (vl 0 _ cD rfl rfl rfl ?_))))
 apply vi m <;> intro b4 m
 rw[b4]
 obtain⟨x4,X4,m⟩:=aC m
 exact bV (dJ X4 lA ok_p0 rfl rfl) (bV (cZ (bM.ne ok_p0 X4) LW rfl rfl) (vn (λu=>eT (fo:=2) (nZ x4.Off) X4 f9 ok_p0 cD rfl (aK 1 u rfl) (λ_=>rfl)) (dP LW rfl rfl (vl 0 _ cD rfl rfl rfl (gJ m)))))
 rw[b4]
 exact gJ m
 rw[b2]
 exact gJ m
 rw[b0]
 exact gJ m
 rintro _ j0 m
 refine v0 ?_
 apply vi m <;> intro c0 m
 exact v0 (v0 (v0 (gY m)))
 exact v0 (EC m)
 rintro _ r0 m
 refine vs (v0 (vl 0 (.agg (aQ p1)) oM rfl rfl rfl (bV (eD (List.map aQ ([p1]:List bE)) pF rfl rfl rfl rfl) ?_)))
 obtain⟨y0,Y0,m⟩:=aC m
 refine ve λu=> ?_
 have ho0:=lX (A:= [jZ g_p0 p0]) (R:= [(some k2,.obj 81 (aQ p1))]) u [[_], [_]] rfl [1] [0] rfl rfl rfl
 refine dO ho0.1 (cR (aEL f9 _ ok_p0 ho0.2.2 Y0) rfl YZ rfl ?_)
 rintro x h' ⟨ag0,O0,K1,rfl,rfl⟩
 have K2:=lY (L':= [(some k2,.obj 81 (aQ p1)),jZ ag0 y0]) ho0.2.1 K1 [[_]] [[_]] rfl rfl [1,0] rfl rfl
 refine qk K2.2 K2.1 (v0 ?_)
 obtain rfl:=eU m
 exact vr λu=>dZ.one (.inl rfl) (aW (h0:=h) (L':= [jZ ag0 y0]) (.cons _ (.refl _)) u).1 (bB.refl _ _) ⟨ag0,O0,(aW (h0:=h) (L':= [jZ ag0 y0]) (.cons _ (.refl _)) u).2,rfl,rfl⟩
theorem M5:aP Tryz.prog 176=true:=by kernel_rfl
open Go.Vm
def G3 (m:Nat) (p0:aA) (p1:aO) (p2:bE):Option (Int×Int×AX):=
 after (if (p1.Kind==1)=true then ((wN m p0.Chunks p1.Id).bind λy0=>if (!y0.2)=true then (some (.ret (8,p0.Seq,p0.Snaps,p0.Chunks,p0.Exps))) else (ix p0.Chunks y0.1).bind λx2=>(vY m x2.Locs p2).bind λy1=>(ix p0.Chunks y0.1).bind λx3=>some (.brk (p0.Seq,p0.Snaps,p0.Chunks.set y0.1.toNat ({ x3 with Locs:=y1}),p0.Exps))) else after (if (p1.Kind==2)=true then ((p4 m p0.Snaps (λx0=>MZ m x0 p1)).bind λy2=>if (decide (y2 < 0))=true then (some (.ret (.ret (8,p0.Seq,p0.Snaps,p0.Chunks,p0.Exps)))) else (ix p0.Snaps y2).bind λx4=>(vY m x4.Locs p2).bind λy3=>(ix p0.Snaps y2).bind λx5=>some (.brk (p0.Seq,p0.Snaps.set y2.toNat ({ x5 with Locs:=y3}),p0.Exps))) else after (if (p1.Kind==3)=true then ((M0 m p0.Exps p1.Seq (λx0 x1=>CU m x0 x1)).bind λy4=>after (if (!y4.2)=true then ((pI p0.Exps y4.1 (({ Seq:=p1.Seq,Of:=p1.Of,Locs:= []}:aS):aS)).bind λy5=>some (.brk ((max p0.Seq (IntKind.wrap .i64 (p1.Seq+1))),y5))) else some (.brk (p0.Seq,p0.Exps)):Option (Lp (Int×(List aS)) (Lp (Int×(List aS)) (Lp (Int×(List aH)×(List aS)) (Lp (Int×AX) (Int×Int×AX)))))) λ⟨j0,j1⟩=>(ix j1 y4.1).bind λx6=>(vY m x6.Locs p2).bind λy6=>(ix j1 y4.1).bind λx7=>some (.brk (j0,j1.set y4.1.toNat ({ x7 with Locs:=y6})))) else some (.brk (p0.Seq,p0.Exps)):Option (Lp (Int×(List aS)) (Lp (Int×(List aH)×(List aS)) (Lp (Int×AX) (Int×Int×AX))))) λ⟨j2,j3⟩=>some (.brk (j2,p0.Snaps,j3)):Option (Lp (Int×(List aH)×(List aS)) (Lp (Int×AX) (Int×Int×AX)))) λ⟨j4,j5,j6⟩=>some (.brk (j4,j5,p0.Chunks,j6)):Option (Lp (Int×AX) (Int×Int×AX))) λ⟨j7,j8,j9,j10⟩=>some (0,j7,j8,j9,j10)
theorem aEO {w:Nat} {p0:aA} {p1:aO} {p2:bE} {o:Int×Int×AX} (h:aE) {p0K:bY} {gS:dI} (ok_Snaps:nM aH.Locs 4 4 gS (p0.Snaps:List aH)) {gC:dI} (oC:nM aB.Locs 35 4 gC (p0.Chunks:List aB)) {gE:dI} (oE:nM aS.Locs 3 4 gE (p0.Exps:List aS)) {gV:dC} (oV:bM gV 4 p0.Vols.length) (K0:bQ h ([OC p0K p0.Seq gS.a gC.a gE.a gV,bO gS p0.Snaps,a9 gC p0.Chunks,bU gE p0.Exps,aT gV p0.Vols]++((bR gS p0.Snaps)++((bD gC p0.Chunks)++(bX gE p0.Exps))))) (m:G3 w p0 p1 p2=some o):
 aL Tryz.prog 123 [.ptr p0K 0,.agg (aV p1),.agg (aQ p2)] (hp h ([OC p0K p0.Seq gS.a gC.a gE.a gV,bO gS p0.Snaps,a9 gC p0.Chunks,bU gE p0.Exps,aT gV p0.Vols]++((bR gS p0.Snaps)++((bD gC p0.Chunks)++(bX gE p0.Exps))))) (λr h'=>∃g_Snaps':dI,nM aH.Locs 4 4 g_Snaps' (o.2.2.1:List aH)∧∃g_Chunks':dI,nM aB.Locs 35 4 g_Chunks' (o.2.2.2.1:List aB)∧∃g_Exps':dI,nM aS.Locs 3 4 g_Exps' (o.2.2.2.2:List aS)∧bQ h ([OC p0K o.2.1 g_Snaps'.a g_Chunks'.a g_Exps'.a gV,bO g_Snaps' o.2.2.1,a9 g_Chunks' o.2.2.2.1,bU g_Exps' o.2.2.2.2,aT gV p0.Vols]++((bR g_Snaps' o.2.2.1)++((bD g_Chunks' o.2.2.2.1)++(bX g_Exps' o.2.2.2.2))))∧r=nZ o.1∧h'=hp h ([OC p0K o.2.1 g_Snaps'.a g_Chunks'.a g_Exps'.a gV,bO g_Snaps' o.2.2.1,a9 g_Chunks' o.2.2.2.1,bU g_Exps' o.2.2.2.2,aT gV p0.Vols]++((bR g_Snaps' o.2.2.1)++((bD g_Chunks' o.2.2.2.1)++(bX g_Exps' o.2.2.2.2))))):=by
 refine B9 K0 129 [.tmp 6] Tryz.func123 rfl rfl rfl rfl ?_
 unfold G3 at m
 refine vs (v0 (hX rfl rfl λk2 K3=>hX rfl rfl λk5 K6=>vs (vs (v0 (dP lR rfl rfl (vl 1 _ cD rfl rfl rfl (v0 (vs (v0 (qM m (σ:=Int×AX) (τ:=dI×dI×dI) (λg s=>([(some k5,.obj 81 (aQ p2)),(some k2,.obj 38 (aV p1)),OC p0K s.1 g.1.a g.2.1.a g.2.2.a gV,bO g.1 s.2.1,a9 g.2.1 s.2.2.1,bU g.2.2 s.2.2.2,aT gV p0.Vols]++((bR g.1 s.2.1)++((bD g.2.1 s.2.2.1)++(bX g.2.2 s.2.2.2))))) (λg s=>nM aH.Locs 4 4 g.1 (s.2.1:List aH)∧nM aB.Locs 35 4 g.2.1 (s.2.2.1:List aB)∧nM aS.Locs 3 4 g.2.2 (s.2.2.2:List aS)) (λg s=>.nil) (λx m=> ?_) ?_))))))))))
 refine v0 ?_
 apply vi m <;> intro c0 m
 refine vs (v0 (zM (by kernel_rfl) (kQ rfl (dP eG rfl rfl (vl 2 (aZ gC.a) eO rfl rfl rfl (dP uW rfl rfl (vl 1 (.agg (bH p1.Id)) fL rfl rfl rfl ?_)))))))
 obtain⟨y0,Y0,m⟩:=aC m
 refine vn (λu=>cB (fA (.cons (Br.awN 4 cL f9 EY oC.k u rfl (UC [[_], [_], [_], [_], [_], [_], [_],_,_,_] rfl 8 rfl)) (.cons (Br.refl _ _) .nil)) rfl (PS _ Y0)) rfl HT rfl) (vs (vs (v0 (v0 ?_))))
 apply vi m <;> intro c1 m
 refine vs (v0 (v0 (gM m λm=> ?_)))
 cases m
 exact vr λu=>dZ.of1 (.inl rfl) (f0 _ _ (.sc (.int _ _)) rfl) (tI (L':=([OC p0K p0.Seq gS.a gC.a gE.a gV,bO gS p0.Snaps,a9 gC p0.Chunks,bU gE p0.Exps,aT gV p0.Vols]++((bR gS p0.Snaps)++((bD gC p0.Chunks)++(bX gE p0.Exps))))) u [[_], [_], [_], [_], [_], [_], [_],_,_,_] rfl [2,3,4,5,6,7,8,9] rfl rfl).2 (bB.refl _ _) ⟨gS,ok_Snaps,gC,oC,gE,oE,(tI (L':=([OC p0K p0.Seq gS.a gC.a gE.a gV,bO gS p0.Snaps,a9 gC p0.Chunks,bU gE p0.Exps,aT gV p0.Vols]++((bR gS p0.Snaps)++((bD gC p0.Chunks)++(bX gE p0.Exps))))) u [[_], [_], [_], [_], [_], [_], [_],_,_,_] rfl [2,3,4,5,6,7,8,9] rfl rfl).1,rfl,rfl⟩
 refine v0 (v0 (vz [(1000000,some p0K,.obj 30 ([nZ p0.Seq,aZ gS.a,aZ gC.a,aZ gE.a,aZ gV])),(17,gC.a.t,.obj 44 (fl kP (zg (p0.Chunks:List aB) gC.gs) gC.a.sp)),(1000000,some k5,.obj 81 (aQ p2))] mixed (λu=>⟨λ_=>aK 2 u rfl,λ_=>aK 4 u rfl,λ_=>aK 0 u rfl,trivial⟩) λu=>zP 0 rfl rfl (zN 1 rfl rfl (zF 2 rfl eG rfl (zL 3 0 (aZ gC.a) rfl eO rfl rfl rfl (zI 4 rfl rfl (zP 5 rfl rfl (zN 6 rfl rfl (zF 7 rfl eG rfl (zL 8 0 (aZ gC.a) rfl eO rfl rfl rfl (zI 9 rfl rfl ?_)))))))))))
 obtain⟨x1,X0,m⟩:=aC m
 refine zC 10 rfl (dJ (oC.k.ix X0) fH oC.k.z rfl rfl) (zC 11 rfl (cZ (bM.ne oC.k.z (oC.k.ix X0)) jQ rfl rfl) ?_)
 obtain⟨gv0,hg0,ga0,gn0⟩:=oC.gx X0
 refine zR 12 rfl (λ_ _ hi hB=>fG (eT (fo:=34) (awO aQ 4 (gx gC.gs y0.1.toNat) x1.Locs) (oC.k.ix X0) kH oC.k.z fM rfl (f8.get 1 hi rfl (hB 17 (by kernel_rfl))) (λ_=>rfl)) (bB.of_eq (congrArg (λz=>awO aQ 4 z x1.Locs) hg0))) (zL 13 2 (.agg (aQ p2)) rfl oM rfl rfl rfl ?_)
 obtain⟨y1,Y1,m⟩:=aC m
 refine zE 14 rfl ?_
 have ho0:=CQ (R:=([(some k5,.obj 81 (aQ p2)),(some k2,.obj 38 (aV p1)),OC p0K p0.Seq gS.a gC.a gE.a gV,bO gS p0.Snaps,a9 gC p0.Chunks,bU gE p0.Exps,aT gV p0.Vols]++((bR gS p0.Snaps)++((lF 81 aQ ((nl aB.Locs (zg (p0.Chunks:List aB) gC.gs)).eraseIdx y0.1.toNat))++(bX gE p0.Exps))))) u [[_], [_], [_], [_], [_], [_], [_],_,_,_] rfl 8 rfl gn0 rfl
 have ho1:=dL [(lS gv0 x1.Locs)] _ ho0.2
 refine dO (ho0.1.trans (dR h [(lS gv0 x1.Locs)] _).symm) (cR (M4 _ ga0 ho1.2 Y1) rfl M5 rfl ?_)
 rintro x h' ⟨ag0,O0,K1,rfl,rfl⟩
 refine nC (dR h [jZ ag0 y1] _) (⟨⟨λ_=>aK 3 (eL ho1.1 K1) rfl,λ_=>aK 5 (eL ho1.1 K1) rfl,λ_=>aK 1 (eL ho1.1 K1) rfl,trivial⟩, ?_⟩)
 obtain⟨x2,X1,m⟩:=aC m
 refine zC 15 rfl (dJ (oC.k.ix X1) fH oC.k.z rfl rfl) (zC 16 rfl (cZ (bM.ne oC.k.z (oC.k.ix X1)) jQ rfl rfl) (zE 17 rfl (dA (fo:=34) (x':=(({ x2 with Locs:=y1}:aB),some ag0)) 5 (eL ho1.1 K1) (oC.k.ix X1) kH oC.k.z rfl rfl (cG rfl) (cE (bZ _ _ _) rfl) (cU.refl _ _) pT rfl rfl ?_)))
 intro K2
 have O1:=oC.setL (x':=({ x2 with Locs:=y1}:aB)) X1 ag0 O0
 have hr0:=A2 (L':=(lS ag0 y1)::(([(some k5,.obj 81 (aQ p2)),(some k2,.obj 38 (aV p1)),OC p0K p0.Seq gS.a gC.a gE.a gV,bO gS p0.Snaps,(gC.a.t,.obj 44 (fl kP (((zg (p0.Chunks:List aB) gC.gs)).set y0.1.toNat (({ x2 with Locs:=y1}:aB),some ag0)) gC.a.sp)),bU gE p0.Exps,aT gV p0.Vols]:HL)++((bR gS p0.Snaps)++((lF 81 aQ ((nl aB.Locs (zg (p0.Chunks:List aB) gC.gs)).eraseIdx y0.1.toNat))++(bX gE p0.Exps))))) K2 [[_], [_], [_], [_], [_], [_], [_], [_],_,_,_] rfl [0,1,2,3,4,5,6,7,8,9,10] rfl rfl
 have hj0:=vN (L':=([(some k5,.obj 81 (aQ p2)),(some k2,.obj 38 (aV p1)),OC p0K p0.Seq gS.a ((⟨gC.a,gC.gs.set y0.1.toNat (some ag0)⟩:dI).a) gE.a gV,bO gS p0.Snaps,a9 (⟨gC.a,gC.gs.set y0.1.toNat (some ag0)⟩:dI) (p0.Chunks.set y0.1.toNat ({ x2 with Locs:=y1})),bU gE p0.Exps,aT gV p0.Vols]++((bR gS p0.Snaps)++((bD (⟨gC.a,gC.gs.set y0.1.toNat (some ag0)⟩:dI) (p0.Chunks.set y0.1.toNat ({ x2 with Locs:=y1})))++(bX gE p0.Exps))))) [[_], [_], [_], [_], [_], [_], [_],_,_,_] rfl 8 (zs:=nl aB.Locs (zg (p0.Chunks:List aB) gC.gs)) (j:=y0.1.toNat) (aB.Locs ({ x2 with Locs:=y1}:aB),some ag0) (mO (oC.k.nlat X1)) rfl hr0.2 (by rw[← (oC.k.setL (x':=({ x2 with Locs:=y1}:aB)) X1 ag0 O0).2.2,(oC.k.setL (x':=({ x2 with Locs:=y1}:aB)) X1 ag0 O0).2.1]; rfl)
 refine nC (hr0.1.trans hj0.1) (⟨⟨λ_=>aK 2 hj0.2 rfl,λe=>absurd e (by decide),λ_=>aK 0 hj0.2 rfl,trivial⟩, ?_⟩)
 exact zX (qk (f:=B6 44 _ _ _ _ _ _ _ _ _ _ _ _ _ _ _ _ _ _) hj0.2 rfl (fB m (gS,(⟨gC.a,gC.gs.set y0.1.toNat (some ag0)⟩:dI),gE) ⟨ok_Snaps,O1,oE⟩ (lx .nil)))
 refine vs (v0 (qM m (σ:=Int×(List aH)×(List aS)) (τ:=dI×dI) (λg s=>([(some k5,.obj 81 (aQ p2)),(some k2,.obj 38 (aV p1)),OC p0K s.1 g.1.a gC.a g.2.a gV,bO g.1 s.2.1,a9 gC p0.Chunks,bU g.2 s.2.2,aT gV p0.Vols]++((bR g.1 s.2.1)++((bD gC p0.Chunks)++(bX g.2 s.2.2))))) (λg s=>nM aH.Locs 4 4 g.1 (s.2.1:List aH)∧nM aS.Locs 3 4 g.2 (s.2.2:List aS)) (λg s=>.nil) (λx m=> ?_) ?_))
 refine v0 ?_
 apply vi m <;> intro c2 m
 refine vs (v0 (kQ rfl (dP dQ rfl rfl (vl 2 (aZ gS.a) eV rfl rfl rfl ?_))))
 obtain⟨y2,Y2,m⟩:=aC m
 refine ve λu=> ?_
 have ho2:=lX (A:= [bO gS p0.Snaps]) (R:=([(some k5,.obj 81 (aQ p2)),(some k2,.obj 38 (aV p1)),OC p0K p0.Seq gS.a gC.a gE.a gV,a9 gC p0.Chunks,bU gE p0.Exps,aT gV p0.Vols]++((bR gS p0.Snaps)++((bD gC p0.Chunks)++(bX gE p0.Exps))))) u [[_], [_], [_], [_], [_], [_], [_],_,_,_] rfl [3] [0,1,2,4,5,6,7,8,9] rfl rfl rfl
 refine dO ho2.1 (cR (YQ m5 _ ok_Snaps.k.z ho2.2.2 YR (λx0 o h0 hs ho=>YS (p0:=x0.1) (og0:=x0.2) h0 (hs _ _ (aX 1 ho2.2.1 rfl)) ho) (MY ok_Snaps.k.len Y2)) rfl EI rfl ?_)
 rintro x h' ⟨rfl,rfl⟩
 refine qk u ho2.1.symm (vs (vs (v0 (v0 ?_))))
 apply vi m <;> intro c3 m
 refine vs (v0 (v0 (gM m λm=>gM m λm=> ?_)))
 cases m
 exact vr λu=>dZ.of1 (.inl rfl) (f0 _ _ (.sc (.int _ _)) rfl) (tI (L':=([OC p0K p0.Seq gS.a gC.a gE.a gV,bO gS p0.Snaps,a9 gC p0.Chunks,bU gE p0.Exps,aT gV p0.Vols]++((bR gS p0.Snaps)++((bD gC p0.Chunks)++(bX gE p0.Exps))))) u [[_], [_], [_], [_], [_], [_], [_],_,_,_] rfl [2,3,4,5,6,7,8,9] rfl rfl).2 (bB.refl _ _) ⟨gS,ok_Snaps,gC,oC,gE,oE,(tI (L':=([OC p0K p0.Seq gS.a gC.a gE.a gV,bO gS p0.Snaps,a9 gC p0.Chunks,bU gE p0.Exps,aT gV p0.Vols]++((bR gS p0.Snaps)++((bD gC p0.Chunks)++(bX gE p0.Exps))))) u [[_], [_], [_], [_], [_], [_], [_],_,_,_] rfl [2,3,4,5,6,7,8,9] rfl rfl).1,rfl,rfl⟩
 refine v0 (v0 (vz [(1000000,some p0K,.obj 30 ([nZ p0.Seq,aZ gS.a,aZ gC.a,aZ gE.a,aZ gV])),(17,gS.a.t,.obj 60 (fl mE (zg (p0.Snaps:List aH) gS.gs) gS.a.sp)),(1000000,some k5,.obj 81 (aQ p2))] mixed (λu=>⟨λ_=>aK 2 u rfl,λ_=>aK 3 u rfl,λ_=>aK 0 u rfl,trivial⟩) λu=>zP 0 rfl rfl (zN 1 rfl rfl (zF 2 rfl dQ rfl (zL 3 0 (aZ gS.a) rfl eV rfl rfl rfl (zI 4 rfl rfl (zP 5 rfl rfl (zN 6 rfl rfl (zF 7 rfl dQ rfl (zL 8 0 (aZ gS.a) rfl eV rfl rfl rfl (zI 9 rfl rfl ?_)))))))))))
 obtain⟨x3,X2,m⟩:=aC m
 refine zC 10 rfl (dJ (ok_Snaps.k.ix X2) iX ok_Snaps.k.z rfl rfl) (zC 11 rfl (cZ (bM.ne ok_Snaps.k.z (ok_Snaps.k.ix X2)) kO rfl rfl) ?_)
 obtain⟨gv1,hg1,ga1,gn1⟩:=ok_Snaps.gx X2
 refine zR 12 rfl (λ_ _ hi hB=>fG (eT (fo:=3) (awO aQ 4 (gx gS.gs y2.toNat) x3.Locs) (ok_Snaps.k.ix X2) m5 ok_Snaps.k.z fM rfl (f8.get 1 hi rfl (hB 17 (by kernel_rfl))) (λ_=>rfl)) (bB.of_eq (congrArg (λz=>awO aQ 4 z x3.Locs) hg1))) (zL 13 2 (.agg (aQ p2)) rfl oM rfl rfl rfl ?_)
 obtain⟨y3,Y3,m⟩:=aC m
 refine zE 14 rfl ?_
 have ho3:=CQ (R:=([(some k5,.obj 81 (aQ p2)),(some k2,.obj 38 (aV p1)),OC p0K p0.Seq gS.a gC.a gE.a gV,bO gS p0.Snaps,a9 gC p0.Chunks,bU gE p0.Exps,aT gV p0.Vols]++((lF 81 aQ ((nl aH.Locs (zg (p0.Snaps:List aH) gS.gs)).eraseIdx y2.toNat))++((bD gC p0.Chunks)++(bX gE p0.Exps))))) u [[_], [_], [_], [_], [_], [_], [_],_,_,_] rfl 7 rfl gn1 rfl
 have ho4:=dL [(lS gv1 x3.Locs)] _ ho3.2
 refine dO (ho3.1.trans (dR h [(lS gv1 x3.Locs)] _).symm) (cR (M4 _ ga1 ho4.2 Y3) rfl M5 rfl ?_)
 rintro x h' ⟨ag1,O2,K4,rfl,rfl⟩
 refine nC (dR h [jZ ag1 y3] _) (⟨⟨λ_=>aK 3 (eL ho4.1 K4) rfl,λ_=>aK 4 (eL ho4.1 K4) rfl,λ_=>aK 1 (eL ho4.1 K4) rfl,trivial⟩, ?_⟩)
 obtain⟨x4,X3,m⟩:=aC m
 refine zC 15 rfl (dJ (ok_Snaps.k.ix X3) iX ok_Snaps.k.z rfl rfl) (zC 16 rfl (cZ (bM.ne ok_Snaps.k.z (ok_Snaps.k.ix X3)) kO rfl rfl) (zE 17 rfl (dA (fo:=3) (x':=(({ x4 with Locs:=y3}:aH),some ag1)) 4 (eL ho4.1 K4) (ok_Snaps.k.ix X3) m5 ok_Snaps.k.z rfl rfl (cG rfl) (cE (bZ _ _ _) rfl) (cU.refl _ _) pT rfl rfl ?_)))
 intro K5
 have O3:=ok_Snaps.setL (x':=({ x4 with Locs:=y3}:aH)) X3 ag1 O2
 have hr1:=A2 (L':=(lS ag1 y3)::(([(some k5,.obj 81 (aQ p2)),(some k2,.obj 38 (aV p1)),OC p0K p0.Seq gS.a gC.a gE.a gV,(gS.a.t,.obj 60 (fl mE (((zg (p0.Snaps:List aH) gS.gs)).set y2.toNat (({ x4 with Locs:=y3}:aH),some ag1)) gS.a.sp)),a9 gC p0.Chunks,bU gE p0.Exps,aT gV p0.Vols]:HL)++((lF 81 aQ ((nl aH.Locs (zg (p0.Snaps:List aH) gS.gs)).eraseIdx y2.toNat))++((bD gC p0.Chunks)++(bX gE p0.Exps))))) K5 [[_], [_], [_], [_], [_], [_], [_], [_],_,_,_] rfl [0,1,2,3,4,5,6,7,8,9,10] rfl rfl
 have hj1:=vN (L':=([(some k5,.obj 81 (aQ p2)),(some k2,.obj 38 (aV p1)),OC p0K p0.Seq ((⟨gS.a,gS.gs.set y2.toNat (some ag1)⟩:dI).a) gC.a gE.a gV,bO (⟨gS.a,gS.gs.set y2.toNat (some ag1)⟩:dI) (p0.Snaps.set y2.toNat ({ x4 with Locs:=y3})),a9 gC p0.Chunks,bU gE p0.Exps,aT gV p0.Vols]++((bR (⟨gS.a,gS.gs.set y2.toNat (some ag1)⟩:dI) (p0.Snaps.set y2.toNat ({ x4 with Locs:=y3})))++((bD gC p0.Chunks)++(bX gE p0.Exps))))) [[_], [_], [_], [_], [_], [_], [_],_,_,_] rfl 7 (zs:=nl aH.Locs (zg (p0.Snaps:List aH) gS.gs)) (j:=y2.toNat) (aH.Locs ({ x4 with Locs:=y3}:aH),some ag1) (mO (ok_Snaps.k.nlat X3)) rfl hr1.2 (by rw[← (ok_Snaps.k.setL (x':=({ x4 with Locs:=y3}:aH)) X3 ag1 O2).2.2,(ok_Snaps.k.setL (x':=({ x4 with Locs:=y3}:aH)) X3 ag1 O2).2.1]; rfl)
 refine nC (hr1.1.trans hj1.1) (⟨⟨λ_=>aK 2 hj1.2 rfl,λe=>absurd e (by decide),λ_=>aK 0 hj1.2 rfl,trivial⟩, ?_⟩)
 exact zX (qk (f:=B6 71 _ _ _ _ _ _ _ _ _ _ _ _ _ _ _ _ _ _) hj1.2 rfl (fB m ((⟨gS.a,gS.gs.set y2.toNat (some ag1)⟩:dI),gE) ⟨O3,oE⟩ (lx .nil)))
 refine vs (v0 (qM m (σ:=Int×(List aS)) (τ:=dI) (λg s=>([(some k5,.obj 81 (aQ p2)),(some k2,.obj 38 (aV p1)),OC p0K s.1 gS.a gC.a g.a gV,bO gS p0.Snaps,a9 gC p0.Chunks,bU g s.2,aT gV p0.Vols]++((bR gS p0.Snaps)++((bD gC p0.Chunks)++(bX g s.2))))) (λg s=>nM aS.Locs 3 4 g (s.2:List aS)) (λg s=>.nil) (λx m=> ?_) ?_))
 refine v0 ?_
 apply vi m <;> intro c4 m
 refine vs (v0 (zM (by kernel_rfl) (kQ rfl (dP fK rfl rfl (vl 2 (aZ gE.a) jN rfl rfl rfl (dP kZ rfl rfl (vl 1 _ cD rfl rfl rfl ?_)))))))
 obtain⟨y4,Y4,m⟩:=aC m
 refine vn (λu=>cB (fA (.cons (Br.awN 5 fY f9 UF oE.k u rfl (UC [[_], [_], [_], [_], [_], [_], [_],_,_,_] rfl 9 rfl)) (.cons (Br.refl _ _) (.cons (Br.refl _ _) .nil))) rfl (aEH _ YT (λx0 _ o h0 hs ho=>aEG _ ho) Y4)) rfl YU rfl) (vs (vs (v0 (qM m (σ:=Int×(List aS)) (τ:=dI) (λg s=>([(some k5,.obj 81 (aQ p2)),(some k2,.obj 38 (aV p1)),OC p0K s.1 gS.a gC.a g.a gV,bO gS p0.Snaps,a9 gC p0.Chunks,bU g s.2,aT gV p0.Vols]++((bR gS p0.Snaps)++((bD gC p0.Chunks)++(bX g s.2))))) (λg s=>nM aS.Locs 3 4 g (s.2:List aS)) (λg s=>.c 0 (.ptr p0K 0) (.c 5 (.ptr k5 0) (.c 10 (nZ y4.1) .nil))) (λx m=> ?_) ?_))))
 refine v0 ?_
 apply vi m <;> intro c5 m
 refine vs (v0 (vz [(15,some p0K,.obj 30 ([nZ p0.Seq,aZ gS.a,aZ gC.a,aZ gE.a,aZ gV])),(1000000,some k2,.obj 38 (aV p1))] mixed (λu=>⟨λ_=>aK 2 u rfl,λ_=>aK 1 u rfl,trivial⟩) λu=>zP 0 rfl rfl (zP 1 rfl rfl (zN 2 rfl rfl (zF 3 rfl fK rfl (zL 4 0 (aZ gE.a) rfl jN rfl rfl rfl (zI 5 rfl rfl (zF 6 rfl kZ rfl (zL 7 1 (nZ p1.Seq) rfl cD rfl rfl rfl (zF 8 rfl uX rfl (zL 9 1 (nZ p1.Of) rfl cD rfl rfl rfl (zC 10 rfl (fG (y:=.agg (m6 ((({ Seq:=p1.Seq,Of:=p1.Of,Locs:= []}:aS):aS),some g0))) (eK ([nZ p1.Seq,nZ p1.Of,sZ]) W0 rfl) (bB.agg (.k2 (.cons (fP _) .nil)))) (zC 11 rfl (eD (List.map m6 [((({ Seq:=p1.Seq,Of:=p1.Of,Locs:= []}:aS):aS),some g0)]) pC rfl rfl rfl rfl) ?_)))))))))))))
 obtain⟨y5,Y5,m⟩:=aC m
 refine zE 12 rfl ?_
 have ho5:=lX (A:= [bU gE p0.Exps]) (R:=([(some k5,.obj 81 (aQ p2)),(some k2,.obj 38 (aV p1)),OC p0K p0.Seq gS.a gC.a gE.a gV,bO gS p0.Snaps,a9 gC p0.Chunks,aT gV p0.Vols]++((bR gS p0.Snaps)++((bD gC p0.Chunks)++(bX gE p0.Exps))))) u [[_], [_], [_], [_], [_], [_], [_],_,_,_] rfl [5] [0,1,2,3,4,6,7,8,9] rfl rfl rfl
 refine dO ho5.1 (cR (aEM tK _ oE.k.z ho5.2.2 (P7 oE.k.len (some g0) Y5)) rfl ZA rfl ?_)
 rintro x h' ⟨ag2,O4,K7,rfl,rfl⟩
 have K8:=lY (L':=([(some k5,.obj 81 (aQ p2)),(some k2,.obj 38 (aV p1)),(hO p0K p0.Seq gS.a gC.a gE.a gV),bO gS p0.Snaps,a9 gC p0.Chunks,bU (⟨ag2,lM gE.gs y4.1.toNat (some g0)⟩:dI) y5,aT gV p0.Vols]++((bR gS p0.Snaps)++((bD gC p0.Chunks)++(bX gE p0.Exps))))) ho5.2.1 K7 [[_]] [[_], [_], [_], [_], [_], [_],_,_,_] rfl rfl [1,2,3,4,5,0,6,7,8,9] rfl rfl
 have K9:=P8 (L':=([(some k5,.obj 81 (aQ p2)),(some k2,.obj 38 (aV p1)),(hO p0K p0.Seq gS.a gC.a gE.a gV),bO gS p0.Snaps,a9 gC p0.Chunks,bU (⟨ag2,lM gE.gs y4.1.toNat (some g0)⟩:dI) y5,aT gV p0.Vols]++((bR gS p0.Snaps)++((bD gC p0.Chunks)++(bX (⟨ag2,lM gE.gs y4.1.toNat (some g0)⟩:dI) y5))))) K8.2 [[_], [_], [_], [_], [_], [_], [_],_,_,_] rfl 9 oE.k.len (og:=some g0) rfl Y5 rfl rfl
 refine nC (K8.1.trans K9.1) (⟨⟨λ_=>aK 2 K9.2 rfl,λ_=>aK 1 K9.2 rfl,trivial⟩, ?_⟩)
 refine zN 13 rfl rfl (zF 14 rfl fK rfl (zE 15 rfl (aJ 2 ([nZ p0.Seq,aZ gS.a,aZ gC.a,aw (⟨ag2,lM gE.gs y4.1.toNat (some g0)⟩:dI).a.t (⟨ag2,lM gE.gs y4.1.toNat (some g0)⟩:dI).a.n (⟨ag2,lM gE.gs y4.1.toNat (some g0)⟩:dI).a.cap,aZ gV]) K9.2 rfl rfl (cG rfl) (cE (bZ _ _ _) rfl) LM rfl rfl λK10=>⟨⟨λe=>absurd e (by decide),λ_=>aK 1 K10 rfl,trivial⟩, ?_⟩)))
 refine zX (qk (f:=aB6 100 _ _ _ _ _ _ _ _ _ _ _ _ _ _ _ _) K10 rfl (v0 (vz [(11,some p0K,.obj 30 ([nZ p0.Seq,aZ gS.a,aZ gC.a,aw (⟨ag2,lM gE.gs y4.1.toNat (some g0)⟩:dI).a.t (⟨ag2,lM gE.gs y4.1.toNat (some g0)⟩:dI).a.n (⟨ag2,lM gE.gs y4.1.toNat (some g0)⟩:dI).a.cap,aZ gV])),(1000000,some k2,.obj 38 (aV p1))] mixed (λu=>⟨λ_=>aK 2 u rfl,λ_=>aK 1 u rfl,trivial⟩) λu=>zP 0 rfl rfl (zP 1 rfl rfl (zN 2 rfl rfl (zF 3 rfl nS rfl (zL 4 0 (nZ p0.Seq) rfl cD rfl rfl rfl (zF 5 rfl kZ rfl (zL 6 1 (nZ p1.Seq) rfl cD rfl rfl rfl (zC 7 rfl (lJ rfl rfl rfl trivial) (zC 8 rfl (WE rfl rfl) (zN 9 rfl rfl (zF 10 rfl nS rfl (zE 11 rfl (aJ 2 ([nZ (max p0.Seq (IntKind.wrap .i64 (p1.Seq+1))),aZ gS.a,aZ gC.a,aw (⟨ag2,lM gE.gs y4.1.toNat (some g0)⟩:dI).a.t (⟨ag2,lM gE.gs y4.1.toNat (some g0)⟩:dI).a.n (⟨ag2,lM gE.gs y4.1.toNat (some g0)⟩:dI).a.cap,aZ gV]) u rfl rfl rfl rfl DN rfl rfl λK11=>⟨⟨λe=>absurd e (by decide),λ_=>aK 1 K11 rfl,trivial⟩, ?_⟩)))))))))))))))
 exact zX (qk (f:=SZ 111 _ _ _ _ _ _ _ _ _ _ _ _) K11 rfl (fB m (⟨ag2,lM gE.gs y4.1.toNat (some g0)⟩:dI) (oE.ins Y5 rfl O4) (lx (.k3 .nil))))
 exact v0 (fB m gE oE (lx (.k3 .nil)))
 rintro ng0 ⟨j0,j1⟩ O5 m
 refine v0 (vz [(1000000,some p0K,.obj 30 ([nZ j0,aZ gS.a,aZ gC.a,aZ ng0.a,aZ gV])),(17,ng0.a.t,.obj 99 (fl m6 (zg (j1:List aS) ng0.gs) ng0.a.sp)),(1000000,some k5,.obj 81 (aQ p2))] mixed (λu=>⟨λ_=>aK 2 u rfl,λ_=>aK 5 u rfl,λ_=>aK 0 u rfl,trivial⟩) λu=>zP 0 rfl rfl (zN 1 rfl rfl (zF 2 rfl fK rfl (zL 3 0 (aZ ng0.a) rfl jN rfl rfl rfl (zI 4 rfl rfl (zP 5 rfl rfl (zN 6 rfl rfl (zF 7 rfl fK rfl (zL 8 0 (aZ ng0.a) rfl jN rfl rfl rfl (zI 9 rfl rfl ?_))))))))))
 obtain⟨x5,X4,m⟩:=aC m
 refine zC 10 rfl (dJ (O5.k.ix X4) jY O5.k.z rfl rfl) (zC 11 rfl (cZ (bM.ne O5.k.z (O5.k.ix X4)) mY rfl rfl) ?_)
 obtain⟨gv2,hg2,ga2,gn2⟩:=O5.gx X4
 refine zR 12 rfl (λ_ _ hi hB=>fG (eT (fo:=2) (awO aQ 4 (gx ng0.gs y4.1.toNat) x5.Locs) (O5.k.ix X4) tK O5.k.z fM rfl (f8.get 1 hi rfl (hB 17 (by kernel_rfl))) (λ_=>rfl)) (bB.of_eq (congrArg (λz=>awO aQ 4 z x5.Locs) hg2))) (zL 13 2 (.agg (aQ p2)) rfl oM rfl rfl rfl ?_)
 obtain⟨y6,Y6,m⟩:=aC m
 refine zE 14 rfl ?_
 have ho6:=CQ (R:=([(some k5,.obj 81 (aQ p2)),(some k2,.obj 38 (aV p1)),OC p0K j0 gS.a gC.a ng0.a gV,bO gS p0.Snaps,a9 gC p0.Chunks,bU ng0 j1,aT gV p0.Vols]++((bR gS p0.Snaps)++((bD gC p0.Chunks)++(lF 81 aQ ((nl aS.Locs (zg (j1:List aS) ng0.gs)).eraseIdx y4.1.toNat)))))) u [[_], [_], [_], [_], [_], [_], [_],_,_,_] rfl 9 rfl gn2 rfl
 have ho7:=dL [(lS gv2 x5.Locs)] _ ho6.2
 refine dO (ho6.1.trans (dR h [(lS gv2 x5.Locs)] _).symm) (cR (M4 _ ga2 ho7.2 Y6) rfl M5 rfl ?_)
 rintro x h' ⟨ag3,O6,K12,rfl,rfl⟩
 refine nC (dR h [jZ ag3 y6] _) (⟨⟨λ_=>aK 3 (eL ho7.1 K12) rfl,λ_=>aK 6 (eL ho7.1 K12) rfl,λ_=>aK 1 (eL ho7.1 K12) rfl,trivial⟩, ?_⟩)
 obtain⟨x6,X5,m⟩:=aC m
 refine zC 15 rfl (dJ (O5.k.ix X5) jY O5.k.z rfl rfl) (zC 16 rfl (cZ (bM.ne O5.k.z (O5.k.ix X5)) mY rfl rfl) (zE 17 rfl (dA (fo:=2) (x':=(({ x6 with Locs:=y6}:aS),some ag3)) 6 (eL ho7.1 K12) (O5.k.ix X5) tK O5.k.z rfl rfl (cG rfl) (cE (bZ _ _ _) rfl) (cU.refl _ _) pT rfl rfl ?_)))
 intro K13
 have O7:=O5.setL (x':=({ x6 with Locs:=y6}:aS)) X5 ag3 O6
 have hr2:=A2 (L':=(lS ag3 y6)::(([(some k5,.obj 81 (aQ p2)),(some k2,.obj 38 (aV p1)),OC p0K j0 gS.a gC.a ng0.a gV,bO gS p0.Snaps,a9 gC p0.Chunks,(ng0.a.t,.obj 99 (fl m6 (((zg (j1:List aS) ng0.gs)).set y4.1.toNat (({ x6 with Locs:=y6}:aS),some ag3)) ng0.a.sp)),aT gV p0.Vols]:HL)++((bR gS p0.Snaps)++((bD gC p0.Chunks)++(lF 81 aQ ((nl aS.Locs (zg (j1:List aS) ng0.gs)).eraseIdx y4.1.toNat)))))) K13 [[_], [_], [_], [_], [_], [_], [_], [_],_,_,_] rfl [0,1,2,3,4,5,6,7,8,9,10] rfl rfl
 have hj2:=vN (L':=([(some k5,.obj 81 (aQ p2)),(some k2,.obj 38 (aV p1)),OC p0K j0 gS.a gC.a ((⟨ng0.a,ng0.gs.set y4.1.toNat (some ag3)⟩:dI).a) gV,bO gS p0.Snaps,a9 gC p0.Chunks,bU (⟨ng0.a,ng0.gs.set y4.1.toNat (some ag3)⟩:dI) (j1.set y4.1.toNat ({ x6 with Locs:=y6})),aT gV p0.Vols]++((bR gS p0.Snaps)++((bD gC p0.Chunks)++(bX (⟨ng0.a,ng0.gs.set y4.1.toNat (some ag3)⟩:dI) (j1.set y4.1.toNat ({ x6 with Locs:=y6}))))))) [[_], [_], [_], [_], [_], [_], [_],_,_,_] rfl 9 (zs:=nl aS.Locs (zg (j1:List aS) ng0.gs)) (j:=y4.1.toNat) (aS.Locs ({ x6 with Locs:=y6}:aS),some ag3) (mO (O5.k.nlat X5)) rfl hr2.2 (by rw[← (O5.k.setL (x':=({ x6 with Locs:=y6}:aS)) X5 ag3 O6).2.2,(O5.k.setL (x':=({ x6 with Locs:=y6}:aS)) X5 ag3 O6).2.1]; rfl)
 refine nC (hr2.1.trans hj2.1) (⟨⟨λ_=>aK 2 hj2.2 rfl,λe=>absurd e (by decide),λ_=>aK 0 hj2.2 rfl,trivial⟩, ?_⟩)
 exact zX (qk (f:=B6 128 _ _ _ _ _ _ _ _ _ _ _ _ _ _ _ _ _ _) hj2.2 rfl (fB m (⟨ng0.a,ng0.gs.set y4.1.toNat (some ag3)⟩:dI) O7 (lx .nil)))
 exact v0 (fB m gE oE (lx .nil))
 rintro ng1 ⟨j2,j3⟩ O8 m
 exact fB m (gS,ng1) ⟨ok_Snaps,O8⟩ (lx .nil)
 rintro⟨ng2,ng3⟩ ⟨j4,j5,j6⟩ ⟨O9,O10⟩ m
 exact fB m (ng2,gC,ng3) ⟨O9,oC,O10⟩ (lx .nil)
 rintro⟨ng4,ng5,ng6⟩ ⟨j7,j8,j9,j10⟩ ⟨O11,O12,O13⟩ m
 refine vs (v0 (v0 ?_))
 cases m
 exact vr λu=>dZ.of1 (.inl rfl) (f0 _ _ (.sc (.int _ _)) rfl) (tI (L':=([OC p0K j7 ng4.a ng5.a ng6.a gV,bO ng4 j8,a9 ng5 j9,bU ng6 j10,aT gV p0.Vols]++((bR ng4 j8)++((bD ng5 j9)++(bX ng6 j10))))) u [[_], [_], [_], [_], [_], [_], [_],_,_,_] rfl [2,3,4,5,6,7,8,9] rfl rfl).2 (bB.refl _ _) ⟨ng4,O11,ng5,O12,ng6,O13,(tI (L':=([OC p0K j7 ng4.a ng5.a ng6.a gV,bO ng4 j8,a9 ng5 j9,bU ng6 j10,aT gV p0.Vols]++((bR ng4 j8)++((bD ng5 j9)++(bX ng6 j10))))) u [[_], [_], [_], [_], [_], [_], [_],_,_,_] rfl [2,3,4,5,6,7,8,9] rfl rfl).1,rfl,rfl⟩
theorem ZC:aP Tryz.prog 123=true:=by kernel_rfl
open Go.Vm
def JV (m:Nat) (p0:aO):Option (Bool):=
 after (if (decide (p0.Kind < 1))=true then (some (.brk true)) else some (.brk (decide (3 < p0.Kind))):Option (Lp (Bool) (Bool))) λj7=>some j7
theorem aEP {u:Nat} {p0:aO} {o:Bool} (h:aE) (m:JV u p0=some o):
 aL Tryz.prog 122 [.agg (aV p0)] h (λr h'=>r= .sc (.bool o)∧h'=h):=by
 refine fT 11 [.tmp 2] Tryz.func122 rfl rfl rfl rfl ?_
 unfold JV at m
 refine v (hX rfl rfl λk2 K3=>vs (fQ m (σ:=Bool) (λs=> [(some k2,.obj 38 (aV p0))]) (λs=>.c 2 (.sc (.bool s)) .nil) (λx m=> ?_) ?_))
 refine v (vl 0 _ cD rfl rfl rfl ?_)
 apply vi m <;> intro b8 m
 rw[b8]
 exact iZ m
 rw[b8]
 exact vl 0 _ cD rfl rfl rfl (iZ m)
 rintro _ j7 m
 refine v ?_
 obtain rfl:=eU m
 exact eA rfl
theorem ZD:aP Tryz.prog 122=true:=by kernel_rfl
def tN (m:Nat) (p0:List aO) (p1:aO→Option Bool) (q0:Int):Option (Lp (Int) (Int)):=
 if (decide (q0 < (p0.length:Int)))=true then ((ix p0 q0).bind λx0=>(p1 x0).bind λy0=>if y0=true then (some (.ret q0)) else some (.go (IntKind.wrap .i64 (q0+1)))) else some (.brk q0)
def M6 (m:Nat) (p0:List aO) (p1:aO→Option Bool):Option (Int):=
 after (aU (λs=>tN m p0 p1 s) m 0) λr0=>some (-1)
theorem aEQ {w:Nat} {p0:List aO} {p1:aO→Option Bool} {o:Int} (h:aE) {p1F:Nat} {p1C:List AV} (p1B:aP Tryz.prog p1F=true) (p1H:∀x0 o h0,iT h h0→p1 x0=some o→aL Tryz.prog p1F ([.agg (aV x0)]++p1C) h0 (λr h'=>r= .sc (.bool o)∧h'=h0)) (m:M6 w p0 p1=some o):
 aL Tryz.prog 175 [.sl none 37 (List.map aV p0),.fn (.func p1F) p1C] h (λr h'=>r=nZ o∧h'=h):=by
 refine fT 19 [.tmp 4] Tryz.func175 rfl rfl rfl rfl ?_
 unfold M6 at m
 refine v (v (cY pE rfl (kD m (σ:=Int) (λs=> []) (λs=>.c 0 (.sl none 37 (List.map aV p0)) (.c 1 (.fn (.func p1F) p1C) (.c 7 (nZ (p0.length:Int)) (.c 8 (nZ s) .nil)))) (lx (.k4 .nil)) ?_ ?_)))
 rintro _ q0 x m
 replace m:tN w p0 p1 q0=some x:=m
 unfold tN at m
 refine v (v ?_)
 apply vi m <;> intro c0 m
 refine v (v (v (v (vx m wK rfl rfl λx1 _ m=>va (.agg (aV x1)) GB rfl rfl ?_))))
 obtain⟨_,Y0,m⟩:=aC m
 refine vn (λu=>cB (p1H _ _ _ (aW (List.nil_sublist _) u).1 Y0) rfl p1B rfl) (v ?_)
 apply vi m <;> intro c1 m
 refine v (v (gM m λm=> ?_))
 obtain rfl:=eU m
 exact eA rfl
 exact v (v (gJ m))
 exact v (zK m)
 rintro _ r0 m
 refine v (v ?_)
 cases m
 exact eA rfl
theorem ZE:aP Tryz.prog 175=true:=by kernel_rfl
def JW (m:Nat) (p0:List aO) (p1:aO→Option Bool):Option (Bool):=
 (M6 m p0 p1).bind λy3=>some (decide (0≤y3))
theorem ZF {w:Nat} {p0:List aO} {p1:aO→Option Bool} {o:Bool} (h:aE) {p1F:Nat} {p1C:List AV} (p1B:aP Tryz.prog p1F=true) (p1H:∀x0 o h0,iT h h0→p1 x0=some o→aL Tryz.prog p1F ([.agg (aV x0)]++p1C) h0 (λr h'=>r= .sc (.bool o)∧h'=h0)) (m:JW w p0 p1=some o):
 aL Tryz.prog 121 [.sl none 37 (List.map aV p0),.fn (.func p1F) p1C] h (λr h'=>r= .sc (.bool o)∧h'=h):=by
 refine fT 9 [.tmp 4] Tryz.func121 rfl rfl rfl rfl ?_
 unfold JW at m
 refine v (v ?_)
 obtain⟨_,Y4,m⟩:=aC m
 refine vn (λu=>cB (aEQ _ p1B (λx0 o h0 hs ho=>p1H x0 o h0 ((aW (List.nil_sublist _) u).1.trans hs) ho) Y4) rfl ZE rfl) (v ?_)
 cases m
 exact eA rfl
theorem R4:aP Tryz.prog 121=true:=by kernel_rfl
def P9 (m:Nat) (p0:aH) (c0:List Int):Option (Bool):=
 some ((c0:List Int).any λz=>p0.Seq==z)
theorem aER {w:Nat} {p0:aH} {c0:List Int} {o:Bool} (h:aE) {c0K c0M:bY} (c0H:h c0K=some (.obj 161 [.mpv c0M])) (c0G:h c0M=some (.mp (fX kI (c0:List Int)))) (m:P9 w p0 c0=some o):
 aL Tryz.prog 125 [.agg (bK p0),.ptr c0K 0] h (λr h'=>r= .sc (.bool o)∧h'=h):=by
 refine fT 8 [.tmp 3] Tryz.func125 rfl rfl rfl rfl ?_
 unfold P9 at m
 refine v (hX rfl rfl λk2 K3=>v (vn (λu=>pN (.mpv c0M) RH rfl (l8 u c0H) rfl) (vl 0 _ cD rfl rfl rfl (vn (λu=>FW RI zb4 (xQ.int u3) rfl rfl (l8 u c0G)) (v ?_)))))
 cases m
 exact eA rfl
theorem ZG:aP Tryz.prog 125=true:=by kernel_rfl
def n5 (m:Nat) (p1:aH→Option Bool) (q0:List aH) (q1:Int) (q2:Int):Option (Lp ((List aH)×Int×Int) ((List aH))):=
 if (decide (q2 < (q0.length:Int)))=true then ((ix q0 q2).bind λx0=>(p1 x0).bind λy0=>after (if (!y0)=true then ((ix q0 q1).bind λ_=>some (.brk (q0.set q1.toNat (x0),IntKind.wrap .i64 (q1+1)))) else some (.brk (q0,q1)):Option (Lp ((List aH)×Int) (Lp ((List aH)×Int×Int) ((List aH))))) λ⟨j0,j1⟩=>some (.go (j0,j1,IntKind.wrap .i64 (q2+1)))) else some (.brk (q0,q1,q2))
def E2 (m:Nat) (p0:List aH) (p1:aH→Option Bool):Option ((List aH)):=
 (vX m p0 p1).bind λy3=>if (y3==(-1))=true then (some p0) else after (aU (λs=>n5 m p1 s.1 s.2.1 s.2.2) m (p0,y3,IntKind.wrap .i64 (y3+1))) λ⟨r0,r1,r2⟩=>grd (decide (0≤r1) && decide (r1 < (r0.length:Int))) <| grd (decide (0≤r1) && decide (r1≤(r0.length:Int))) <| some (r0.take r1.toNat)
theorem ZH {w:Nat} {p0:List aH} {p1:aH→Option Bool} {o:(List aH)} (h:aE) {g_p0:dC} (ok_p0:bM g_p0 4 p0.length) (K0:bQ h [(dH g_p0 p0)]) {p1F:Nat} {p1C:List AV} (p1B:aP Tryz.prog p1F=true) (p1H:∀x0 o h0,iT h h0→p1 x0=some o→aL Tryz.prog p1F ([.agg (bK x0)]++p1C) h0 (λr h'=>r= .sc (.bool o)∧h'=h0)) (m:E2 w p0 p1=some o):
 aL Tryz.prog 124 [aZ g_p0,.fn (.func p1F) p1C] (hp h [(dH g_p0 p0)]) (λr h'=>∃g:dC,bM g 4 o.length∧bQ h [(g.t,.obj 60 (fl bK o g.sp))]∧r=aZ g∧h'=hp h [(g.t,.obj 60 (fl bK o g.sp))]):=by
 refine B9 K0 42 [.tmp 4] Tryz.func124 rfl rfl rfl rfl ?_
 unfold E2 at m
 refine vs (v0 (vs (v0 ?_)))
 obtain⟨_,Y4,m⟩:=aC m
 refine ve λu=>dO ((bP u [0] rfl rfl).1.trans (dR h [(dH g_p0 p0)] []).symm) (cR (RZ (hp h []) ok_p0 (dL [(dH g_p0 p0)] [] (bP u [0] rfl rfl).2).2 p1B (λx0 o h0 hs ho=>p1H x0 o h0 ((aW (List.nil_sublist _) (dL [(dH g_p0 p0)] [] (bP u [0] rfl rfl).2).1).1.trans hs) ho) Y4) rfl EI rfl ?_)
 rintro x h' ⟨rfl,rfl⟩
 refine qk u ((dR h [(dH g_p0 p0)] []).trans (bP u [0] rfl rfl).1.symm) (vs (vs (v0 (v0 ?_))))
 apply vi m <;> intro c7 m
 refine vs (v0 (v0 ?_))
 obtain rfl:=eU m
 exact vr λu=>dZ.one (.inl rfl) (aW (h0:=h) (L':= [(dH g_p0 p0)]) (.refl _) u).1 (bB.refl _ _) ⟨g_p0,ok_p0,(aW (h0:=h) (L':= [(dH g_p0 p0)]) (.refl _) u).2,rfl,rfl⟩
 refine v0 (vs (vs (v0 (pB m (σ:=(List aH)×Int×Int) (τ:=dC) (λg s=> [(dH g s.1)]) (λg s=>bM g 4 (s.1:List aH).length) (λg s=>.c 0 (aZ g) (.c 1 (.fn (.func p1F) p1C) (.c 5 (nZ s.2.1) (.c 6 (nZ s.2.2) .nil)))) g_p0 ok_p0 (lx (.k4 .nil)) ?_ ?_))))
 rintro ag0 ⟨q0,q1,q2⟩ x O0 m
 replace m:n5 w p1 q0 q1 q2=some x:=m
 unfold n5 at m
 refine vs (vs (v0 (bV (eR iQ O0 rfl) (v0 ?_))))
 apply vi m <;> intro c0 m
 refine v0 (vs (v0 (vs (v0 ?_))))
 obtain⟨x1,X0,m⟩:=aC m
 refine bV (dJ X0 iX O0 rfl rfl) (vn (λu=>eT (fo:=0) (.agg (bK x1)) X0 eC O0 sO rfl (aK 0 u rfl) (λ_=>rfl)) (ve λu=>bG (VJ) u sP rfl rfl λk86 K1=>qk K1 rfl (ve λu=>aJ 0 (bK x1) u rfl rfl rfl rfl GH rfl rfl λK2=>qk K2 rfl (vs (v0 (vl 0 (.agg (bK x1)) sO rfl rfl rfl ?_))))))
 obtain⟨_,Y0,m⟩:=aC m
 refine vn (λu=>cB (p1H _ _ _ (aW (List.nil_sublist _) u).1 Y0) rfl p1B rfl) (qM m (σ:=(List aH)×Int) (τ:=dC) (λg s=> [(some k86,.obj 60 (bK x1)),(dH g s.1)]) (λg s=>bM g 4 (s.1:List aH).length) (λg s=>.c 0 (aZ g) (.c 1 (.fn (.func p1F) p1C) (.c 5 (nZ s.2) (.c 6 (nZ q2) .nil)))) (λx m=> ?_) ?_)
 refine v0 ?_
 apply vi m <;> intro c1 m
 refine vs (v0 (vl 0 (.agg (bK x1)) sO rfl rfl rfl ?_))
 obtain⟨_,X1,m⟩:=aC m
 exact bV (dJ X1 iX O0 rfl rfl) (ve λu=>dA (fo:=0) (x1:aH) 1 u X1 eC O0 rfl rfl rfl rfl (cU.refl _ _) GH rfl rfl λK3=>qk K3 rfl (v0 (fB m ag0 (bM.set O0) (lx (.k4 .nil)))))
 exact v0 (fB m ag0 O0 (lx (.k4 .nil)))
 rintro ag1 ⟨j0,j1⟩ O1 m
 exact v0 (fB m ag1 O1 (nD [1] rfl rfl (.k4 .nil)))
 exact v0 (mL m ag0 O0 (lx (.k4 .nil)))
 rintro ag2 ⟨r0,r1,r2⟩ t0 m
 refine vs (v0 ?_)
 obtain⟨Z0,m⟩:=uQ m
 refine bV (S2 Z0 iX t0 rfl rfl) (ve λu=>LK 0 u Z0 eC t0 u25 sP rfl rfl rfl rfl λsp0 O2 K4=>qk K4 rfl (vs (v0 ?_)))
 obtain⟨Z1,m⟩:=uQ m
 refine bV (S3 Z1 t0 iX rfl rfl) (v0 ?_)
 cases m
 exact vr λu=>dZ.one (.inl rfl) (aW (h0:=h) (L':= [((⟨ag2.t,r1.toNat,ag2.cap,sp0⟩:dC).t,.obj 60 (fl bK (r0.take r1.toNat:List aH) (⟨ag2.t,r1.toNat,ag2.cap,sp0⟩:dC).sp))]) (.refl _) u).1 (bB.refl _ _) ⟨(⟨ag2.t,r1.toNat,ag2.cap,sp0⟩:dC),O2,(aW (h0:=h) (L':= [((⟨ag2.t,r1.toNat,ag2.cap,sp0⟩:dC).t,.obj 60 (fl bK (r0.take r1.toNat:List aH) (⟨ag2.t,r1.toNat,ag2.cap,sp0⟩:dC).sp))]) (.refl _) u).2,rfl,rfl⟩
theorem ZI:aP Tryz.prog 124=true:=by kernel_rfl
def oY (m:Nat) (p0:aA) (p1:aN) (x0:aM) (q0:List Int) (q1:Int) (q2:List aH) (q3:List aB) (q4:List aS) (q5:Int):Option (Lp ((List Int)×Int×(List aH)×(List aB)×(List aS)×Int) (Int×Int×fD)):=
 if (decide (q5 < (p1.Items.length:Int)))=true then ((ix p1.Items q5).bind λx1=>(G3 m ({ Seq:=q1,Snaps:=q2,Chunks:=q3,Exps:=q4,Vols:=(p0.Vols.set p1.Vol.toNat ({ x0 with State:=2})).set p1.Vol.toNat ({ ({ x0 with State:=2}:aM) with Files:=IntKind.wrap .i64 ((({ x0 with State:=2}:aM).Files)+1)})}:aA) x1 ({ Vol:=p1.Vol,File:=({ ({ x0 with State:=2}:aM) with Files:=IntKind.wrap .i64 ((({ x0 with State:=2}:aM).Files)+1)}:aM).Files,Off:=x1.Off,Len:=x1.Len}:bE)).bind λy0=>if (y0.1 !=0)=true then (some (.ret (y0.1,y0.2.1,y0.2.2.1,y0.2.2.2.1,y0.2.2.2.2,(p0.Vols.set p1.Vol.toNat ({ x0 with State:=2})).set p1.Vol.toNat ({ ({ x0 with State:=2}:aM) with Files:=IntKind.wrap .i64 ((({ x0 with State:=2}:aM).Files)+1)})))) else after (if (x1.Kind==3)=true then (some (.brk (mB (q0:List Int) x1.Of))) else some (.brk q0):Option (Lp ((List Int)) (Lp ((List Int)×Int×(List aH)×(List aB)×(List aS)×Int) (Int×Int×fD)))) λj0=>(wN m y0.2.2.2.1 x1.Id).bind λy1=>after (if (x1.Kind==1)=true then (if y1.2=true then (some (.brk ((({ ({ x0 with State:=2}:aM) with Files:=IntKind.wrap .i64 ((({ x0 with State:=2}:aM).Files)+1)}:aM).Pool)==0))) else some (.brk false)) else some (.brk false):Option (Lp (Bool) (Lp ((List Int)×Int×(List aH)×(List aB)×(List aS)×Int) (Int×Int×fD)))) λj1=>after (if j1=true then ((ix y0.2.2.2.1 y1.1).bind λx2=>(ix (y0.2.2.2.1.set y1.1.toNat ({ x2 with Staged:=false})) y1.1).bind λx3=>some (.brk ((y0.2.2.2.1.set y1.1.toNat ({ x2 with Staged:=false})).set y1.1.toNat ({ x3 with Data:=([]:List Int)})))) else some (.brk y0.2.2.2.1):Option (Lp ((List aB)) (Lp ((List Int)×Int×(List aH)×(List aB)×(List aS)×Int) (Int×Int×fD)))) λj2=>some (.go (j0,y0.2.1,y0.2.2.1,j2,y0.2.2.2.2,IntKind.wrap .i64 (q5+1)))) else some (.brk (q0,q1,q2,q3,q4,q5))
def VY (m:Nat) (p0:aA) (p1:aN):Option (Int×Int×fD):=
 (JW m p1.Items (λx0=>JV m x0)).bind λy6=>after (if (decide (p1.Vol < 0))=true then (some (.brk true)) else if (decide ((p0.Vols.length:Int)≤p1.Vol))=true then (some (.brk true)) else (ix p0.Vols p1.Vol).bind λx1=>if (x1.State==3)=true then (some (.brk true)) else if (decide ((p1.Items.length:Int) < 1))=true then (some (.brk true)) else if (decide (64 < (p1.Items.length:Int)))=true then (some (.brk true)) else some (.brk (!(!y6))):Option (Lp (Bool) (Int×Int×fD))) λj0=>if j0=true then (some (1,p0.Seq,p0.Snaps,p0.Chunks,p0.Exps,p0.Vols)) else (ix p0.Vols p1.Vol).bind λx2=>after (aU (λs=>oY m p0 p1 x2 s.1 s.2.1 s.2.2.1 s.2.2.2.1 s.2.2.2.2.1 s.2.2.2.2.2) m ([],p0.Seq,p0.Snaps,p0.Chunks,p0.Exps,0)) λ⟨r0,r1,r2,r3,r4,r5⟩=>(E2 m r2 (λx0=>P9 m x0 (r0:List Int))).bind λy0=>after (if (decide ((y0.length:Int) < (r2.length:Int)))=true then ((G2 m ({ Seq:=r1,Snaps:=y0,Chunks:=r3,Exps:=r4,Vols:=(p0.Vols.set p1.Vol.toNat ({ x2 with State:=2})).set p1.Vol.toNat ({ ({ x2 with State:=2}:aM) with Files:=IntKind.wrap .i64 ((({ x2 with State:=2}:aM).Files)+1)})}:aA)).bind λy1=>some (.brk y1)) else some (.brk r3):Option (Lp ((List aB)) (Int×Int×fD))) λj1=>some (0,r1,y0,j1,r4,(p0.Vols.set p1.Vol.toNat ({ x2 with State:=2})).set p1.Vol.toNat ({ ({ x2 with State:=2}:aM) with Files:=IntKind.wrap .i64 ((({ x2 with State:=2}:aM).Files)+1)}))
theorem W74 {w:Nat} {p0:aA} {p1:aN} {o:Int×Int×fD} (h:aE) {p0K:bY} {gS:dI} (ok_Snaps:nM aH.Locs 4 4 gS (p0.Snaps:List aH)) {gC:dI} (oC:nM aB.Locs 35 4 gC (p0.Chunks:List aB)) {gE:dI} (oE:nM aS.Locs 3 4 gE (p0.Exps:List aS)) {gV:dC} (oV:bM gV 4 p0.Vols.length) (K0:bQ h ([OC p0K p0.Seq gS.a gC.a gE.a gV,bO gS p0.Snaps,a9 gC p0.Chunks,bU gE p0.Exps,aT gV p0.Vols]++((bR gS p0.Snaps)++((bD gC p0.Chunks)++(bX gE p0.Exps))))) (m:VY w p0 p1=some o):
 aL Tryz.prog 74 [.ptr p0K 0,.agg (aD p1)] (hp h ([OC p0K p0.Seq gS.a gC.a gE.a gV,bO gS p0.Snaps,a9 gC p0.Chunks,bU gE p0.Exps,aT gV p0.Vols]++((bR gS p0.Snaps)++((bD gC p0.Chunks)++(bX gE p0.Exps))))) (λr h'=>∃g_Snaps':dC,bM g_Snaps' 4 (o.2.2.1:List aH).length∧∃g_Chunks':dC,bM g_Chunks' 35 (o.2.2.2.1:List aB).length∧∃g_Exps':dC,bM g_Exps' 3 (o.2.2.2.2.1:List aS).length∧∃g_Vols':dC,bM g_Vols' 4 (o.2.2.2.2.2:List aM).length∧bQ h [OC p0K o.2.1 g_Snaps' g_Chunks' g_Exps' g_Vols',bN g_Snaps' o.2.2.1,bF g_Chunks' o.2.2.2.1,cK g_Exps' o.2.2.2.2.1,aT g_Vols' o.2.2.2.2.2]∧r=nZ o.1∧h'=hp h [OC p0K o.2.1 g_Snaps' g_Chunks' g_Exps' g_Vols',bN g_Snaps' o.2.2.1,bF g_Chunks' o.2.2.2.1,cK g_Exps' o.2.2.2.2.1,aT g_Vols' o.2.2.2.2.2]):=by
 refine B9 K0 168 [.tmp 4] Tryz.func74 rfl rfl rfl rfl ?_
 unfold VY at m
 refine vs (v0 (hX rfl rfl λk2 K3=>vs (v0 (dP gK rfl rfl (vl 0 _ kY rfl rfl rfl ?_)))))
 obtain⟨_,Y7,m⟩:=aC m
 refine bV (cB (ZF _ ZD (λx0 o h0 hs ho=>aEP _ ho) Y7) rfl R4 rfl) (vs (vs (fQ m (σ:=Bool) (λs=>([(some k2,.obj 62 (aD p1)),OC p0K p0.Seq gS.a gC.a gE.a gV,bO gS p0.Snaps,a9 gC p0.Chunks,bU gE p0.Exps,aT gV p0.Vols]++((bR gS p0.Snaps)++((bD gC p0.Chunks)++(bX gE p0.Exps))))) (λs=>.c 0 (.ptr p0K 0) (.c 3 (.ptr k2 0) (.c 58 (.sc (.bool s)) .nil))) (λx m=> ?_) ?_)))
 refine v0 (zM (by kernel_rfl) (dP iS rfl rfl (vl 0 _ cD rfl rfl rfl ?_)))
 apply vi m <;> intro b0 m
 rw[b0]
 exact gY m
 rw[b0]
 refine dP iS rfl rfl (vl 0 _ cD rfl rfl rfl (kQ rfl (dP iR rfl rfl (vl 1 (aZ gV) kJ rfl rfl rfl (bV (eR xX oV rfl) ?_)))))
 apply vi m <;> intro b1 m
 rw[b1]
 exact gY m
 rw[b1]
 refine kQ rfl (dP iR rfl rfl (vl 1 (aZ gV) kJ rfl rfl rfl (dP iS rfl rfl (vl 0 _ cD rfl rfl rfl ?_))))
 obtain⟨x1,X0,m⟩:=aC m
 refine bV (dJ X0 pD oV rfl rfl) (bV (cZ (bM.ne oV X0) rH rfl rfl) (vn (λu=>eT (fo:=2) (nZ x1.State) X0 eS oV cD rfl (aK 5 u rfl) (λ_=>rfl)) ?_))
 apply vi m <;> intro b2 m
 rw[b2]
 exact gY m
 rw[b2]
 refine dP gK rfl rfl (vl 0 _ kY rfl rfl rfl (cY pE rfl ?_))
 apply vi m <;> intro b3 m
 rw[b3]
 exact gY m
 rw[b3]
 refine dP gK rfl rfl (vl 0 _ kY rfl rfl rfl (cY pE rfl ?_))
 apply vi m <;> intro b4 m
 rw[b4]
 exact gY m
 rw[b4]
 exact gY m
 rintro _ j0 m
 refine v0 ?_
 apply vi m <;> intro c0 m
 refine vs (v0 (v0 ?_))
 cases m
 exact JR (KD (L':=([(some k2,.obj 62 (aD p1)),OC p0K p0.Seq gS.a gC.a gE.a gV,bN gS.a p0.Snaps,a9 gC p0.Chunks,bU gE p0.Exps,aT gV p0.Vols]++((bD gC p0.Chunks)++(bX gE p0.Exps)))) [[_], [_], [_], [_], [_], [_],_,_,_] rfl 2 6 f9 wW ok_Snaps.k rfl rfl (by decide) rfl) (JR (KD (L':=([(some k2,.obj 62 (aD p1)),OC p0K p0.Seq gS.a gC.a gE.a gV,bN gS.a p0.Snaps,bF gC.a p0.Chunks,bU gE p0.Exps,aT gV p0.Vols]++(bX gE p0.Exps))) [[_], [_], [_], [_], [_], [_],_,_] rfl 3 6 f9 tJ oC.k rfl rfl (by decide) rfl) (JR (KD (L':= [(some k2,.obj 62 (aD p1)),OC p0K p0.Seq gS.a gC.a gE.a gV,bN gS.a p0.Snaps,bF gC.a p0.Chunks,cK gE.a p0.Exps,aT gV p0.Vols]) [[_], [_], [_], [_], [_], [_],_] rfl 4 6 f9 CT oE.k rfl rfl (by decide) rfl) (vr λu=>dZ.of1 (.inl rfl) (f0 _ _ (.sc (.int _ _)) rfl) (bJ u [1,2,3,4,5] rfl).2 (bB.refl _ _) ⟨gS.a,ok_Snaps.k.a,gC.a,oC.k.a,gE.a,oE.k.a,gV,oV,(bJ u [1,2,3,4,5] rfl).1,rfl,rfl⟩)))
 refine v0 (vs (v0 (zM (by kernel_rfl) (kQ rfl (dP iR rfl rfl (vl 1 (aZ gV) kJ rfl rfl rfl (dP iS rfl rfl (vl 0 _ cD rfl rfl rfl ?_))))))))
 obtain⟨x2,X1,m⟩:=aC m
 refine bV (dJ X1 pD oV rfl rfl) (vs (v0 (bV (iP (bM.ne oV X1) rfl) (bV (cZ (bM.ne oV X1) rH rfl rfl) (ve λu=>dA (fo:=2) ({ x2 with State:=2}:aM) 5 u X1 eS oV rfl rfl rfl rfl (cU.refl _ _) DN rfl rfl λK1=>qk K1 rfl (vs (v0 (bV (iP (bM.ne (bM.set oV) (cX (x':=({ x2 with State:=2}:aM)) X1)) rfl) (bV (cZ (bM.ne (bM.set oV) (cX (x':=({ x2 with State:=2}:aM)) X1)) rI rfl rfl) (vn (λu=>eT (fo:=3) (nZ (({ x2 with State:=2}:aM).Files)) (cX (x':=({ x2 with State:=2}:aM)) X1) eS (bM.set oV) cD rfl (aK 5 u rfl) (λ_=>rfl)) (bV (iP (bM.ne (bM.set oV) (cX (x':=({ x2 with State:=2}:aM)) X1)) rfl) (bV (cZ (bM.ne (bM.set oV) (cX (x':=({ x2 with State:=2}:aM)) X1)) rI rfl rfl) (ve λu=>dA (fo:=3) ({ ({ x2 with State:=2}:aM) with Files:=IntKind.wrap .i64 ((({ x2 with State:=2}:aM).Files)+1)}:aM) 5 u (cX (x':=({ x2 with State:=2}:aM)) X1) eS (bM.set oV) rfl rfl rfl rfl (cU.refl _ _) DN rfl rfl λK2=>qk K2 rfl (vs (v0 (ve λu=>BW u λk36 K4=>qk K4 rfl (ve λu=>bG ([.sc (.map none)]) u (show uF Tryz.prog 161=some [.map none] by kernel_rfl) rfl rfl λk39 K5=>qk K5 rfl (ve λu=>aJ 0 ([.mpv k36]) u rfl rfl rfl rfl W1 rfl rfl λK6=>qk K6 rfl ?_))))))))))))))))))
 refine vs (vs (v0 (dP gK rfl rfl (vl 2 _ kY rfl rfl rfl (cY pE rfl (pB m (σ:=(List Int)×Int×(List aH)×(List aB)×(List aS)×Int) (τ:=dI×dI×dI) (λg s=>([(some k39,.obj 161 ([.mpv k36])),(some k36,.mp (fX kI (s.1:List Int))),(some k2,.obj 62 (aD p1)),OC p0K s.2.1 g.1.a g.2.1.a g.2.2.a gV,bO g.1 s.2.2.1,a9 g.2.1 s.2.2.2.1,bU g.2.2 s.2.2.2.2.1,aT gV ((p0.Vols.set p1.Vol.toNat ({ x2 with State:=2})).set p1.Vol.toNat ({ ({ x2 with State:=2}:aM) with Files:=IntKind.wrap .i64 ((({ x2 with State:=2}:aM).Files)+1)}))]++((bR g.1 s.2.2.1)++((bD g.2.1 s.2.2.2.1)++(bX g.2.2 s.2.2.2.2.1))))) (λg s=>nM aH.Locs 4 4 g.1 (s.2.2.1:List aH)∧nM aB.Locs 35 4 g.2.1 (s.2.2.2.1:List aB)∧nM aS.Locs 3 4 g.2.2 (s.2.2.2.2.1:List aS)) (λg s=>.c 0 (.ptr p0K 0) (.c 3 (.ptr k2 0) (.c 6 (wH gV.t (p1.Vol.toNat*4+0)) (.c 7 (.ptr k39 0) (.c 78 (.sl none 37 (List.map aV p1.Items)) (.c 79 (nZ (p1.Items.length:Int)) (.c 80 (nZ s.2.2.2.2.2) .nil))))))) (gS,gC,gE) (⟨ok_Snaps,oC,oE⟩) (lx (.k7 .nil)) ?_ ?_))))))
 rintro⟨ng0,ng1,ng2⟩ ⟨q0,q1,q2,q3,q4,q5⟩ x ⟨O0,O1,O2⟩ m
 replace m:oY w p0 p1 x2 q0 q1 q2 q3 q4 q5=some x:=m
 unfold oY at m
 refine vs (v0 (vs (v0 ?_)))
 apply vi m <;> intro c1 m
 refine v0 (vs (v0 (vs (v0 (vx m wK rfl rfl λx3 _ m=>va (.agg (aV x3)) GB rfl rfl (ve λu=>bG (([nZ 0]:List AV)++bH jI++(Q5:List AV)) u S8 rfl rfl λk284 K7=>qk K7 rfl (ve λu=>aJ 0 (aV x3) u rfl rfl rfl rfl S6 rfl rfl λK8=>qk K8 rfl (vs (v0 (vz [(1000000,some k284,.obj 38 (aV x3)),(1000000,some k2,.obj 62 (aD p1)),(1000000,gV.t,.obj 49 (fl cS ((p0.Vols.set p1.Vol.toNat ({ x2 with State:=2})).set p1.Vol.toNat ({ ({ x2 with State:=2}:aM) with Files:=IntKind.wrap .i64 ((({ x2 with State:=2}:aM).Files)+1)}):List aM) gV.sp))] mixed (λu=>⟨λ_=>aK 0 u rfl,λ_=>aK 3 u rfl,λ_=>aK 8 u rfl,trivial⟩) λu=>zP 0 rfl rfl (zL 1 0 (.agg (aV x3)) rfl GB rfl rfl rfl (zF 2 rfl iS rfl (zL 3 1 (nZ p1.Vol) rfl cD rfl rfl rfl (zC 4 rfl (eZ (wH _ _) rfl) (zC 5 rfl (iP (bM.ne (bM.set (bM.set oV)) (cX (x':=({ ({ x2 with State:=2}:aM) with Files:=IntKind.wrap .i64 ((({ x2 with State:=2}:aM).Files)+1)}:aM)) (cX (x':=({ x2 with State:=2}:aM)) X1))) rfl) (zC 6 rfl (cZ (bM.ne (bM.set (bM.set oV)) (cX (x':=({ ({ x2 with State:=2}:aM) with Files:=IntKind.wrap .i64 ((({ x2 with State:=2}:aM).Files)+1)}:aM)) (cX (x':=({ x2 with State:=2}:aM)) X1))) rI rfl rfl) (zR 7 rfl (λ_ _ hi hB=>eT (fo:=3) (nZ (({ ({ x2 with State:=2}:aM) with Files:=IntKind.wrap .i64 ((({ x2 with State:=2}:aM).Files)+1)}:aM).Files)) (cX (x':=({ ({ x2 with State:=2}:aM) with Files:=IntKind.wrap .i64 ((({ x2 with State:=2}:aM).Files)+1)}:aM)) (cX (x':=({ x2 with State:=2}:aM)) X1)) eS (bM.set (bM.set oV)) cD rfl (f8.get 2 hi rfl (hB 1000000 (by kernel_rfl))) (λ_=>rfl)) ?_)))))))))))))))))
 refine zF 8 rfl GC rfl (zL 9 0 (nZ x3.Off) rfl cD rfl rfl rfl (zF 10 rfl GD rfl (zL 11 0 (nZ x3.Len) rfl cD rfl rfl rfl (zC 12 rfl (eK (aQ ({ Vol:=p1.Vol,File:=({ ({ x2 with State:=2}:aM) with Files:=IntKind.wrap .i64 ((({ x2 with State:=2}:aM).Files)+1)}:aM).Files,Off:=x3.Off,Len:=x3.Len}:bE)) WZ rfl) ?_))))
 obtain⟨y0,Y0,m⟩:=aC m
 refine zE 13 rfl ?_
 have ho0:=lX (A:=([OC p0K q1 ng0.a ng1.a ng2.a gV,bO ng0 q2,a9 ng1 q3,bU ng2 q4,aT gV ((p0.Vols.set p1.Vol.toNat ({ x2 with State:=2})).set p1.Vol.toNat ({ ({ x2 with State:=2}:aM) with Files:=IntKind.wrap .i64 ((({ x2 with State:=2}:aM).Files)+1)}))]++((bR ng0 q2)++((bD ng1 q3)++(bX ng2 q4))))) (R:= [(some k284,.obj 38 (aV x3)),(some k39,.obj 161 ([.mpv k36])),(some k36,.mp (fX kI (q0:List Int))),(some k2,.obj 62 (aD p1))]) u [[_], [_], [_], [_], [_], [_], [_], [_], [_],_,_,_] rfl [4,5,6,7,8,9,10,11] [0,1,2,3] rfl rfl rfl
 refine dO ho0.1 (cR (aEO (p0:=({ Seq:=q1,Snaps:=q2,Chunks:=q3,Exps:=q4,Vols:=(p0.Vols.set p1.Vol.toNat ({ x2 with State:=2})).set p1.Vol.toNat ({ ({ x2 with State:=2}:aM) with Files:=IntKind.wrap .i64 ((({ x2 with State:=2}:aM).Files)+1)})}:aA)) _ (O0) (O1) (O2) ((bM.set (bM.set oV))) ho0.2.2 Y0) rfl ZC rfl ?_)
 rintro x h' ⟨ng3,O3,ng4,O4,ng5,O5,K9,rfl,rfl⟩
 have K10:=lY (L':=([(some k284,.obj 38 (aV x3)),(some k39,.obj 161 ([.mpv k36])),(some k36,.mp (fX kI (q0:List Int))),(some k2,.obj 62 (aD p1)),OC p0K y0.2.1 ng3.a ng4.a ng5.a gV,bO ng3 y0.2.2.1,a9 ng4 y0.2.2.2.1,bU ng5 y0.2.2.2.2,aT gV ((p0.Vols.set p1.Vol.toNat ({ x2 with State:=2})).set p1.Vol.toNat ({ ({ x2 with State:=2}:aM) with Files:=IntKind.wrap .i64 ((({ x2 with State:=2}:aM).Files)+1)}))]++((bR ng3 y0.2.2.1)++((bD ng4 y0.2.2.2.1)++(bX ng5 y0.2.2.2.2))))) ho0.2.1 K9 [[_], [_], [_], [_], [_],_,_,_] [[_], [_], [_], [_]] rfl rfl [8,9,10,11,0,1,2,3,4,5,6,7] rfl rfl
 refine nC K10.1 (⟨⟨λ_=>aK 0 K10.2 rfl,λ_=>aK 3 K10.2 rfl,λ_=>aK 8 K10.2 rfl,trivial⟩, ?_⟩)
 refine zC 14 rfl (hU (.sc (.int _ _)) rfl) (zX (qk (f:=.c 10 _ (S1 97 _ _ _ _ _ _ _ _ _ _ _ _ _ _ _)) K10.2 rfl (vs (vs (v0 (v0 ?_))))))
 apply vi m <;> intro c2 m
 refine vs (v0 (v0 (gM m λm=> ?_)))
 cases m
 refine JR (KD (L':=([(some k284,.obj 38 (aV x3)),(some k39,.obj 161 ([.mpv k36])),(some k36,.mp (fX kI (q0:List Int))),(some k2,.obj 62 (aD p1)),OC p0K y0.2.1 ng3.a ng4.a ng5.a gV,bN ng3.a y0.2.2.1,a9 ng4 y0.2.2.2.1,bU ng5 y0.2.2.2.2,aT gV ((p0.Vols.set p1.Vol.toNat ({ x2 with State:=2})).set p1.Vol.toNat ({ ({ x2 with State:=2}:aM) with Files:=IntKind.wrap .i64 ((({ x2 with State:=2}:aM).Files)+1)}))]++((bD ng4 y0.2.2.2.1)++(bX ng5 y0.2.2.2.2)))) [[_], [_], [_], [_], [_], [_], [_], [_], [_],_,_,_] rfl 5 9 f9 wW O3.k rfl rfl (by decide) rfl) (JR (KD (L':=([(some k284,.obj 38 (aV x3)),(some k39,.obj 161 ([.mpv k36])),(some k36,.mp (fX kI (q0:List Int))),(some k2,.obj 62 (aD p1)),OC p0K y0.2.1 ng3.a ng4.a ng5.a gV,bN ng3.a y0.2.2.1,bF ng4.a y0.2.2.2.1,bU ng5 y0.2.2.2.2,aT gV ((p0.Vols.set p1.Vol.toNat ({ x2 with State:=2})).set p1.Vol.toNat ({ ({ x2 with State:=2}:aM) with Files:=IntKind.wrap .i64 ((({ x2 with State:=2}:aM).Files)+1)}))]++(bX ng5 y0.2.2.2.2))) [[_], [_], [_], [_], [_], [_], [_], [_], [_],_,_] rfl 6 9 f9 tJ O4.k rfl rfl (by decide) rfl) (JR (KD (L':= [(some k284,.obj 38 (aV x3)),(some k39,.obj 161 ([.mpv k36])),(some k36,.mp (fX kI (q0:List Int))),(some k2,.obj 62 (aD p1)),OC p0K y0.2.1 ng3.a ng4.a ng5.a gV,bN ng3.a y0.2.2.1,bF ng4.a y0.2.2.2.1,cK ng5.a y0.2.2.2.2,aT gV ((p0.Vols.set p1.Vol.toNat ({ x2 with State:=2})).set p1.Vol.toNat ({ ({ x2 with State:=2}:aM) with Files:=IntKind.wrap .i64 ((({ x2 with State:=2}:aM).Files)+1)}))]) [[_], [_], [_], [_], [_], [_], [_], [_], [_],_] rfl 7 9 f9 CT O5.k rfl rfl (by decide) rfl) ?_))
 exact vr λu=>dZ.of1 (.inl rfl) (f0 _ _ (.sc (.int _ _)) rfl) (bJ u [4,5,6,7,8] rfl).2 (bB.refl _ _) ⟨ng3.a,O3.k.a,ng4.a,O4.k.a,ng5.a,O5.k.a,gV,(bM.set (bM.set oV)),(bJ u [4,5,6,7,8] rfl).1,rfl,rfl⟩
 refine v0 (vs (vs (v0 (dP lR rfl rfl (vl 0 _ cD rfl rfl rfl (fQ m (σ:=(List Int)) (λs=>([(some k284,.obj 38 (aV x3)),(some k39,.obj 161 ([.mpv k36])),(some k36,.mp (fX kI (s:List Int))),(some k2,.obj 62 (aD p1)),OC p0K y0.2.1 ng3.a ng4.a ng5.a gV,bO ng3 y0.2.2.1,a9 ng4 y0.2.2.2.1,bU ng5 y0.2.2.2.2,aT gV ((p0.Vols.set p1.Vol.toNat ({ x2 with State:=2})).set p1.Vol.toNat ({ ({ x2 with State:=2}:aM) with Files:=IntKind.wrap .i64 ((({ x2 with State:=2}:aM).Files)+1)}))]++((bR ng3 y0.2.2.1)++((bD ng4 y0.2.2.2.1)++(bX ng5 y0.2.2.2.2))))) (λs=>.c 0 (.ptr p0K 0) (.c 3 (.ptr k2 0) (.c 6 (wH gV.t (p1.Vol.toNat*4+0)) (.c 7 (.ptr k39 0) (.c 9 (.ptr k284 0) (.c 78 (.sl none 37 (List.map aV p1.Items)) (.c 79 (nZ (p1.Items.length:Int)) (.c 80 (nZ q5) .nil)))))))) (λx m=> ?_) ?_))))))
 refine v0 ?_
 apply vi m <;> intro c3 m
 exact v0 (vl 1 _ RH rfl rfl rfl (dP uX rfl rfl (vl 0 _ cD rfl rfl rfl (ve λu=>LC 2 u RI (xQ.int u3) rfl rfl rfl rfl λK11=>qk K11 rfl (LJ m)))))
 exact v0 (LJ m)
 rintro _ j1 m
 refine vs (v0 (zM (by kernel_rfl) (kQ rfl (dP eG rfl rfl (vl 4 (aZ ng4.a) eO rfl rfl rfl (dP uW rfl rfl (vl 0 (.agg (bH x3.Id)) fL rfl rfl rfl ?_)))))))
 obtain⟨y1,Y1,m⟩:=aC m
 refine vn (λu=>cB (fA (.cons (Br.awN 6 cL f9 EY O4.k u rfl (UC [[_], [_], [_], [_], [_], [_], [_], [_], [_],_,_,_] rfl 10 rfl)) (.cons (Br.refl _ _) .nil)) rfl (PS _ Y1)) rfl HT rfl) (vs (fQ m (σ:=Bool) (λs=>([(some k284,.obj 38 (aV x3)),(some k39,.obj 161 ([.mpv k36])),(some k36,.mp (fX kI (j1:List Int))),(some k2,.obj 62 (aD p1)),OC p0K y0.2.1 ng3.a ng4.a ng5.a gV,bO ng3 y0.2.2.1,a9 ng4 y0.2.2.2.1,bU ng5 y0.2.2.2.2,aT gV ((p0.Vols.set p1.Vol.toNat ({ x2 with State:=2})).set p1.Vol.toNat ({ ({ x2 with State:=2}:aM) with Files:=IntKind.wrap .i64 ((({ x2 with State:=2}:aM).Files)+1)}))]++((bR ng3 y0.2.2.1)++((bD ng4 y0.2.2.2.1)++(bX ng5 y0.2.2.2.2))))) (λs=>.c 0 (.ptr p0K 0) (.c 3 (.ptr k2 0) (.c 6 (wH gV.t (p1.Vol.toNat*4+0)) (.c 7 (.ptr k39 0) (.c 11 (nZ y1.1) (.c 78 (.sl none 37 (List.map aV p1.Items)) (.c 79 (nZ (p1.Items.length:Int)) (.c 80 (nZ q5) (.c 129 (.sc (.bool s)) .nil))))))))) (λx m=> ?_) ?_))
 refine v0 (dP lR rfl rfl (vl 0 _ cD rfl rfl rfl ?_))
 apply vi m <;> intro b5 m
 rw[b5]
 apply vi m <;> intro b6 m
 rw[b6]
 exact bV (iP (bM.ne (bM.set (bM.set oV)) (cX (x':=({ ({ x2 with State:=2}:aM) with Files:=IntKind.wrap .i64 ((({ x2 with State:=2}:aM).Files)+1)}:aM)) (cX (x':=({ x2 with State:=2}:aM)) X1))) rfl) (bV (cZ (bM.ne (bM.set (bM.set oV)) (cX (x':=({ ({ x2 with State:=2}:aM) with Files:=IntKind.wrap .i64 ((({ x2 with State:=2}:aM).Files)+1)}:aM)) (cX (x':=({ x2 with State:=2}:aM)) X1))) LO rfl rfl) (vn (λu=>eT (fo:=0) (nZ (({ ({ x2 with State:=2}:aM) with Files:=IntKind.wrap .i64 ((({ x2 with State:=2}:aM).Files)+1)}:aM).Pool)) (cX (x':=({ ({ x2 with State:=2}:aM) with Files:=IntKind.wrap .i64 ((({ x2 with State:=2}:aM).Files)+1)}:aM)) (cX (x':=({ x2 with State:=2}:aM)) X1)) eS (bM.set (bM.set oV)) cD rfl (aK 8 u rfl) (λ_=>rfl)) (gq9 m)))
 rw[b6]
 exact gq9 m
 rw[b5]
 exact gq9 m
 rintro _ j2 m
 refine qM m (σ:=(List aB)) (τ:=dI) (λg s=>([(some k284,.obj 38 (aV x3)),(some k39,.obj 161 ([.mpv k36])),(some k36,.mp (fX kI (j1:List Int))),(some k2,.obj 62 (aD p1)),OC p0K y0.2.1 ng3.a g.a ng5.a gV,bO ng3 y0.2.2.1,a9 g s,bU ng5 y0.2.2.2.2,aT gV ((p0.Vols.set p1.Vol.toNat ({ x2 with State:=2})).set p1.Vol.toNat ({ ({ x2 with State:=2}:aM) with Files:=IntKind.wrap .i64 ((({ x2 with State:=2}:aM).Files)+1)}))]++((bR ng3 y0.2.2.1)++((bD g s)++(bX ng5 y0.2.2.2.2))))) (λg s=>nM aB.Locs 35 4 g (s:List aB)) (λg s=>.c 0 (.ptr p0K 0) (.c 3 (.ptr k2 0) (.c 6 (wH gV.t (p1.Vol.toNat*4+0)) (.c 7 (.ptr k39 0) (.c 78 (.sl none 37 (List.map aV p1.Items)) (.c 79 (nZ (p1.Items.length:Int)) (.c 80 (nZ q5) .nil))))))) (λx m=> ?_) ?_
 refine v0 ?_
 apply vi m <;> intro c4 m
 refine v0 (vz [(1000000,some p0K,.obj 30 ([nZ y0.2.1,aZ ng3.a,aZ ng4.a,aZ ng5.a,aZ gV]))] mixed (λu=>⟨λ_=>aK 4 u rfl,trivial⟩) λu=>zP 0 rfl rfl (zN 1 rfl rfl (zF 2 rfl eG rfl (zL 3 0 (aZ ng4.a) rfl eO rfl rfl rfl (zI 4 rfl rfl (zP 5 rfl rfl (zN 6 rfl rfl (zF 7 rfl eG rfl (zL 8 0 (aZ ng4.a) rfl eO rfl rfl rfl (zI 9 rfl rfl ?_))))))))))
 obtain⟨x4,X2,m⟩:=aC m
 refine zC 10 rfl (dJ (O4.k.ix X2) fH O4.k.z rfl rfl) (zC 11 rfl (cZ (bM.ne O4.k.z (O4.k.ix X2)) oJ rfl rfl) (zE 12 rfl (dA (fo:=32) (x':=(({ x4 with Staged:=false}:aB),(gx ng4.gs y1.1.toNat))) 6 u (O4.k.ix X2) kH O4.k.z rfl rfl rfl rfl (cU.refl _ _) VP rfl rfl ?_)))
 intro K12
 have hs0:tH aB.Locs 35 4 ng4 (y0.2.2.2.1:List aB):=O4.k
 have hn0:hp h _=hp h ([(some k284,.obj 38 (aV x3)),(some k39,.obj 161 ([.mpv k36])),(some k36,.mp (fX kI (j1:List Int))),(some k2,.obj 62 (aD p1)),OC p0K y0.2.1 ng3.a ng4.a ng5.a gV,bO ng3 y0.2.2.1,a9 ng4 (y0.2.2.2.1.set y1.1.toNat ({ x4 with Staged:=false})),bU ng5 y0.2.2.2.2,aT gV ((p0.Vols.set p1.Vol.toNat ({ x2 with State:=2})).set p1.Vol.toNat ({ ({ x2 with State:=2}:aM) with Files:=IntKind.wrap .i64 ((({ x2 with State:=2}:aM).Files)+1)}))]++((bR ng3 y0.2.2.1)++((bD ng4 (y0.2.2.2.1.set y1.1.toNat ({ x4 with Staged:=false})))++(bX ng5 y0.2.2.2.2))))∧bQ h ([(some k284,.obj 38 (aV x3)),(some k39,.obj 161 ([.mpv k36])),(some k36,.mp (fX kI (j1:List Int))),(some k2,.obj 62 (aD p1)),OC p0K y0.2.1 ng3.a ng4.a ng5.a gV,bO ng3 y0.2.2.1,a9 ng4 (y0.2.2.2.1.set y1.1.toNat ({ x4 with Staged:=false})),bU ng5 y0.2.2.2.2,aT gV ((p0.Vols.set p1.Vol.toNat ({ x2 with State:=2})).set p1.Vol.toNat ({ ({ x2 with State:=2}:aM) with Files:=IntKind.wrap .i64 ((({ x2 with State:=2}:aM).Files)+1)}))]++((bR ng3 y0.2.2.1)++((bD ng4 (y0.2.2.2.1.set y1.1.toNat ({ x4 with Staged:=false})))++(bX ng5 y0.2.2.2.2)))):=eqN (L:=_) K12 (by unfold a9; (try unfold bD); rw[(hs0.set (x':=({ x4 with Staged:=false}:aB)) X2 rfl).2.2,← (hs0.set (x':=({ x4 with Staged:=false}:aB)) X2 rfl).2.1]; first | done | rfl)
 refine nC hn0.1 (⟨⟨λ_=>aK 4 hn0.2 rfl,trivial⟩, ?_⟩)
 obtain⟨x5,X3,m⟩:=aC m
 refine zC 13 rfl (dJ ((O4.set (x':=({ x4 with Staged:=false}:aB)) X2 rfl).k.ix X3) fH ((O4.set (x':=({ x4 with Staged:=false}:aB)) X2 rfl).k.z) rfl rfl) (zC 14 rfl (cZ (bM.ne ((O4.set (x':=({ x4 with Staged:=false}:aB)) X2 rfl).k.z) ((O4.set (x':=({ x4 with Staged:=false}:aB)) X2 rfl).k.ix X3)) jP rfl rfl) (zE 15 rfl (dA (fo:=33) (x':=(({ x5 with Data:=([]:List Int)}:aB),(gx ng4.gs y1.1.toNat))) 6 hn0.2 ((O4.set (x':=({ x4 with Staged:=false}:aB)) X2 rfl).k.ix X3) kH ((O4.set (x':=({ x4 with Staged:=false}:aB)) X2 rfl).k.z) rfl rfl rfl rfl (.cons (aR _) .nil) CE rfl rfl ?_)))
 intro K13
 have hs1:tH aB.Locs 35 4 ng4 (y0.2.2.2.1.set y1.1.toNat ({ x4 with Staged:=false}):List aB):=(O4.set (x':=({ x4 with Staged:=false}:aB)) X2 rfl).k
 have hn1:hp h _=hp h ([(some k284,.obj 38 (aV x3)),(some k39,.obj 161 ([.mpv k36])),(some k36,.mp (fX kI (j1:List Int))),(some k2,.obj 62 (aD p1)),OC p0K y0.2.1 ng3.a ng4.a ng5.a gV,bO ng3 y0.2.2.1,a9 ng4 ((y0.2.2.2.1.set y1.1.toNat ({ x4 with Staged:=false})).set y1.1.toNat ({ x5 with Data:=([]:List Int)})),bU ng5 y0.2.2.2.2,aT gV ((p0.Vols.set p1.Vol.toNat ({ x2 with State:=2})).set p1.Vol.toNat ({ ({ x2 with State:=2}:aM) with Files:=IntKind.wrap .i64 ((({ x2 with State:=2}:aM).Files)+1)}))]++((bR ng3 y0.2.2.1)++((bD ng4 ((y0.2.2.2.1.set y1.1.toNat ({ x4 with Staged:=false})).set y1.1.toNat ({ x5 with Data:=([]:List Int)})))++(bX ng5 y0.2.2.2.2))))∧bQ h ([(some k284,.obj 38 (aV x3)),(some k39,.obj 161 ([.mpv k36])),(some k36,.mp (fX kI (j1:List Int))),(some k2,.obj 62 (aD p1)),OC p0K y0.2.1 ng3.a ng4.a ng5.a gV,bO ng3 y0.2.2.1,a9 ng4 ((y0.2.2.2.1.set y1.1.toNat ({ x4 with Staged:=false})).set y1.1.toNat ({ x5 with Data:=([]:List Int)})),bU ng5 y0.2.2.2.2,aT gV ((p0.Vols.set p1.Vol.toNat ({ x2 with State:=2})).set p1.Vol.toNat ({ ({ x2 with State:=2}:aM) with Files:=IntKind.wrap .i64 ((({ x2 with State:=2}:aM).Files)+1)}))]++((bR ng3 y0.2.2.1)++((bD ng4 ((y0.2.2.2.1.set y1.1.toNat ({ x4 with Staged:=false})).set y1.1.toNat ({ x5 with Data:=([]:List Int)})))++(bX ng5 y0.2.2.2.2)))):=eqN (L:=_) K13 (by unfold a9; (try unfold bD); rw[(hs1.set (x':=({ x5 with Data:=([]:List Int)}:aB)) X3 rfl).2.2,← (hs1.set (x':=({ x5 with Data:=([]:List Int)}:aB)) X3 rfl).2.1]; first | done | rfl)
 refine nC hn1.1 (⟨⟨λ_=>aK 4 hn1.2 rfl,trivial⟩, ?_⟩)
 exact zX (qk (f:=S1 143 _ _ _ _ _ _ _ _ _ _ _ _ _ _ _) hn1.2 rfl (fB m ng4 ((O4.set (x':=({ x4 with Staged:=false}:aB)) X2 rfl).set (x':=({ x5 with Data:=([]:List Int)}:aB)) X3 rfl) (lx (.k7 .nil))))
 exact v0 (fB m ng4 O4 (lx (.k7 .nil)))
 rintro ng6 j3 O6 m
 exact v0 (fB m (ng3,ng6,ng5) ⟨O3,O6,O5⟩ (lxB [[_], [_], [_], [_], [_], [_], [_], [_], [_],_,_,_] rfl [1,2,3,4,5,6,7,8,9,10,11] rfl rfl (.k7 .nil)))
 exact v0 (mL m (ng0,ng1,ng2) ⟨O0,O1,O2⟩ (lx (.k7 .nil)))
 rintro⟨ng7,ng8,ng9⟩ ⟨r0,r1,r2,r3,r4,r5⟩ ⟨t0,t1,t2⟩ m
 refine vs (v0 (kQ rfl (dP dQ rfl rfl (vl 3 (aZ ng7.a) eV rfl rfl rfl (bV (eR iQ t0.k.a rfl) (vs (rE (KD (L':=([(some k39,.obj 161 ([.mpv k36])),(some k36,.mp (fX kI (r0:List Int))),(some k2,.obj 62 (aD p1)),OC p0K r1 ng7.a ng8.a ng9.a gV,bN ng7.a r2,a9 ng8 r3,bU ng9 r4,aT gV ((p0.Vols.set p1.Vol.toNat ({ x2 with State:=2})).set p1.Vol.toNat ({ ({ x2 with State:=2}:aM) with Files:=IntKind.wrap .i64 ((({ x2 with State:=2}:aM).Files)+1)}))]++((bD ng8 r3)++(bX ng9 r4)))) [[_], [_], [_], [_], [_], [_], [_], [_],_,_,_] rfl 4 8 f9 wW t0.k rfl rfl (by decide) rfl) (rE (KD (L':=([(some k39,.obj 161 ([.mpv k36])),(some k36,.mp (fX kI (r0:List Int))),(some k2,.obj 62 (aD p1)),OC p0K r1 ng7.a ng8.a ng9.a gV,bN ng7.a r2,bF ng8.a r3,bU ng9 r4,aT gV ((p0.Vols.set p1.Vol.toNat ({ x2 with State:=2})).set p1.Vol.toNat ({ ({ x2 with State:=2}:aM) with Files:=IntKind.wrap .i64 ((({ x2 with State:=2}:aM).Files)+1)}))]++(bX ng9 r4))) [[_], [_], [_], [_], [_], [_], [_], [_],_,_] rfl 5 8 f9 tJ t1.k rfl rfl (by decide) rfl) (rE (KD (L':= [(some k39,.obj 161 ([.mpv k36])),(some k36,.mp (fX kI (r0:List Int))),(some k2,.obj 62 (aD p1)),OC p0K r1 ng7.a ng8.a ng9.a gV,bN ng7.a r2,bF ng8.a r3,cK ng9.a r4,aT gV ((p0.Vols.set p1.Vol.toNat ({ x2 with State:=2})).set p1.Vol.toNat ({ ({ x2 with State:=2}:aM) with Files:=IntKind.wrap .i64 ((({ x2 with State:=2}:aM).Files)+1)}))]) [[_], [_], [_], [_], [_], [_], [_], [_],_] rfl 6 8 f9 CT t2.k rfl rfl (by decide) rfl) (v0 (kQ rfl (dP dQ rfl rfl (vl 3 (aZ ng7.a) eV rfl rfl rfl ?_)))))))))))))
 obtain⟨y2,Y2,m⟩:=aC m
 refine ve λu=>dO ((bP u [4,0,1,2,3,5,6,7] rfl rfl).1.trans (dR h [bN ng7.a r2] [(some k39,.obj 161 ([.mpv k36])),(some k36,.mp (fX kI (r0:List Int))),(some k2,.obj 62 (aD p1)),OC p0K r1 ng7.a ng8.a ng9.a gV,bF ng8.a r3,cK ng9.a r4,aT gV ((p0.Vols.set p1.Vol.toNat ({ x2 with State:=2})).set p1.Vol.toNat ({ ({ x2 with State:=2}:aM) with Files:=IntKind.wrap .i64 ((({ x2 with State:=2}:aM).Files)+1)}))]).symm) (cR (ZH (hp h [(some k39,.obj 161 ([.mpv k36])),(some k36,.mp (fX kI (r0:List Int))),(some k2,.obj 62 (aD p1)),OC p0K r1 ng7.a ng8.a ng9.a gV,bF ng8.a r3,cK ng9.a r4,aT gV ((p0.Vols.set p1.Vol.toNat ({ x2 with State:=2})).set p1.Vol.toNat ({ ({ x2 with State:=2}:aM) with Files:=IntKind.wrap .i64 ((({ x2 with State:=2}:aM).Files)+1)}))]) t0.k.a (dL [bN ng7.a r2] [(some k39,.obj 161 ([.mpv k36])),(some k36,.mp (fX kI (r0:List Int))),(some k2,.obj 62 (aD p1)),OC p0K r1 ng7.a ng8.a ng9.a gV,bF ng8.a r3,cK ng9.a r4,aT gV ((p0.Vols.set p1.Vol.toNat ({ x2 with State:=2})).set p1.Vol.toNat ({ ({ x2 with State:=2}:aM) with Files:=IntKind.wrap .i64 ((({ x2 with State:=2}:aM).Files)+1)}))] (bP u [4,0,1,2,3,5,6,7] rfl rfl).2).2 ZG (λx0 o h0 hs ho=>aER _ (hs _ _ (aX 0 (dL [bN ng7.a r2] [(some k39,.obj 161 ([.mpv k36])),(some k36,.mp (fX kI (r0:List Int))),(some k2,.obj 62 (aD p1)),OC p0K r1 ng7.a ng8.a ng9.a gV,bF ng8.a r3,cK ng9.a r4,aT gV ((p0.Vols.set p1.Vol.toNat ({ x2 with State:=2})).set p1.Vol.toNat ({ ({ x2 with State:=2}:aM) with Files:=IntKind.wrap .i64 ((({ x2 with State:=2}:aM).Files)+1)}))] (bP u [4,0,1,2,3,5,6,7] rfl rfl).2).1 rfl)) (hs _ _ (aX 1 (dL [bN ng7.a r2] [(some k39,.obj 161 ([.mpv k36])),(some k36,.mp (fX kI (r0:List Int))),(some k2,.obj 62 (aD p1)),OC p0K r1 ng7.a ng8.a ng9.a gV,bF ng8.a r3,cK ng9.a r4,aT gV ((p0.Vols.set p1.Vol.toNat ({ x2 with State:=2})).set p1.Vol.toNat ({ ({ x2 with State:=2}:aM) with Files:=IntKind.wrap .i64 ((({ x2 with State:=2}:aM).Files)+1)}))] (bP u [4,0,1,2,3,5,6,7] rfl rfl).2).1 rfl)) ho) Y2) rfl ZI rfl ?_)
 rintro x h' ⟨ag0,O7,K14,rfl,rfl⟩
 have K15:=bP (L':= [(some k39,.obj 161 ([.mpv k36])),(some k36,.mp (fX kI (r0:List Int))),(some k2,.obj 62 (aD p1)),(hO p0K r1 ng7.a ng8.a ng9.a gV),bN ag0 y2,bF ng8.a r3,cK ng9.a r4,aT gV ((p0.Vols.set p1.Vol.toNat ({ x2 with State:=2})).set p1.Vol.toNat ({ ({ x2 with State:=2}:aM) with Files:=IntKind.wrap .i64 ((({ x2 with State:=2}:aM).Files)+1)}))]) (eL (dL [bN ng7.a r2] [(some k39,.obj 161 ([.mpv k36])),(some k36,.mp (fX kI (r0:List Int))),(some k2,.obj 62 (aD p1)),OC p0K r1 ng7.a ng8.a ng9.a gV,bF ng8.a r3,cK ng9.a r4,aT gV ((p0.Vols.set p1.Vol.toNat ({ x2 with State:=2})).set p1.Vol.toNat ({ ({ x2 with State:=2}:aM) with Files:=IntKind.wrap .i64 ((({ x2 with State:=2}:aM).Files)+1)}))] (bP u [4,0,1,2,3,5,6,7] rfl rfl).2).1 K14) [1,2,3,4,0,5,6,7] rfl rfl
 refine qk K15.2 ((dR h [bN ag0 y2] [(some k39,.obj 161 ([.mpv k36])),(some k36,.mp (fX kI (r0:List Int))),(some k2,.obj 62 (aD p1)),OC p0K r1 ng7.a ng8.a ng9.a gV,bF ng8.a r3,cK ng9.a r4,aT gV ((p0.Vols.set p1.Vol.toNat ({ x2 with State:=2})).set p1.Vol.toNat ({ ({ x2 with State:=2}:aM) with Files:=IntKind.wrap .i64 ((({ x2 with State:=2}:aM).Files)+1)}))]).trans K15.1) (kQ rfl (dP dQ rfl rfl (ve λu=>aJ 3 ([nZ r1,aZ ag0,aZ ng8.a,aZ ng9.a,aZ gV]) u rfl rfl (cG rfl) (cE (bZ _ _ _) rfl) F9 rfl rfl λK16=>qk K16 rfl (vs (vs (v0 (kQ rfl (dP dQ rfl rfl (vl 3 (aZ ag0) eV rfl rfl rfl (bV (eR iQ O7 rfl) (qM m (σ:=(List aB)) (τ:=dC) (λg s=> [(some k39,.obj 161 ([.mpv k36])),(some k36,.mp (fX kI (r0:List Int))),(some k2,.obj 62 (aD p1)),OC p0K r1 ag0 g ng9.a gV,bN ag0 y2,bF g s,cK ng9.a r4,aT gV ((p0.Vols.set p1.Vol.toNat ({ x2 with State:=2})).set p1.Vol.toNat ({ ({ x2 with State:=2}:aM) with Files:=IntKind.wrap .i64 ((({ x2 with State:=2}:aM).Files)+1)}))]) (λg s=>bM g 35 (s:List aB).length) (λg s=>.nil) (λx m=> ?_) ?_)))))))))))
 refine v0 ?_
 apply vi m <;> intro c5 m
 refine v0 ?_
 obtain⟨y3,Y3,m⟩:=aC m
 refine ve λu=>dO ((bP u [3,4,5,6,7,0,1,2] rfl rfl).1.trans (dR h [OC p0K r1 ag0 ng8.a ng9.a gV,bN ag0 y2,bF ng8.a r3,cK ng9.a r4,aT gV ((p0.Vols.set p1.Vol.toNat ({ x2 with State:=2})).set p1.Vol.toNat ({ ({ x2 with State:=2}:aM) with Files:=IntKind.wrap .i64 ((({ x2 with State:=2}:aM).Files)+1)}))] [(some k39,.obj 161 ([.mpv k36])),(some k36,.mp (fX kI (r0:List Int))),(some k2,.obj 62 (aD p1))]).symm) (cR (YX (p0:=({ Seq:=r1,Snaps:=y2,Chunks:=r3,Exps:=r4,Vols:=(p0.Vols.set p1.Vol.toNat ({ x2 with State:=2})).set p1.Vol.toNat ({ ({ x2 with State:=2}:aM) with Files:=IntKind.wrap .i64 ((({ x2 with State:=2}:aM).Files)+1)})}:aA)) (hp h [(some k39,.obj 161 ([.mpv k36])),(some k36,.mp (fX kI (r0:List Int))),(some k2,.obj 62 (aD p1))]) O7 t1.k.a t2.k.a (bM.set (bM.set oV)) (dL [OC p0K r1 ag0 ng8.a ng9.a gV,bN ag0 y2,bF ng8.a r3,cK ng9.a r4,aT gV ((p0.Vols.set p1.Vol.toNat ({ x2 with State:=2})).set p1.Vol.toNat ({ ({ x2 with State:=2}:aM) with Files:=IntKind.wrap .i64 ((({ x2 with State:=2}:aM).Files)+1)}))] [(some k39,.obj 161 ([.mpv k36])),(some k36,.mp (fX kI (r0:List Int))),(some k2,.obj 62 (aD p1))] (bP u [3,4,5,6,7,0,1,2] rfl rfl).2).2 Y3) rfl R0 rfl ?_)
 rintro x h' ⟨ag1,O8,K17,rfl,rfl⟩
 have K18:=bP (L':= [(some k39,.obj 161 ([.mpv k36])),(some k36,.mp (fX kI (r0:List Int))),(some k2,.obj 62 (aD p1)),OC p0K r1 ag0 ag1 ng9.a gV,bN ag0 y2,bF ag1 y3,cK ng9.a r4,aT gV ((p0.Vols.set p1.Vol.toNat ({ x2 with State:=2})).set p1.Vol.toNat ({ ({ x2 with State:=2}:aM) with Files:=IntKind.wrap .i64 ((({ x2 with State:=2}:aM).Files)+1)}))]) (eL (dL [OC p0K r1 ag0 ng8.a ng9.a gV,bN ag0 y2,bF ng8.a r3,cK ng9.a r4,aT gV ((p0.Vols.set p1.Vol.toNat ({ x2 with State:=2})).set p1.Vol.toNat ({ ({ x2 with State:=2}:aM) with Files:=IntKind.wrap .i64 ((({ x2 with State:=2}:aM).Files)+1)}))] [(some k39,.obj 161 ([.mpv k36])),(some k36,.mp (fX kI (r0:List Int))),(some k2,.obj 62 (aD p1))] (bP u [3,4,5,6,7,0,1,2] rfl rfl).2).1 K17) [5,6,7,0,1,2,3,4] rfl rfl
 exact qk K18.2 ((dR h [OC p0K r1 ag0 ag1 ng9.a gV,bN ag0 y2,bF ag1 y3,cK ng9.a r4,aT gV ((p0.Vols.set p1.Vol.toNat ({ x2 with State:=2})).set p1.Vol.toNat ({ ({ x2 with State:=2}:aM) with Files:=IntKind.wrap .i64 ((({ x2 with State:=2}:aM).Files)+1)}))] [(some k39,.obj 161 ([.mpv k36])),(some k36,.mp (fX kI (r0:List Int))),(some k2,.obj 62 (aD p1))]).trans K18.1) (fB m ag1 O8 (lx .nil))
 exact v0 (fB m ng8.a t1.k.a (lx .nil))
 rintro ag2 j4 O9 m
 refine vs (v0 (v0 ?_))
 cases m
 exact vr λu=>dZ.of1 (.inl rfl) (f0 _ _ (.sc (.int _ _)) rfl) (bJ u [3,4,5,6,7] rfl).2 (bB.refl _ _) ⟨ag0,O7,ag2,O9,ng9.a,t2.k.a,gV,(bM.set (bM.set oV)),(bJ u [3,4,5,6,7] rfl).1,rfl,rfl⟩
theorem aES:aP Tryz.prog 74=true:=by kernel_rfl
open Go.Vm
def QA (m:Nat) (p0:List bL):Option (List bL):=app [] p0
theorem aET {w:Nat} {p0:List bL} {o:List bL} (h:aE) (m:QA w p0=some o):
 aL Tryz.prog 170 [.sl none 32 (List.map bH p0)] h (λr h'=>∃t,(t=none→o= [])∧bQ h [(t,.tok 36 32 (o.length*32))]∧r=ow t 32 (List.map bH o)∧h'=hp h [(t,.tok 36 32 (o.length*32))]):=by
 refine jJ 8 [.tmp 2] Tryz.func170 rfl rfl rfl rfl ?_
 unfold QA at m
 refine gP λK1 H1=>eB (rY (hU (.sc (.slice _ _ _)) rfl) (fI (H1 _ _ (gP λK1 H1=>gP λK2 H2=>eB (vE rfl (lI (kC rfl (by rw[xZ]; rfl) (by rw[bI]; exact rfl) (.inl ⟨_,_,_,rfl,λb hb=> ?_⟩))))))))
 refine fI (H2 _ _ (nP rfl (λhc=> ?_) (λhc=> ?_)))
 have h0:p0= []:=by
   cases p0 with
   | nil=>rfl
   | cons x l=>have:=hb (by simp); rw[this] at hc; cases hc
 subst h0
 obtain⟨rfl, -⟩:=jC m
 exact gP λK1 H1=>eB (rY (hU (.sc (.slice _ _ _)) rfl) (fI (H1 _ _ (iN (dZ.one (.inl rfl) (iT.refl _) (jD _ _) ⟨none,λ_=>rfl,bQ.none (bQ.nil _),rfl,rfl⟩)))))
 exact l4 (H1 _ _ (gP λK1 H1=>eB (lI (KX (c:=bH) (bQ.nil _) CH λu=>vE rfl (lI (e8 (c:=bH) 0 m CH rfl rfl rfl (λ_=>rfl) u rfl λtg ot u=>rY (hU (ow _ _ _) rfl) (fI (H1 _ _ (iN (dZ.one (.inl rfl) (iT.refl _) (bB.refl _ _) ⟨tg,ot,u,rfl,rfl⟩))))))))))
theorem ZJ:aP Tryz.prog 170=true:=by kernel_rfl
def H7 (m:Nat) (p0:List dB):Option (List dB):=app [] p0
theorem ZK {w:Nat} {p0:List dB} {o:List dB} (h:aE) (m:H7 w p0=some o):
 aL Tryz.prog 169 [.sl none 3 (List.map bT p0)] h (λr h'=>∃g:dC,bM g 3 o.length∧bQ h [(g.t,.obj 70 (fl bT o g.sp))]∧r=aZ g∧h'=hp h [(g.t,.obj 70 (fl bT o g.sp))]):=by
 refine jJ 8 [.tmp 2] Tryz.func169 rfl rfl rfl rfl ?_
 unfold H7 at m
 refine gP λK1 H1=>eB (rY (hU (.sc (.slice _ _ _)) rfl) (fI (H1 _ _ (gP λK1 H1=>gP λK2 H2=>eB (vE rfl (lI (kC rfl (by rw[rJ]; rfl) (by rw[bI]; exact rfl) (.inl ⟨_,_,_,rfl,λb hb=> ?_⟩))))))))
 refine fI (H2 _ _ (nP rfl (λhc=> ?_) (λhc=> ?_)))
 have h0:p0= []:=by
   cases p0 with
   | nil=>rfl
   | cons x l=>have:=hb (by simp); rw[this] at hc; cases hc
 subst h0
 obtain⟨rfl, -⟩:=jC m
 exact gP λK1 H1=>eB (rY (hU (.sc (.slice _ _ _)) rfl) (fI (H1 _ _ (iN (dZ.one (.inl rfl) (iT.refl _) (fP _) ⟨g0,bM.g0 _,bQ.none (bQ.nil _),rfl,rfl⟩)))))
 exact l4 (H1 _ _ (gP λK1 H1=>eB (lI (qH (c:=bT) (bQ.nil _) JE λu=>vE rfl (lI (fS (c:=bT) 0 m JE rfl GI rfl wR rfl rfl (bM.g0 _) u rfl λg ok u=>rY (hU (aw _ _ _) rfl) (fI (H1 _ _ (iN (dZ.one (.inl rfl) (iT.refl _) (bB.refl _ _) ⟨g,ok,u,rfl,rfl⟩))))))))))
theorem ZL:aP Tryz.prog 169=true:=by kernel_rfl
def tO (m:Nat) (y9:(List dB)) (q0:List dB) (q1:Int):Option (Lp ((List dB)×Int) (aY)):=
 if (decide (q1 < (y9.length:Int)))=true then ((ix q0 q1).bind λx0=>(QA m x0.Ids).bind λy0=>(ix q0 q1).bind λx1=>some (.go (q0.set q1.toNat ({ x1 with Ids:=y0}),IntKind.wrap .i64 (q1+1)))) else some (.brk (q0,q1))
def JX (m:Nat) (p0:aY):Option (aY):=
 (H7 m p0.Parts).bind λy9=>after (aU (λs=>tO m y9 s.1 s.2) m (y9,0)) λ⟨r0,r1⟩=>some ({ Name:=p0.Name,Parts:=r0}:aY)
theorem ZM {w:Nat} {p0:aY} {o:aY} (h:aE) (m:JX w p0=some o):
 aL Tryz.prog 115 [.agg (bC p0)] h (λr h'=>r= .agg (bC o)∧h'=h):=by
 refine fT 28 [.cell 2 58] Tryz.func115 rfl rfl rfl rfl ?_
 unfold JX at m
 refine vs (v0 (hX rfl rfl λk2 K3=>ve λu=>bG ([.sc (.string ByteArray.empty),sZ]) u LS rfl rfl λk5 K6=>qk K6 rfl (vs (v0 (dP xY rfl rfl (vl 1 _ nE rfl rfl rfl ?_))))))
 obtain⟨y9,Y0,m⟩:=aC m
 refine ve λu=>cR (ZK _ Y0) rfl ZL rfl ?_
 rintro x h' ⟨ag0,O0,K0,rfl,rfl⟩
 refine qk (bQ.co u K0) (iO _ _ _) (dP xY rfl rfl (ve λu=>aJ 2 ([.sc (.string p0.Name),aZ ag0]) u rfl rfl (cG rfl) (cE (bZ _ _ _) rfl) S9 rfl rfl λK1=>qk K1 rfl (vs (vs (v0 (dP xY rfl rfl (vl 2 (aZ ag0) nE rfl rfl rfl (bV (eR uY O0 rfl) (pB m (σ:=(List dB)×Int) (τ:=dC) (λg s=> [(g.t,.obj 70 (fl bT (s.1:List dB) g.sp)),(some k5,.obj 58 ([.sc (.string ByteArray.empty),sZ])),(some k2,.obj 58 ([.sc (.string p0.Name),aZ g]))]) (λg s=>bM g 3 (s.1:List dB).length) (λg s=>.c 1 (.ptr k2 0) (.c 2 (.ptr k5 0) (.c 10 (nZ (y9.length:Int)) (.c 11 (nZ s.2) .nil)))) ag0 O0 (lx (.k4 .nil)) ?_ ?_)))))))))
 rintro ag1 ⟨q0,q1⟩ x O1 m
 replace m:tO w y9 q0 q1=some x:=m
 unfold tO at m
 refine vs (v0 (vs (v0 ?_)))
 apply vi m <;> intro c0 m
 refine v0 (vs (v0 (vs (v0 (v0 (vz [(1000000,some k2,.obj 58 ([.sc (.string p0.Name),aZ ag1])),(12,ag1.t,.obj 70 (fl bT (q0:List dB) ag1.sp))] mixed (λu=>⟨λ_=>aK 2 u rfl,λ_=>aK 0 u rfl,trivial⟩) λu=>zF 0 rfl xY rfl (zL 1 0 (aZ ag1) rfl nE rfl rfl rfl (zI 2 rfl rfl (zF 3 rfl xY rfl (zL 4 0 (aZ ag1) rfl nE rfl rfl rfl (zI 5 rfl rfl ?_)))))))))))
 obtain⟨x0,X0,m⟩:=aC m
 refine zC 6 rfl (dJ X0 rJ O1 rfl rfl) (zC 7 rfl (cZ (bM.ne O1 X0) LV rfl rfl) (zR 8 rfl (λ_ _ hi hB=>eT (fo:=2) (.sl none 32 (List.map bH x0.Ids)) X0 wR O1 u0 rfl (f8.get 1 hi rfl (hB 12 (by kernel_rfl))) (λ_=>rfl)) ?_))
 obtain⟨y0,Y1,m⟩:=aC m
 refine zE 9 rfl (cR (aET _ Y1) rfl ZJ rfl ?_)
 rintro x h' ⟨tg0,t0,K2,rfl,rfl⟩
 rw[iO]
 refine⟨⟨λ_=>aK 3 (bQ.co u K2) rfl,λ_=>aK 1 (bQ.co u K2) rfl,trivial⟩, ?_⟩
 obtain⟨x1,X1,m⟩:=aC m
 refine zC 10 rfl (dJ X1 rJ O1 rfl rfl) (zC 11 rfl (cZ (bM.ne O1 X1) LV rfl rfl) (zE 12 rfl (xU (s:=23) (.sl none 32 (List.map bH y0)) (aW (.cons _ (.refl _)) (bQ.co u K2)).1 (Fz.ale (aW (.cons _ (.refl _)) (bQ.co u K2)).1 (mW _ 0 t0 (bQ.co u K2) rfl (.refl _))) (dA (fo:=2) ({ x1 with Ids:=y0}:dB) 0 ((aW (.cons _ (.refl _)) (bQ.co u K2)).2) X1 wR O1 rfl rfl rfl rfl (cU.refl _ _) TH rfl rfl λK4=>⟨⟨λ_=>aK 2 K4 rfl,λe=>absurd e (by decide),trivial⟩, ?_⟩))))
 exact zX (qk (f:=I8 25 _ _ _ _ _ _ _ _ _ _ _ _ _) K4 rfl (v0 (fB m ag1 (bM.set O1) (lx (.k4 .nil)))))
 exact v0 (mL m ag1 O1 (lx (.k4 .nil)))
 rintro ag2 ⟨r0,r1⟩ t1 m
 refine vs (v0 (vl 2 (.agg ([.sc (.string p0.Name),aZ ag2])) nU rfl rfl rfl (ve λu=>aJ 1 ([.sc (.string p0.Name),aZ ag2]) u rfl rfl rfl (by repeat (first | exact rfl | refine cE (iE _ _ _) ?_ | refine cE (bZ _ _ _) ?_ | refine cE (fV _ _ _ _) ?_ | refine cE rfl ?_)) zS rfl rfl λK5=>qk K5 rfl ?_)))
 refine v0 ?_
 cases m
 refine vrl λu=> ?_
 obtain⟨K7,le0⟩:=iW.fzO (n:=28) (f:=_) 0 0 ([.sc (.string p0.Name),.sl none 3 (List.map bT r0)]) u rfl (.cons (Fz.refl _ _ _) (.cons (Fz.aw 0 wR t1 u rfl (.refl _)) .nil))
 exact OF.mk le0 (dZ.of1 (.inl rfl) (qT (.agg (bC ({ Name:=p0.Name,Parts:=r0}:aY))) nU rfl (aX 0 K7 rfl) rfl) (aW (List.nil_sublist _) K7).1 (bB.refl _ _) ⟨rfl,rfl⟩)
theorem R5:aP Tryz.prog 115=true:=by kernel_rfl
def M7 (m:Nat) (p0:aB):Option (Bool):=
 after (if (!p0.Staged)=true then (some (.brk true)) else some (.brk (decide (0 < (p0.Locs.length:Int)))):Option (Lp (Bool) (Bool))) λj7=>some j7
theorem aEU {u:Nat} {p0:aB} {o:Bool} (h:aE) (m:M7 u p0=some o):
 aL Tryz.prog 168 [.agg (aI p0)] h (λr h'=>r= .sc (.bool o)∧h'=h):=by
 refine fT 12 [.tmp 2] Tryz.func168 rfl rfl rfl rfl ?_
 unfold M7 at m
 refine v (hX rfl rfl λk2 K3=>vs (fQ m (σ:=Bool) (λs=> [(some k2,.obj 44 (aI p0))]) (λs=>.c 2 (.sc (.bool s)) .nil) (λx m=> ?_) ?_))
 refine v (vl 0 _ DO rfl rfl rfl ?_)
 apply vi m <;> intro b8 m
 rw[b8]
 exact iZ m
 rw[b8]
 exact vl 0 _ fM rfl rfl rfl (cY jO rfl (iZ m))
 rintro _ j7 m
 refine v ?_
 obtain rfl:=eU m
 exact eA rfl
theorem ZN:aP Tryz.prog 168=true:=by kernel_rfl
def M8 (m:Nat) (p0:List aB) (p1:aB→Option Bool):Option (Bool):=
 (XY m p0 p1).bind λy3=>some (decide (0≤y3))
theorem ZO {w:Nat} {p0:List aB} {p1:aB→Option Bool} {o:Bool} (h:aE) {p1F:Nat} {p1C:List AV} (p1B:aP Tryz.prog p1F=true) (p1H:∀x0 o h0,iT h h0→p1 x0=some o→aL Tryz.prog p1F ([.agg (aI x0)]++p1C) h0 (λr h'=>r= .sc (.bool o)∧h'=h0)) (m:M8 w p0 p1=some o):
 aL Tryz.prog 159 [.sl none 35 (List.map aI p0),.fn (.func p1F) p1C] h (λr h'=>r= .sc (.bool o)∧h'=h):=by
 refine fT 9 [.tmp 4] Tryz.func159 rfl rfl rfl rfl ?_
 unfold M8 at m
 refine v (v ?_)
 obtain⟨_,Y4,m⟩:=aC m
 refine vn (λu=>cB (W53 _ p1B (λx0 o h0 hs ho=>p1H x0 o h0 ((aW (List.nil_sublist _) u).1.trans hs) ho) Y4) rfl aDF rfl) (v ?_)
 cases m
 exact eA rfl
theorem R6:aP Tryz.prog 159=true:=by kernel_rfl
def JY (m:Nat) (p0:List aB):Option (Bool):=
 (M8 m p0 (λx0=>M7 m x0)).bind λy3=>some (!y3)
theorem ZP {u:Nat} {p0:List aB} {o:Bool} (h:aE) (m:JY u p0=some o):
 aL Tryz.prog 114 [.sl none 35 (List.map aI p0)] h (λr h'=>r= .sc (.bool o)∧h'=h):=by
 refine fT 6 [.tmp 2] Tryz.func114 rfl rfl rfl rfl ?_
 unfold JY at m
 refine v (v ?_)
 obtain⟨_,Y4,m⟩:=aC m
 refine bV (cB (ZO _ ZN (λ_ o h0 hs ho=>aEU _ ho) Y4) rfl R6 rfl) (v ?_)
 cases m
 exact eA rfl
theorem R7:aP Tryz.prog 114=true:=by kernel_rfl
def rQ (m:Nat) (p1:aN) (q0:List aB) (q1:Int):Option (Lp ((List aB)×Int) (Int×Int×(List aH)×(List aB))):=
 if (decide (q1 < (p1.Chunks.length:Int)))=true then ((ix p1.Chunks q1).bind λx0=>(wN m q0 x0.Id).bind λy0=>after (if (!y0.2)=true then ((pI q0 y0.1 (({ Id:=x0.Id,Staged:=false,Data:= [],Locs:= []}:aB):aB)).bind λy1=>some (.brk y1)) else some (.brk q0):Option (Lp ((List aB)) (Lp ((List aB)×Int) (Int×Int×(List aH)×(List aB))))) λj0=>(RN m x0.Data).bind λy2=>(ix j0 y0.1).bind λx1=>(ix (j0.set y0.1.toNat ({ x1 with Staged:=true})) y0.1).bind λx2=>some (.go ((j0.set y0.1.toNat ({ x1 with Staged:=true})).set y0.1.toNat ({ x2 with Data:=y2}),IntKind.wrap .i64 (q1+1)))) else some (.brk (q0,q1))
def VZ (m:Nat) (p0:aA) (p1:aN):Option (Int×Int×(List aH)×(List aB)):=
 after (if (p1.Snap.Seq !=p0.Seq)=true then (some (.brk true)) else if (decide (0 < (p1.Snap.Locs.length:Int)))=true then (some (.brk true)) else (JY m p1.Chunks).bind λy0=>some (.brk (!y0)):Option (Lp (Bool) (Int×Int×(List aH)×(List aB)))) λj0=>if j0=true then (some (1,p0.Seq,p0.Snaps,p0.Chunks)) else (VT m ({ Seq:=p0.Seq,Snaps:=p0.Snaps,Chunks:=p0.Chunks,Exps:=p0.Exps,Vols:=p0.Vols}:aA) p1.Snap.Man.Name).bind λy1=>if (decide (0≤y1))=true then (some (9,p0.Seq,p0.Snaps,p0.Chunks)) else (JX m p1.Snap.Man).bind λy2=>(app p0.Snaps ([({ Seq:=p1.Snap.Seq,Man:=y2,Locs:= []}:aH)]:List aH)).bind λz0=>after (aU (λs=>rQ m p1 s.1 s.2) m (p0.Chunks,0)) λ⟨r0,r1⟩=>some (0,IntKind.wrap .i64 (p0.Seq+1),z0,r0)
theorem W72 {w:Nat} {p0:aA} {p1:aN} {o:Int×Int×(List aH)×(List aB)} (h:aE) {p0K:bY} {gS:dC} (ok_Snaps:bM gS 4 p0.Snaps.length) {gC:dC} (oC:bM gC 35 p0.Chunks.length) {gE:dC} (oE:bM gE 3 p0.Exps.length) {gV:dC} (oV:bM gV 4 p0.Vols.length) (K0:bQ h [OC p0K p0.Seq gS gC gE gV,bN gS p0.Snaps,bF gC p0.Chunks,cK gE p0.Exps,aT gV p0.Vols]) (m:VZ w p0 p1=some o):
 aL Tryz.prog 72 [.ptr p0K 0,.agg (aD p1)] (hp h [OC p0K p0.Seq gS gC gE gV,bN gS p0.Snaps,bF gC p0.Chunks,cK gE p0.Exps,aT gV p0.Vols]) (λr h'=>∃g_Snaps':dC,bM g_Snaps' 4 (o.2.2.1:List aH).length∧∃g_Chunks':dC,bM g_Chunks' 35 (o.2.2.2:List aB).length∧bQ h [OC p0K o.2.1 g_Snaps' g_Chunks' gE gV,bN g_Snaps' o.2.2.1,bF g_Chunks' o.2.2.2,cK gE p0.Exps,aT gV p0.Vols]∧r=nZ o.1∧h'=hp h [OC p0K o.2.1 g_Snaps' g_Chunks' gE gV,bN g_Snaps' o.2.2.1,bF g_Chunks' o.2.2.2,cK gE p0.Exps,aT gV p0.Vols]):=by
 refine B9 K0 115 [.tmp 4] Tryz.func72 rfl rfl rfl rfl ?_
 unfold VZ at m
 refine vs (v0 (hX rfl rfl λk2 K3=>vs (v0 (vs (fQ m (σ:=Bool) (λs=> [(some k2,.obj 62 (aD p1)),OC p0K p0.Seq gS gC gE gV,bN gS p0.Snaps,bF gC p0.Chunks,cK gE p0.Exps,aT gV p0.Vols]) (λs=>.c 0 (.ptr p0K 0) (.c 3 (.ptr k2 0) (.c 9 (.sc (.bool s)) .nil))) (λx m=> ?_) ?_)))))
 refine v0 (zM (by kernel_rfl) (dP lB rfl rfl (dP uZ rfl rfl (vl 0 _ cD rfl rfl rfl (kQ rfl (dP nS rfl rfl (vl 1 _ cD rfl rfl rfl ?_)))))))
 apply vi m <;> intro b0 m
 rw[b0]
 exact gY m
 rw[b0]
 refine dP lB rfl rfl (dP kO rfl rfl (vl 0 _ fM rfl rfl rfl (cY jO rfl ?_)))
 apply vi m <;> intro b1 m
 rw[b1]
 exact gY m
 rw[b1]
 exact dP mX rfl rfl (vl 0 _ eO rfl rfl rfl (vk ZP R7 m rfl rfl λ_ m=>gY m))
 rintro _ j0 m
 refine v0 ?_
 apply vi m <;> intro c0 m
 refine vs (v0 (v0 ?_))
 cases m
 exact vr λu=>dZ.of1 (.inl rfl) (f0 _ _ (.sc (.int _ _)) rfl) (bJ u [1,2,3,4,5] rfl).2 (bB.refl _ _) ⟨gS,ok_Snaps,gC,oC,(bJ u [1,2,3,4,5] rfl).1,rfl,rfl⟩
 refine vs (v0 (zM (by kernel_rfl) (kQ rfl (vl 1 (.agg ([nZ p0.Seq,aZ gS,aZ gC,aZ gE,aZ gV])) eP rfl rfl rfl (dP lB rfl rfl (dP oL rfl rfl (dP LQ rfl rfl (vl 0 _ wS rfl rfl rfl ?_))))))))
 obtain⟨_,Y0,m⟩:=aC m
 refine vn (λu=>cB (fA (.cons (Br.agg (.cons (Br.refl _ _) (.cons (Br.aw 2 eC ok_Snaps u rfl) (.cons (Br.aw 3 cL oC u rfl) (.cons (Br.aw 4 fY oE u rfl) (.cons (Br.aw 5 eS oV u rfl) .nil)))))) (.cons (Br.refl _ _) .nil)) rfl (W46 _ Y0)) rfl XX rfl) (v0 ?_)
 apply vi m <;> intro c1 m
 refine vs (v0 (v0 ?_))
 cases m
 exact vr λu=>dZ.of1 (.inl rfl) (f0 _ _ (.sc (.int _ _)) rfl) (bJ u [1,2,3,4,5] rfl).2 (bB.refl _ _) ⟨gS,ok_Snaps,gC,oC,(bJ u [1,2,3,4,5] rfl).1,rfl,rfl⟩
 refine v0 (vs (v0 (kQ rfl (dP nS rfl rfl (vl 1 _ cD rfl rfl rfl (kQ rfl (dP nS rfl rfl (ve λu=>aJ 1 ([nZ (IntKind.wrap .i64 (p0.Seq+1)),aZ gS,aZ gC,aZ gE,aZ gV]) u rfl rfl rfl rfl DN rfl rfl λK1=>qk K1 rfl (vs (v0 (vz [(17,some p0K,.obj 30 ([nZ (IntKind.wrap .i64 (p0.Seq+1)),aZ gS,aZ gC,aZ gE,aZ gV])),(1000000,some k2,.obj 62 (aD p1))] mixed (λu=>⟨λ_=>aK 1 u rfl,λ_=>aK 0 u rfl,trivial⟩) λu=>zP 0 rfl rfl (zP 1 rfl rfl (zN 2 rfl rfl (zF 3 rfl dQ rfl (zL 4 0 (aZ gS) rfl eV rfl rfl rfl (zF 5 rfl lB rfl (zF 6 rfl uZ rfl (zL 7 1 (nZ p1.Snap.Seq) rfl cD rfl rfl rfl (zF 8 rfl lB rfl (zF 9 rfl oL rfl (zL 10 1 (.agg (bC p1.Snap.Man)) rfl nU rfl rfl rfl ?_)))))))))))))))))))))
 obtain⟨y0,Y1,m⟩:=aC m
 refine zC 11 rfl (cB (ZM _ Y1) rfl R5 rfl) (zC 12 rfl (fG (y:=.agg (bK ({ Seq:=p1.Snap.Seq,Man:=y0,Locs:= []}:aH))) (eK (([nZ p1.Snap.Seq]:List AV)++bC y0++([sZ]:List AV)) PN rfl) (bB.agg (.cons (bB.refl _ _) (cU.app 2 rfl (.cons (aR _) .nil))))) (zC 13 rfl (eD (List.map bK ([({ Seq:=p1.Snap.Seq,Man:=y0,Locs:= []}:aH)]:List aH)) wJ rfl rfl rfl rfl) ?_))
 obtain⟨z0,Z0,m⟩:=aC m
 refine zE 14 rfl (fS (c:=bK) 2 Z0 wJ rfl sP rfl eC rfl rfl ok_Snaps u rfl λag0 O0 K2=>⟨⟨λ_=>aK 1 K2 rfl,λ_=>aK 0 K2 rfl,trivial⟩, ?_⟩)
 refine zN 15 rfl rfl (zF 16 rfl dQ rfl (zE 17 rfl (aJ 1 ([nZ (IntKind.wrap .i64 (p0.Seq+1)),aZ ag0,aZ gC,aZ gE,aZ gV]) K2 rfl rfl (cG rfl) (cE (bZ _ _ _) rfl) F9 rfl rfl λK4=>⟨⟨λe=>absurd e (by decide),λ_=>aK 0 K4 rfl,trivial⟩, ?_⟩)))
 refine zX (qk (f:=B6 64 _ _ _ _ _ _ _ _ _ _ _ _ _ _ _ _ _ _) K4 rfl (vs (vs (v0 (dP mX rfl rfl (vl 0 _ eO rfl rfl rfl (cY jG rfl (pB m (σ:=(List aB)×Int) (τ:=dC) (λg s=> [(some k2,.obj 62 (aD p1)),OC p0K (IntKind.wrap .i64 (p0.Seq+1)) ag0 g gE gV,bN ag0 z0,bF g s.1,cK gE p0.Exps,aT gV p0.Vols]) (λg s=>bM g 35 (s.1:List aB).length) (λg s=>.c 0 (.ptr p0K 0) (.c 66 (.sl none 35 (List.map aI p1.Chunks)) (.c 67 (nZ (p1.Chunks.length:Int)) (.c 68 (nZ s.2) .nil)))) gC oC (lx (.k4 .nil)) ?_ ?_))))))))
 rintro ag1 ⟨q0,q1⟩ x O1 m
 replace m:rQ w p1 q0 q1=some x:=m
 unfold rQ at m
 refine vs (v0 (vs (v0 ?_)))
 apply vi m <;> intro c2 m
 refine v0 (vs (v0 (vs (v0 (vx m fH rfl rfl λx0 _ m=>va (.agg (aI x0)) nT rfl rfl (ve λu=>bG (bH jI++(OB:List AV)) u oK rfl rfl λk228 K5=>qk K5 rfl (ve λu=>aJ 0 (aI x0) u rfl rfl rfl rfl CF rfl rfl λK6=>qk K6 rfl (vs (v0 (zM (by kernel_rfl) (kQ rfl (dP eG rfl rfl (vl 2 (aZ ag1) eO rfl rfl rfl (dP oI rfl rfl (vl 0 (.agg (bH x0.Id)) fL rfl rfl rfl ?_)))))))))))))))
 obtain⟨y1,Y2,m⟩:=aC m
 refine vn (λu=>cB (fA (.cons (Br.aw 4 cL O1 u rfl) (.cons (Br.refl _ _) .nil)) rfl (PS _ Y2)) rfl HT rfl) (vs (vs (v0 (qM m (σ:=(List aB)) (τ:=dC) (λg s=> [(some k228,.obj 44 (aI x0)),(some k2,.obj 62 (aD p1)),OC p0K (IntKind.wrap .i64 (p0.Seq+1)) ag0 g gE gV,bN ag0 z0,bF g s,cK gE p0.Exps,aT gV p0.Vols]) (λg s=>bM g 35 (s:List aB).length) (λg s=>.c 0 (.ptr p0K 0) (.c 6 (.ptr k228 0) (.c 7 (nZ y1.1) (.c 66 (.sl none 35 (List.map aI p1.Chunks)) (.c 67 (nZ (p1.Chunks.length:Int)) (.c 68 (nZ q1) .nil)))))) (λx m=> ?_) ?_))))
 refine v0 ?_
 apply vi m <;> intro c3 m
 refine v0 (vz [(13,some p0K,.obj 30 ([nZ (IntKind.wrap .i64 (p0.Seq+1)),aZ ag0,aZ ag1,aZ gE,aZ gV])),(1000000,some k228,.obj 44 (aI x0))] mixed (λu=>⟨λ_=>aK 2 u rfl,λ_=>aK 0 u rfl,trivial⟩) λu=>zP 0 rfl rfl (zP 1 rfl rfl (zN 2 rfl rfl (zF 3 rfl eG rfl (zL 4 0 (aZ ag1) rfl eO rfl rfl rfl (zI 5 rfl rfl (zF 6 rfl oI rfl (zL 7 1 (.agg (bH x0.Id)) rfl fL rfl rfl rfl (zC 8 rfl (fG (y:=.agg (aI ({ Id:=x0.Id,Staged:=false,Data:= [],Locs:= []}:aB))) (eK (bH x0.Id++(OB:List AV)) WT rfl) (bB.agg (cU.app 32 rfl (.cons (bB.refl _ _) (.cons (aR _) (.cons (aR _) .nil)))))) (zC 9 rfl (eD (List.map aI ([({ Id:=x0.Id,Staged:=false,Data:= [],Locs:= []}:aB)]:List aB)) lK rfl rfl rfl rfl) ?_))))))))))
 obtain⟨y2,Y3,m⟩:=aC m
 refine zE 10 rfl ?_
 have ho0:=lX (A:= [bF ag1 q0]) (R:= [(some k228,.obj 44 (aI x0)),(some k2,.obj 62 (aD p1)),OC p0K (IntKind.wrap .i64 (p0.Seq+1)) ag0 ag1 gE gV,bN ag0 z0,cK gE p0.Exps,aT gV p0.Vols]) u [[_], [_], [_], [_], [_], [_], [_]] rfl [4] [0,1,2,3,5,6] rfl rfl rfl
 refine dO ho0.1 (cR (aEN cL _ O1 ho0.2.2 Y3) rfl ZB rfl ?_)
 rintro x h' ⟨ag2,O2,K7,rfl,rfl⟩
 have K8:=lY (L':= [(some k228,.obj 44 (aI x0)),(some k2,.obj 62 (aD p1)),(hO p0K (IntKind.wrap .i64 (p0.Seq+1)) ag0 ag1 gE gV),bN ag0 z0,bF ag2 y2,cK gE p0.Exps,aT gV p0.Vols]) ho0.2.1 K7 [[_]] [[_], [_], [_], [_], [_], [_]] rfl rfl [1,2,3,4,0,5,6] rfl rfl
 refine nC K8.1 (⟨⟨λ_=>aK 2 K8.2 rfl,λ_=>aK 0 K8.2 rfl,trivial⟩, ?_⟩)
 refine zN 11 rfl rfl (zF 12 rfl eG rfl (zE 13 rfl (aJ 2 ([nZ (IntKind.wrap .i64 (p0.Seq+1)),aZ ag0,aZ ag2,aZ gE,aZ gV]) K8.2 rfl rfl (cG rfl) (cE (bZ _ _ _) rfl) CC rfl rfl λK9=>⟨⟨λe=>absurd e (by decide),λ_=>aK 0 K9 rfl,trivial⟩, ?_⟩)))
 exact zX (qk (f:=S0 96 _ _ _ _ _ _ _ _ _ _ _ _ _ _) K9 rfl (fB m ag2 O2 (lx (.k6 .nil))))
 exact v0 (fB m ag1 O1 (lx (.k6 .nil)))
 rintro ag3 j1 O3 m
 refine v0 (vz [(1000000,some p0K,.obj 30 ([nZ (IntKind.wrap .i64 (p0.Seq+1)),aZ ag0,aZ ag3,aZ gE,aZ gV])),(1000000,some k228,.obj 44 (aI x0))] mixed (λu=>⟨λ_=>aK 2 u rfl,λ_=>aK 0 u rfl,trivial⟩) λu=>zP 0 rfl rfl (zN 1 rfl rfl (zF 2 rfl eG rfl (zL 3 0 (aZ ag3) rfl eO rfl rfl rfl (zI 4 rfl rfl (zP 5 rfl rfl (zN 6 rfl rfl (zF 7 rfl eG rfl (zL 8 0 (aZ ag3) rfl eO rfl rfl rfl (zI 9 rfl rfl (zF 10 rfl jP rfl (zL 11 1 (.sl none 1 (List.map cW x0.Data)) rfl lL rfl rfl rfl ?_))))))))))))
 obtain⟨y3,Y4,m⟩:=aC m
 refine zE 12 rfl (cR (W96 _ Y4) rfl PR rfl ?_)
 rintro x h' ⟨tg0,t0,K10,rfl,rfl⟩
 rw[iO]
 refine⟨⟨λ_=>aK 3 (bQ.co u K10) rfl,λ_=>aK 1 (bQ.co u K10) rfl,trivial⟩, ?_⟩
 obtain⟨x1,X0,m⟩:=aC m
 refine zC 13 rfl (dJ X0 fH O3 rfl rfl) (zC 14 rfl (cZ (bM.ne O3 X0) oJ rfl rfl) (zE 15 rfl (dA (fo:=32) ({ x1 with Staged:=true}:aB) 5 (bQ.co u K10) X0 cL O3 rfl rfl rfl rfl (cU.refl _ _) VP rfl rfl λK11=>⟨⟨λ_=>aK 3 K11 rfl,λ_=>aK 1 K11 rfl,trivial⟩, ?_⟩)))
 obtain⟨x2,X1,m⟩:=aC m
 refine zC 16 rfl (dJ X1 fH (bM.set O3) rfl rfl) (zC 17 rfl (cZ (bM.ne (bM.set O3) X1) jP rfl rfl) (zE 18 rfl (xU (s:=109) (.sl none 1 (List.map cW y3)) (aW (.cons _ (.refl _)) K11).1 (Fz.ale (aW (.cons _ (.refl _)) K11).1 (mW _ 0 t0 K11 rfl (.refl _))) (dA (fo:=33) ({ x2 with Data:=y3}:aB) 4 ((aW (.cons _ (.refl _)) K11).2) X1 cL (bM.set O3) rfl rfl rfl rfl (cU.refl _ _) CE rfl rfl λK12=>⟨⟨λ_=>aK 2 K12 rfl,λ_=>aK 0 K12 rfl,trivial⟩, ?_⟩))))
 exact zX (qk (f:=B6 113 _ _ _ _ _ _ _ _ _ _ _ _ _ _ _ _ _ _) K12 rfl (v0 (fB m ag3 (bM.set (bM.set O3)) (nD [1,2,3,4,5,6] rfl rfl (.k4 .nil)))))
 exact v0 (mL m ag1 O1 (lx (.k4 .nil)))
 rintro ag4 ⟨r0,r1⟩ t1 m
 refine vs (v0 (v0 ?_))
 cases m
 exact vr λu=>dZ.of1 (.inl rfl) (f0 _ _ (.sc (.int _ _)) rfl) (bJ u [1,2,3,4,5] rfl).2 (bB.refl _ _) ⟨ag0,O0,ag4,t1,(bJ u [1,2,3,4,5] rfl).1,rfl,rfl⟩
theorem aEV:aP Tryz.prog 72=true:=by kernel_rfl
end Go.Proofs.YtbbifdfldpfphaaGreat
