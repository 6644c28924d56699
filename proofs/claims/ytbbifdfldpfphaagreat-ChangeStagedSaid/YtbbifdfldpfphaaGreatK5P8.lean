import Derived.Test.YtbbifdfldpfphaaGreatK5P4
import Derived.Test.YtbbifdfldpfphaaGreatK5P5
set_option linter.unusedSimpArgs false
set_option linter.unusedVariables false
set_option maxHeartbeats 4000000
set_option maxRecDepth 100000
namespace Go.Proofs.YtbbifdfldpfphaaGreat
open Go.Vm
def qD (m:Nat) (p0:List aB) (q0:List aB) (q1:Int):Option (Lp ((List aB)×Int) ((List aB))):=
 if (decide (q1 < (p0.length:Int)))=true then ((ix p0 q1).bind λx0=>(vM m x0.Data).bind λy0=>(wR m x0.Locs).bind λy1=>(app q0 ([{ { x0 with Data:=y0} with Locs:=y1}]:List aB)).bind λz0=>some (.go (z0,IntKind.wrap .i64 (q1+1)))) else some (.brk (q0,q1))
def BG (m:Nat) (p0:List aB):Option ((List aB)):=
 after (aU (λs=>qD m p0 s.1 s.2) m ([],0)) λ⟨r0,r1⟩=>some r0
theorem SD {w:Nat} {p0:List aB} {o:(List aB)} (h:aE) (m:BG w p0=some o):
 aL Tryz.prog 152 [.sl none 35 (List.map aI p0)] h (λr h'=>∃g:cT,bI g 35 o.length∧bT h [(g.t,.obj 44 (fl aI o g.sp))]∧r=aZ g∧h'=hp h [(g.t,.obj 44 (fl aI o g.sp))]):=by
 refine f8 29 [.tmp 2] Tryz.func152 rfl rfl rfl rfl ?_
 unfold BG at m
 refine vs (v0 (vs (v0 (vs (vs (v0 (qK (FL (.obj 44 (fl aI ([]:List aB) g0.sp)) 3 (aZ g0) (f9 _)) (nR m (σ:=(List aB)×Int) (τ:=cT) (λg s=> [(cE g s.1)]) (λg s=>bI g 35 (s.1:List aB).length) (λg s=>.c 0 (.sl none 35 (List.map aI p0)) (.c 3 (aZ g) (.c 4 (nZ s.2) .nil))) g0 (bI.g0 35) (lx (.k3 .nil)) ?_ ?_))))))))
 rintro ag0 ⟨q0,q1⟩ x O0 m
 replace m:qD w p0 q0 q1=some x:=m
 unfold qD at m
 refine vs (vs (v0 (dE iG rfl (v0 ?_))))
 apply vi m <;> intro c0 m
 refine v0 (vs (v0 (vs (v0 (vx m fH rfl rfl λx0 _ m=>va (.agg (aI x0)) kQ rfl rfl (ve λu=>bJ (bL jW++(FN:List AV)) u l6 rfl rfl λk115 K0=>qk K0 rfl (ve λu=>aK 0 (aI x0) u rfl rfl rfl rfl rI rfl rfl λK1=>qk K1 rfl (vs (v0 (vz [(7,some k115,.obj 44 (aI x0))] mixed (λu=>⟨λ_=>aJ 0 u rfl,trivial⟩) λu=>zF 0 rfl jS rfl (zL 1 0 (.sl none 1 (List.map dF x0.Data)) rfl kA rfl rfl rfl ?_)))))))))))
 obtain⟨y0,Y0,m⟩:=aC m
 refine zC 2 rfl (bY (MS _ Y0) rfl EU rfl) (zF 3 rfl iV rfl (zL 4 0 (.sl none 4 (List.map aN x0.Locs)) rfl eL rfl rfl rfl ?_))
 obtain⟨y1,Y1,m⟩:=aC m
 refine zC 5 rfl (bY (MR _ Y1) rfl ET rfl) (zF 6 rfl jS rfl (zE 7 rfl (aK 0 (aI { x0 with Data:=y0}) u rfl rfl rfl rfl CJ rfl rfl λK2=>⟨⟨λe=>absurd e (by decide),trivial⟩, ?_⟩)))
 refine zF 8 rfl iV rfl (zE 9 rfl (aK 0 (aI { { x0 with Data:=y0} with Locs:=y1}) K2 rfl rfl rfl rfl n5 rfl rfl λK3=>⟨⟨λe=>absurd e (by decide),trivial⟩, ?_⟩))
 refine zX (qk (f:=S4 23 _ _ _ _ _ _ _ _ _) K3 rfl (v0 (vl 0 (.agg (aI { { x0 with Data:=y0} with Locs:=y1})) kQ rfl rfl rfl (bU (eK (List.map aI ([{ { x0 with Data:=y0} with Locs:=y1}]:List aB)) lR rfl rfl rfl rfl) ?_))))
 obtain⟨z0,Z0,m⟩:=aC m
 exact ve λu=>gD (c:=aI) 1 Z0 lR rfl l6 rfl cO rfl rfl O0 u rfl λag1 O1 K4=>qk K4 rfl (v0 (eW m ag1 O1 (lW [1] rfl rfl (.k3 .nil))))
 exact v0 (lM m ag0 O0 (lx (.k3 .nil)))
 rintro ag2 ⟨r0,r1⟩ t0 m
 refine vs (v0 (v0 ?_))
 obtain rfl:=eT m
 exact vr λu=>dW.one (.inl rfl) (aT (h0:=h) (L':= [(cE ag2 r0)]) (.refl _) u).1 (bF.refl _ _) ⟨ag2,t0,(aT (h0:=h) (L':= [(cE ag2 r0)]) (.refl _) u).2,rfl,rfl⟩
def C1 (m:Nat) (p0:aA) (q0:List aH) (q1:Int):Option (Lp ((List aH)×Int) (aA)):=
 if (decide (q1 < (p0.Snaps.length:Int)))=true then ((ix p0.Snaps q1).bind λx0=>(GZ m x0.Man).bind λy0=>(wR m x0.Locs).bind λy1=>(app q0 ([{ { x0 with Man:=y0} with Locs:=y1}]:List aH)).bind λz0=>some (.go (z0,IntKind.wrap .i64 (q1+1)))) else some (.brk (q0,q1))
def C2 (m:Nat) (p0:aA) (q0:List aQ) (q1:Int):Option (Lp ((List aQ)×Int) (aA)):=
 if (decide (q1 < (p0.Exps.length:Int)))=true then ((ix p0.Exps q1).bind λx0=>(wR m x0.Locs).bind λy0=>(app q0 ([{ x0 with Locs:=y0}]:List aQ)).bind λz0=>some (.go (z0,IntKind.wrap .i64 (q1+1)))) else some (.brk (q0,q1))
def QR (m:Nat) (p0:aA):Option (aA):=
 after (aU (λs=>C1 m p0 s.1 s.2) m ([],0)) λ⟨r0,r1⟩=>after (aU (λs=>C2 m p0 s.1 s.2) m ([],0)) λ⟨r2,r3⟩=>(BG m p0.Chunks).bind λy0=>(app ([]:List aP) p0.Vols).bind λz0=>some ({ Seq:=p0.Seq,Snaps:=r0,Chunks:=y0,Exps:=r2,Vols:=z0}:aA)
theorem aFZ {w:Nat} {p0:aA} {o:aA} (h:aE) (m:QR w p0=some o):
 aL Tryz.prog 90 [.agg (aF p0)] h (λr h'=>∃gS:cT,bI gS 4 o.Snaps.length∧∃gC:cT,bI gC 35 o.Chunks.length∧∃gE:cT,bI gE 3 o.Exps.length∧∃gV:cT,bI gV 4 o.Vols.length∧bT h [(dO gS o.Snaps),(cE gC o.Chunks),(fA gE o.Exps),(lG gV o.Vols)]∧r= .agg ([nZ o.Seq,aZ gS,aZ gC,aZ gE,aZ gV])∧h'=hp h [(dO gS o.Snaps),(cE gC o.Chunks),(fA gE o.Exps),(lG gV o.Vols)]):=by
 refine f8 68 [.cell 2 30] Tryz.func90 rfl rfl rfl rfl ?_
 unfold QR at m
 refine vs (v0 (gY rfl rfl λk2 K3=>ve λu=>bJ (hH) u pX rfl rfl λk5 K6=>qk K6 rfl (vs (v0 (vs (vs (v0 (qK (FL (.obj 60 (fl bS ([]:List aH) g0.sp)) 3 (aZ g0) (f9 _)) (nR m (σ:=(List aH)×Int) (τ:=cT) (λg s=> [(dO g s.1),(some k5,.obj 30 (hH)),(some k2,.obj 30 (aF p0))]) (λg s=>bI g 4 (s.1:List aH).length) (λg s=>.c 1 (.ptr k2 0) (.c 2 (.ptr k5 0) (.c 3 (aZ g) (.c 4 (nZ s.2) .nil)))) g0 (bI.g0 4) (lx (.k4 .nil)) ?_ ?_)))))))))
 rintro ag0 ⟨q0,q1⟩ x O0 m
 replace m:C1 w p0 q0 q1=some x:=m
 unfold C1 at m
 refine vs (vs (v0 (dN dV rfl rfl (vl 2 _ fM rfl rfl rfl (dE jZ rfl (v0 ?_))))))
 apply vi m <;> intro c0 m
 refine v0 (vs (v0 (vs (v0 (dN dV rfl rfl (vl 2 _ fM rfl rfl rfl (vx m iU rfl rfl λx0 _ m=>va (.agg (bS x0)) uY rfl rfl (ve λu=>bJ (WB) u u0 rfl rfl λk121 K0=>qk K0 rfl (ve λu=>aK 0 (bS x0) u rfl rfl rfl rfl JT rfl rfl λK1=>qk K1 rfl (vs (v0 (vz [(7,some k121,.obj 60 (bS x0))] mixed (λu=>⟨λ_=>aJ 0 u rfl,trivial⟩) λu=>zF 0 rfl oQ rfl (zL 1 0 (.agg (bK x0.Man)) rfl nU rfl rfl rfl ?_)))))))))))))
 obtain⟨y0,Y0,m⟩:=aC m
 refine zC 2 rfl (bY (YQ _ Y0) rfl R4 rfl) (zF 3 rfl jT rfl (zL 4 0 (.sl none 4 (List.map aN x0.Locs)) rfl eL rfl rfl rfl ?_))
 obtain⟨y1,Y1,m⟩:=aC m
 refine zC 5 rfl (bY (MR _ Y1) rfl ET rfl) (zF 6 rfl oQ rfl (zE 7 rfl (aK 0 (bS { x0 with Man:=y0}) u rfl rfl rfl rfl zZ rfl rfl λK2=>⟨⟨λe=>absurd e (by decide),trivial⟩, ?_⟩)))
 refine zF 8 rfl jT rfl (zE 9 rfl (aK 0 (bS { { x0 with Man:=y0} with Locs:=y1}) K2 rfl rfl rfl rfl n5 rfl rfl λK4=>⟨⟨λe=>absurd e (by decide),trivial⟩, ?_⟩))
 refine zX (qk (f:=S4 29 _ _ _ _ _ _ _ _ _) K4 rfl (v0 (vl 0 (.agg (bS { { x0 with Man:=y0} with Locs:=y1})) uY rfl rfl rfl (bU (eK (List.map bS ([{ { x0 with Man:=y0} with Locs:=y1}]:List aH)) wN rfl rfl rfl rfl) ?_))))
 obtain⟨z0,Z0,m⟩:=aC m
 exact ve λu=>gD (c:=bS) 1 Z0 wN rfl u0 rfl eI rfl rfl O0 u rfl λag1 O1 K5=>qk K5 rfl (v0 (eW m ag1 O1 (lW [1,2,3] rfl rfl (.k4 .nil))))
 exact v0 (lM m ag0 O0 (lx (.k4 .nil)))
 rintro ag2 ⟨r0,r1⟩ t0 m
 refine vs (v0 (vs (vs (v0 (qK (FL (.obj 99 (fl cP ([]:List aQ) g0.sp)) 6 (aZ g0) (f9 _)) (nR m (σ:=(List aQ)×Int) (τ:=cT) (λg s=> [(fA g s.1),(dO ag2 r0),(some k5,.obj 30 (hH)),(some k2,.obj 30 (aF p0))]) (λg s=>bI g 3 (s.1:List aQ).length) (λg s=>.c 1 (.ptr k2 0) (.c 2 (.ptr k5 0) (.c 3 (aZ ag2) (.c 6 (aZ g) (.c 7 (nZ s.2) .nil))))) g0 (bI.g0 3) (lx (.k5 .nil)) ?_ ?_))))))
 rintro ag3 ⟨q2,q3⟩ x O2 m
 replace m:C2 w p0 q2 q3=some x:=m
 unfold C2 at m
 refine vs (vs (v0 (dN e8 rfl rfl (vl 3 _ jG rfl rfl rfl (dE pW rfl (v0 ?_))))))
 apply vi m <;> intro c1 m
 refine v0 (vs (v0 (vs (v0 (dN e8 rfl rfl (vl 3 _ jG rfl rfl rfl (vx m iM rfl rfl λx1 _ m=>va (.agg (cP x1)) u7 rfl rfl (ve λu=>bJ ([nZ 0,nZ 0,sZ]) u rL rfl rfl λk235 K7=>qk K7 rfl (ve λu=>aK 0 (cP x1) u rfl rfl rfl rfl GQ rfl rfl λK8=>qk K8 rfl (vs (v0 (dN lF rfl rfl (vl 0 _ eL rfl rfl rfl (vk MR ET m rfl rfl λy2 m=>dN lF rfl rfl (ve λu=>aK 0 (cP { x1 with Locs:=y2}) u rfl rfl rfl rfl n5 rfl rfl λK9=>qk K9 rfl (v0 (vl 0 (.agg (cP { x1 with Locs:=y2})) u7 rfl rfl rfl (bU (eK (List.map cP ([{ x1 with Locs:=y2}]:List aQ)) pH rfl rfl rfl rfl) ?_))))))))))))))))))
 obtain⟨z1,Z1,m⟩:=aC m
 exact ve λu=>gD (c:=cP) 1 Z1 pH rfl rL rfl fL rfl rfl O2 u rfl λag4 O3 K10=>qk K10 rfl (v0 (eW m ag4 O3 (lW [1,2,3,4] rfl rfl (.k5 .nil))))
 exact v0 (lM m ag3 O2 (lx (.k5 .nil)))
 rintro ag5 ⟨r2,r3⟩ t1 m
 refine vs (v0 (vs (v0 (vz [(10,some k2,.obj 30 (aF p0))] mixed (λu=>⟨λ_=>aJ 3 u rfl,trivial⟩) λu=>zC 0 rfl (eY (aw _ _ _) rfl) (zF 1 rfl dR rfl (zL 2 0 (.sl none 35 (List.map aI p0.Chunks)) rfl eJ rfl rfl rfl (zC 4 rfl (eY (aw _ _ _) rfl) (zC 5 rfl (eY (.sc (.slice _ _ _)) rfl) (zF 6 rfl fQ rfl (zL 7 0 (.sl none 4 (List.map dC p0.Vols)) rfl gH rfl rfl rfl (zF 9 rfl dV rfl ?_)))))))))))
 obtain⟨_,Y2,m⟩:=aC m
 refine zE 3 rfl (cK (SD _ Y2) rfl MT rfl ?_)
 rintro x h' ⟨ag6,O4,K11,rfl,rfl⟩
 rw[iS]
 refine⟨⟨λ_=>aJ 4 (bT.co u K11) rfl,trivial⟩, ?_⟩
 obtain⟨z2,Z2,m⟩:=aC m
 refine zE 8 rfl (B5 (c:=dC) Z2 GJ rfl PW rfl dY rfl (bT.co u K11) rfl λag7 O5 K12=>⟨⟨λ_=>aJ 5 K12 rfl,trivial⟩, ?_⟩)
 refine zE 10 rfl (aK 5 ([nZ p0.Seq,aZ ag2,.sl none 35 (List.map aI p0.Chunks),.sl none 3 (List.map cP p0.Exps),.sl none 4 (List.map dC p0.Vols)]) K12 rfl rfl (bZ rfl) (cD (bW _ _ _) rfl) GI rfl rfl λK13=>⟨⟨λe=>absurd e (by decide),trivial⟩, ?_⟩)
 refine zF 11 rfl dR rfl (zE 12 rfl (aK 5 ([nZ p0.Seq,aZ ag2,aZ ag6,.sl none 3 (List.map cP p0.Exps),.sl none 4 (List.map dC p0.Vols)]) K13 rfl rfl (bZ rfl) (cD (bW _ _ _) rfl) zY rfl rfl λK14=>⟨⟨λe=>absurd e (by decide),trivial⟩, ?_⟩))
 refine zF 13 rfl e8 rfl (zE 14 rfl (aK 5 ([nZ p0.Seq,aZ ag2,aZ ag6,aZ ag5,.sl none 4 (List.map dC p0.Vols)]) K14 rfl rfl (bZ rfl) (cD (bW _ _ _) rfl) JP rfl rfl λK15=>⟨⟨λe=>absurd e (by decide),trivial⟩, ?_⟩))
 refine zF 15 rfl fQ rfl (zE 16 rfl (aK 5 ([nZ p0.Seq,aZ ag2,aZ ag6,aZ ag5,aZ ag7]) K15 rfl rfl (bZ rfl) (cD (bW _ _ _) rfl) PU rfl rfl λK16=>⟨⟨λe=>absurd e (by decide),trivial⟩, ?_⟩))
 refine zX (qk (f:=.c 66 _ (.c 65 _ (.c 64 _ (.c 62 _ (.c 57 _ (.c 63 _ (PN 61 _ _ _ _ (.c 56 _ (.c 55 _ (.c 54 _ _)))))))))) K16 rfl (vs (v0 (vl 5 (.agg ([nZ p0.Seq,aZ ag2,aZ ag6,aZ ag5,aZ ag7])) fC rfl rfl rfl (ve λu=>aK 4 ([nZ p0.Seq,aZ ag2,aZ ag6,aZ ag5,aZ ag7]) u rfl rfl rfl (by repeat (first | exact rfl | refine cD (iL _ _ _) ?_ | refine cD (bW _ _ _) ?_ | refine cD (gJ _ _ _ _) ?_ | refine cD rfl ?_)) lZ rfl rfl λK17=>qk K17 rfl ?_)))))
 refine v0 ?_
 cases m
 exact vr λu=>dW.of1 (.inl rfl) (qW (.agg ([nZ p0.Seq,aZ ag2,aZ ag6,aZ ag5,aZ ag7])) fC rfl (bB 4 u rfl) rfl) (bE u [3,1,2,0] rfl).2 (bF.refl _ _) ⟨ag2,t0,ag6,O4,ag5,t1,ag7,O5,(bE u [3,1,2,0] rfl).1,rfl,rfl⟩
def QS (m:Nat) (p0:a8) (p1:a8):Option (Bool):=
 if (p0.Vol !=p1.Vol)=true then (some (decide (p0.Vol < p1.Vol))) else if (p0.File !=p1.File)=true then (some (decide (p0.File < p1.File))) else if (p0.Off !=p1.Off)=true then (some (decide (p0.Off < p1.Off))) else some (decide (p0.Len < p1.Len))
theorem aF0 {u:Nat} {p0:a8} {p1:a8} {o:Bool} (h:aE) (m:QS u p0 p1=some o):
 aL Tryz.prog 191 [.agg (aN p0),.agg (aN p1)] h (λr h'=>r= .sc (.bool o)∧h'=h):=by
 refine f8 40 [.tmp 4] Tryz.func191 rfl rfl rfl rfl ?_
 unfold QS at m
 refine v (gY rfl rfl λk2 K3=>gY rfl rfl λk5 K6=>v (vl 1 _ cF rfl rfl rfl (vl 0 _ cF rfl rfl rfl (v ?_))))
 apply vi m <;> intro c0 m
 refine v (vl 1 _ cF rfl rfl rfl (vl 0 _ cF rfl rfl rfl (v ?_)))
 cases m
 exact eD rfl
 refine v (v (vl 1 _ cF rfl rfl rfl (vl 0 _ cF rfl rfl rfl (v ?_))))
 apply vi m <;> intro c1 m
 refine v (vl 1 _ cF rfl rfl rfl (vl 0 _ cF rfl rfl rfl (v ?_)))
 cases m
 exact eD rfl
 refine v (v (vl 1 _ cF rfl rfl rfl (vl 0 _ cF rfl rfl rfl (v ?_))))
 apply vi m <;> intro c2 m
 refine v (vl 1 _ cF rfl rfl rfl (vl 0 _ cF rfl rfl rfl (v ?_)))
 cases m
 exact eD rfl
 refine v (v (vl 1 _ cF rfl rfl rfl (vl 0 _ cF rfl rfl rfl (v ?_))))
 cases m
 exact eD rfl
theorem aAS:aO Tryz.prog 191=true:=by kernel_rfl
def tP (m:Nat) (p0:List a8) (p1:a8) (q0:Int):Option (Lp (Int) ((List a8))):=
 after (if (decide (q0 < (p0.length:Int)))=true then ((ix p0 q0).bind λx0=>(QS m x0 p1).bind λy0=>some (.brk y0)) else some (.brk false):Option (Lp (Bool) (Lp (Int) ((List a8))))) λj0=>if j0=true then (some (.go (IntKind.wrap .i64 (q0+1)))) else some (.brk q0)
def HH (m:Nat) (p0:List a8) (p1:a8):Option ((List a8)):=
 after (aU (λs=>tP m p0 p1 s) m 0) λr0=>(slc p0 0 r0).bind λx0=>(app ([]:List a8) x0).bind λz0=>(app z0 ([p1]:List a8)).bind λz1=>(slc p0 r0 (p0).length).bind λx1=>(app z1 x1).bind λz2=>some z2
theorem UZ {w:Nat} {p0:List a8} {p1:a8} {o:(List a8)} (h:aE) (m:HH w p0 p1=some o):
 aL Tryz.prog 185 [.sl none 4 (List.map aN p0),.agg (aN p1)] h (λr h'=>r= .sl none 4 (List.map aN o)∧h'=h):=by
 refine f8 34 [.tmp 4] Tryz.func185 rfl rfl rfl rfl ?_
 unfold HH at m
 refine v (gY rfl rfl λk2 K3=>v (vs (jY m (σ:=Int) (λs=> [(some k2,.obj 81 (aN p1))]) (λs=>.c 0 (.sl none 4 (List.map aN p0)) (.c 3 (.ptr k2 0) (.c 5 (nZ s) .nil))) (lx (.k3 .nil)) ?_ ?_)))
 rintro _ q0 x m
 replace m:tP w p0 p1 q0=some x:=m
 unfold tP at m
 refine vs (vs (fN m (σ:=Bool) (λs=> [(some k2,.obj 81 (aN p1))]) (λs=>.c 0 (.sl none 4 (List.map aN p0)) (.c 3 (.ptr k2 0) (.c 5 (nZ q0) (.c 18 (.sc (.bool s)) .nil)))) (λx m=> ?_) ?_))
 refine v (vq (by kernel_rfl) (dE gO rfl ?_))
 apply vi m <;> intro b0 m
 rw[b0]
 exact vx m jR rfl rfl λx0 _ m=>va (.agg (aN x0)) l8 rfl rfl (vl 0 (.agg (aN p1)) l8 rfl rfl rfl (vk aF0 aAS m rfl rfl λ_ m=>iE m))
 rw[b0]
 exact iE m
 rintro _ j0 m
 refine v ?_
 apply vi m <;> intro c0 m
 exact v (v (v (gU m)))
 exact v (EE m)
 rintro _ r0 m
 refine v (v (vz [(1000000,some k2,.obj 81 (aN p1))] mixed (λu=>⟨λ_=>aJ 0 u rfl,trivial⟩) λu=>zC 0 rfl (eY (.sc (.slice _ _ _)) rfl) (zC 1 rfl (eY (.sl _ _ _) rfl) (zI 2 rfl rfl ?_))))
 obtain⟨_,X0,m⟩:=aC m
 refine zC 3 rfl (pS X0 jR rfl rfl rfl rfl) (zL 5 0 (.agg (aN p1)) rfl l8 rfl rfl rfl (zC 6 rfl (eK (List.map aN ([p1]:List a8)) pJ rfl rfl rfl rfl) ?_))
 obtain⟨z0,Z0,m⟩:=aC m
 refine zE 4 rfl (oN (c:=aN) Z0 pJ rfl rfl u nofun rfl λtg0 t0 K0=>⟨⟨λ_=>aJ 1 K0 rfl,trivial⟩, ?_⟩)
 obtain⟨z1,Z1,m⟩:=aC m
 refine zE 7 rfl (fF (c:=aN) 0 Z1 pJ rfl rfl rfl t0 K0 rfl λtg1 t1 K1=>⟨⟨λ_=>aJ 1 K1 rfl,trivial⟩, ?_⟩)
 refine zC 8 rfl (iC (ow _ _ _) rfl) (zX (qk (f:=.c 6 _ (.c 28 _ (.c 25 _ (.c 27 _ (.c 26 _ (PN 24 _ _ _ _ _)))))) K1 rfl (v ?_)))
 obtain⟨_,X1,m⟩:=aC m
 refine bU (pS X1 jR rfl rfl rfl rfl) ?_
 obtain⟨z2,Z2,m⟩:=aC m
 refine ve λu=>fF (c:=aN) 0 Z2 pJ rfl rfl rfl t1 u rfl λtg2 t2 K2=>qk K2 rfl (v ?_)
 obtain rfl:=eT m
 exact vr λu=>dW.of1 (.inl rfl) (fT _ _ (ow _ _ _) rfl) (aT (List.nil_sublist _) u).1 ((eZ _ 0 t2 u rfl)) ⟨rfl,rfl⟩
theorem NL:aO Tryz.prog 185=true:=by kernel_rfl
def tQ (m:Nat) (p0:List a8) (p1:Int) (q0:List a8) (q1:Int):Option (Lp ((List a8)×Int) ((List a8))):=
 if (decide (q1 < (p0.length:Int)))=true then ((ix p0 q1).bind λx0=>after (if (x0.Vol !=p1)=true then ((ix p0 q1).bind λx1=>(app q0 ([x1]:List a8)).bind λz0=>some (.brk z0)) else some (.brk q0):Option (Lp ((List a8)) (Lp ((List a8)×Int) ((List a8))))) λj0=>some (.go (j0,IntKind.wrap .i64 (q1+1)))) else some (.brk (q0,q1))
def HI (m:Nat) (p0:List a8) (p1:Int):Option ((List a8)):=
 after (aU (λs=>tQ m p0 p1 s.1 s.2) m ([],0)) λ⟨r0,r1⟩=>some r0
theorem U0 {w:Nat} {p0:List a8} {p1:Int} {o:(List a8)} (h:aE) (m:HI w p0 p1=some o):
 aL Tryz.prog 157 [.sl none 4 (List.map aN p0),nZ p1] h (λr h'=>r= .sl none 4 (List.map aN o)∧h'=h):=by
 refine f8 28 [.tmp 4] Tryz.func157 rfl rfl rfl rfl ?_
 unfold HI at m
 refine v (v (v (qK (FL (.tok 81 4 (([]:List a8).length*4)) 5 (ow none 4 (List.map aN [])) (jD _ _)) (nR m (σ:=(List a8)×Int) (τ:=Option cB) (λg s=> [(g,.tok 81 4 ((s.1:List a8).length*4))]) (λg s=>(g=none→s.1= [])) (λg s=>.c 0 (.sl none 4 (List.map aN p0)) (.c 1 (nZ p1) (.c 5 (ow g 4 (List.map aN s.1)) (.c 6 (nZ s.2) .nil)))) none (λ_=>rfl) (lx (.k4 .nil)) ?_ ?_))))
 rintro tg0 ⟨q0,q1⟩ x t0 m
 replace m:tQ w p0 p1 q0 q1=some x:=m
 unfold tQ at m
 refine v (dE gO rfl (v ?_))
 apply vi m <;> intro c0 m
 refine v (v (v (vx m jR rfl rfl λ_ _ m=>pO m (σ:=(List a8)) (τ:=Option cB) (λg s=> [(g,.tok 81 4 ((s:List a8).length*4))]) (λg s=>(g=none→s= [])) (λg s=>.c 0 (.sl none 4 (List.map aN p0)) (.c 1 (nZ p1) (.c 5 (ow g 4 (List.map aN s)) (.c 6 (nZ q1) .nil)))) (λx m=> ?_) ?_)))
 refine v ?_
 apply vi m <;> intro c1 m
 refine v (vx m jR rfl rfl λx0 _ m=>va (.agg (aN x0)) l8 rfl rfl (bU (eK (List.map aN ([x0]:List a8)) pJ rfl rfl rfl rfl) ?_))
 obtain⟨z0,Z0,m⟩:=aC m
 exact ve λu=>fF (c:=aN) 0 Z0 pJ rfl rfl rfl t0 u rfl λtg1 t1 K0=>qk K0 rfl (eW m tg1 t1 (lx (.k4 .nil)))
 exact v (eW m tg0 t0 (lx (.k4 .nil)))
 rintro tg2 j0 t2 m
 exact v (eW m tg2 t2 (lx (.k4 .nil)))
 exact v (lM m tg0 t0 (lx (.k4 .nil)))
 rintro tg3 ⟨r0,r1⟩ t3 m
 refine v (v ?_)
 obtain rfl:=eT m
 exact vr λu=>dW.of1 (.inl rfl) (fT _ _ (ow _ _ _) rfl) (aT (List.nil_sublist _) u).1 ((eZ _ 0 t3 u rfl)) ⟨rfl,rfl⟩
theorem NM:aO Tryz.prog 157=true:=by kernel_rfl
def M92 (m:Nat) (p0:aR):Option (aR):=
 (GZ m p0.Snap.Man).bind λy0=>(wR m p0.Snap.Locs).bind λy1=>(J1 m ({ { p0 with Snap:= { p0.Snap with Man:=y0}} with Snap:= { { p0 with Snap:= { p0.Snap with Man:=y0}}.Snap with Locs:=y1}}.Chunks)).bind λy2=>(app ([]:List aS) ({ { p0 with Snap:= { p0.Snap with Man:=y0}} with Snap:= { { p0 with Snap:= { p0.Snap with Man:=y0}}.Snap with Locs:=y1}}.Items)).bind λz0=>some ({ Kind:= { { { p0 with Snap:= { p0.Snap with Man:=y0}} with Snap:= { { p0 with Snap:= { p0.Snap with Man:=y0}}.Snap with Locs:=y1}} with Chunks:=y2}.Kind,Snap:=({ Seq:=({ { { p0 with Snap:= { p0.Snap with Man:=y0}} with Snap:= { { p0 with Snap:= { p0.Snap with Man:=y0}}.Snap with Locs:=y1}} with Chunks:=y2}.Snap).Seq,Man:=({ Name:=(({ { { p0 with Snap:= { p0.Snap with Man:=y0}} with Snap:= { { p0 with Snap:= { p0.Snap with Man:=y0}}.Snap with Locs:=y1}} with Chunks:=y2}.Snap).Man).Name,Parts:=(({ { { p0 with Snap:= { p0.Snap with Man:=y0}} with Snap:= { { p0 with Snap:= { p0.Snap with Man:=y0}}.Snap with Locs:=y1}} with Chunks:=y2}.Snap).Man).Parts}:bG),Locs:=({ { { p0 with Snap:= { p0.Snap with Man:=y0}} with Snap:= { { p0 with Snap:= { p0.Snap with Man:=y0}}.Snap with Locs:=y1}} with Chunks:=y2}.Snap).Locs}:aH),Chunks:= { { { p0 with Snap:= { p0.Snap with Man:=y0}} with Snap:= { { p0 with Snap:= { p0.Snap with Man:=y0}}.Snap with Locs:=y1}} with Chunks:=y2}.Chunks,Seq:= { { { p0 with Snap:= { p0.Snap with Man:=y0}} with Snap:= { { p0 with Snap:= { p0.Snap with Man:=y0}}.Snap with Locs:=y1}} with Chunks:=y2}.Seq,Vol:= { { { p0 with Snap:= { p0.Snap with Man:=y0}} with Snap:= { { p0 with Snap:= { p0.Snap with Man:=y0}}.Snap with Locs:=y1}} with Chunks:=y2}.Vol,Items:=z0}:aR)
theorem W92 {w:Nat} {p0:aR} {o:aR} (h:aE) (m:M92 w p0=some o):
 aL Tryz.prog 92 [.agg (aD p0)] h (λr h'=>r= .agg (aD o)∧h'=h):=by
 refine f8 26 [.cell 2 62] Tryz.func92 rfl rfl rfl rfl ?_
 unfold M92 at m
 refine v (gY rfl rfl λk2 K3=>ve λu=>bJ (xI) u LW rfl rfl λk5 K6=>qk K6 rfl (v (vz [(10,some k2,.obj 62 (aD p0))] mixed (λu=>⟨λ_=>aJ 1 u rfl,trivial⟩) λu=>zF 0 rfl lE rfl (zF 1 rfl oQ rfl (zL 2 0 (.agg (bK p0.Snap.Man)) rfl nU rfl rfl rfl ?_)))))
 obtain⟨y0,Y0,m⟩:=aC m
 refine zC 3 rfl (bY (YQ _ Y0) rfl R4 rfl) (zF 4 rfl lE rfl (zF 5 rfl jT rfl (zL 6 0 (.sl none 4 (List.map aN p0.Snap.Locs)) rfl eL rfl rfl rfl ?_)))
 obtain⟨y1,Y1,m⟩:=aC m
 refine zC 7 rfl (bY (MR _ Y1) rfl ET rfl) (zF 8 rfl lE rfl (zF 9 rfl oQ rfl (zE 10 rfl (aK 1 (aD { p0 with Snap:= { p0.Snap with Man:=y0}}) u rfl rfl rfl rfl zZ rfl rfl λK0=>⟨⟨λe=>absurd e (by decide),trivial⟩, ?_⟩))))
 refine zF 11 rfl lE rfl (zF 12 rfl jT rfl (zE 13 rfl (aK 1 (aD { { p0 with Snap:= { p0.Snap with Man:=y0}} with Snap:= { { p0 with Snap:= { p0.Snap with Man:=y0}}.Snap with Locs:=y1}}) K0 rfl rfl rfl rfl n5 rfl rfl λK1=>⟨⟨λe=>absurd e (by decide),trivial⟩, ?_⟩)))
 refine zX (qk (f:=GD 15 _ _ _ _ _ _ _ _ _ _ _ _ _) K1 rfl (v (v (vz [(8,some k2,.obj 62 (aD { { p0 with Snap:= { p0.Snap with Man:=y0}} with Snap:= { { p0 with Snap:= { p0.Snap with Man:=y0}}.Snap with Locs:=y1}}))] mixed (λu=>⟨λ_=>aJ 1 u rfl,trivial⟩) λu=>zF 0 rfl m6 rfl (zL 1 0 (.sl none 35 (List.map aI ({ { p0 with Snap:= { p0.Snap with Man:=y0}} with Snap:= { { p0 with Snap:= { p0.Snap with Man:=y0}}.Snap with Locs:=y1}}.Chunks))) rfl eJ rfl rfl rfl ?_)))))
 obtain⟨y2,Y2,m⟩:=aC m
 refine zC 2 rfl (bY (aEQ _ Y2) rfl MT rfl) (zC 3 rfl (eY (.sc (.slice _ _ _)) rfl) (zF 4 rfl gR rfl (zL 5 0 (.sl none 37 (List.map aY ({ { p0 with Snap:= { p0.Snap with Man:=y0}} with Snap:= { { p0 with Snap:= { p0.Snap with Man:=y0}}.Snap with Locs:=y1}}.Items))) rfl lC rfl rfl rfl (zF 7 rfl m6 rfl ?_))))
 obtain⟨z0,Z0,m⟩:=aC m
 refine zE 6 rfl (oN (c:=aY) Z0 LS rfl rfl u nofun rfl λtg0 t0 K2=>⟨⟨λ_=>aJ 2 K2 rfl,trivial⟩, ?_⟩)
 refine zE 8 rfl (aK 2 (aD { { { p0 with Snap:= { p0.Snap with Man:=y0}} with Snap:= { { p0 with Snap:= { p0.Snap with Man:=y0}}.Snap with Locs:=y1}} with Chunks:=y2}) K2 rfl rfl rfl rfl zY rfl rfl λK4=>⟨⟨λe=>absurd e (by decide),trivial⟩, ?_⟩)
 refine zF 9 rfl gR rfl (zE 10 rfl (aK 2 ([nZ ({ { { p0 with Snap:= { p0.Snap with Man:=y0}} with Snap:= { { p0 with Snap:= { p0.Snap with Man:=y0}}.Snap with Locs:=y1}} with Chunks:=y2}.Kind),nZ (({ { { p0 with Snap:= { p0.Snap with Man:=y0}} with Snap:= { { p0 with Snap:= { p0.Snap with Man:=y0}}.Snap with Locs:=y1}} with Chunks:=y2}.Snap).Seq),.sc (.string ((({ { { p0 with Snap:= { p0.Snap with Man:=y0}} with Snap:= { { p0 with Snap:= { p0.Snap with Man:=y0}}.Snap with Locs:=y1}} with Chunks:=y2}.Snap).Man).Name)),.sl none 3 (List.map bX ((({ { { p0 with Snap:= { p0.Snap with Man:=y0}} with Snap:= { { p0 with Snap:= { p0.Snap with Man:=y0}}.Snap with Locs:=y1}} with Chunks:=y2}.Snap).Man).Parts)),.sl none 4 (List.map aN (({ { { p0 with Snap:= { p0.Snap with Man:=y0}} with Snap:= { { p0 with Snap:= { p0.Snap with Man:=y0}}.Snap with Locs:=y1}} with Chunks:=y2}.Snap).Locs)),.sl none 35 (List.map aI ({ { { p0 with Snap:= { p0.Snap with Man:=y0}} with Snap:= { { p0 with Snap:= { p0.Snap with Man:=y0}}.Snap with Locs:=y1}} with Chunks:=y2}.Chunks)),nZ ({ { { p0 with Snap:= { p0.Snap with Man:=y0}} with Snap:= { { p0 with Snap:= { p0.Snap with Man:=y0}}.Snap with Locs:=y1}} with Chunks:=y2}.Seq),nZ ({ { { p0 with Snap:= { p0.Snap with Man:=y0}} with Snap:= { { p0 with Snap:= { p0.Snap with Man:=y0}}.Snap with Locs:=y1}} with Chunks:=y2}.Vol),ow tg0 37 (List.map aY z0)]) K4 rfl rfl (jE rfl) (pR _ _ _) aC7 rfl rfl λK5=>⟨⟨λe=>absurd e (by decide),trivial⟩, ?_⟩))
 refine zX (qk (f:=.c 24 _ (.c 22 _ (.c 23 _ (fq6 21 _ _ _ _ _ _ _)))) K5 rfl (v (vl 2 (.agg ([nZ ({ { { p0 with Snap:= { p0.Snap with Man:=y0}} with Snap:= { { p0 with Snap:= { p0.Snap with Man:=y0}}.Snap with Locs:=y1}} with Chunks:=y2}.Kind),nZ (({ { { p0 with Snap:= { p0.Snap with Man:=y0}} with Snap:= { { p0 with Snap:= { p0.Snap with Man:=y0}}.Snap with Locs:=y1}} with Chunks:=y2}.Snap).Seq),.sc (.string ((({ { { p0 with Snap:= { p0.Snap with Man:=y0}} with Snap:= { { p0 with Snap:= { p0.Snap with Man:=y0}}.Snap with Locs:=y1}} with Chunks:=y2}.Snap).Man).Name)),.sl none 3 (List.map bX ((({ { { p0 with Snap:= { p0.Snap with Man:=y0}} with Snap:= { { p0 with Snap:= { p0.Snap with Man:=y0}}.Snap with Locs:=y1}} with Chunks:=y2}.Snap).Man).Parts)),.sl none 4 (List.map aN (({ { { p0 with Snap:= { p0.Snap with Man:=y0}} with Snap:= { { p0 with Snap:= { p0.Snap with Man:=y0}}.Snap with Locs:=y1}} with Chunks:=y2}.Snap).Locs)),.sl none 35 (List.map aI ({ { { p0 with Snap:= { p0.Snap with Man:=y0}} with Snap:= { { p0 with Snap:= { p0.Snap with Man:=y0}}.Snap with Locs:=y1}} with Chunks:=y2}.Chunks)),nZ ({ { { p0 with Snap:= { p0.Snap with Man:=y0}} with Snap:= { { p0 with Snap:= { p0.Snap with Man:=y0}}.Snap with Locs:=y1}} with Chunks:=y2}.Seq),nZ ({ { { p0 with Snap:= { p0.Snap with Man:=y0}} with Snap:= { { p0 with Snap:= { p0.Snap with Man:=y0}}.Snap with Locs:=y1}} with Chunks:=y2}.Vol),ow tg0 37 (List.map aY z0)])) pK rfl rfl rfl ?_)))
 refine ve λu=>aK 1 ([nZ ({ { { p0 with Snap:= { p0.Snap with Man:=y0}} with Snap:= { { p0 with Snap:= { p0.Snap with Man:=y0}}.Snap with Locs:=y1}} with Chunks:=y2}.Kind),nZ (({ { { p0 with Snap:= { p0.Snap with Man:=y0}} with Snap:= { { p0 with Snap:= { p0.Snap with Man:=y0}}.Snap with Locs:=y1}} with Chunks:=y2}.Snap).Seq),.sc (.string ((({ { { p0 with Snap:= { p0.Snap with Man:=y0}} with Snap:= { { p0 with Snap:= { p0.Snap with Man:=y0}}.Snap with Locs:=y1}} with Chunks:=y2}.Snap).Man).Name)),.sl none 3 (List.map bX ((({ { { p0 with Snap:= { p0.Snap with Man:=y0}} with Snap:= { { p0 with Snap:= { p0.Snap with Man:=y0}}.Snap with Locs:=y1}} with Chunks:=y2}.Snap).Man).Parts)),.sl none 4 (List.map aN (({ { { p0 with Snap:= { p0.Snap with Man:=y0}} with Snap:= { { p0 with Snap:= { p0.Snap with Man:=y0}}.Snap with Locs:=y1}} with Chunks:=y2}.Snap).Locs)),.sl none 35 (List.map aI ({ { { p0 with Snap:= { p0.Snap with Man:=y0}} with Snap:= { { p0 with Snap:= { p0.Snap with Man:=y0}}.Snap with Locs:=y1}} with Chunks:=y2}.Chunks)),nZ ({ { { p0 with Snap:= { p0.Snap with Man:=y0}} with Snap:= { { p0 with Snap:= { p0.Snap with Man:=y0}}.Snap with Locs:=y1}} with Chunks:=y2}.Seq),nZ ({ { { p0 with Snap:= { p0.Snap with Man:=y0}} with Snap:= { { p0 with Snap:= { p0.Snap with Man:=y0}}.Snap with Locs:=y1}} with Chunks:=y2}.Vol),ow tg0 37 (List.map aY z0)]) u rfl rfl rfl (by repeat (first | exact rfl | refine cD (iL _ _ _) ?_ | refine cD (bW _ _ _) ?_ | refine cD (gJ _ _ _ _) ?_ | refine cD rfl ?_)) wP rfl rfl λK7=>qk K7 rfl ?_
 refine v ?_
 cases m
 exact vr λu=>dW.of1 (.inl rfl) (qW (.agg ([nZ ({ { { p0 with Snap:= { p0.Snap with Man:=y0}} with Snap:= { { p0 with Snap:= { p0.Snap with Man:=y0}}.Snap with Locs:=y1}} with Chunks:=y2}.Kind),nZ (({ { { p0 with Snap:= { p0.Snap with Man:=y0}} with Snap:= { { p0 with Snap:= { p0.Snap with Man:=y0}}.Snap with Locs:=y1}} with Chunks:=y2}.Snap).Seq),.sc (.string ((({ { { p0 with Snap:= { p0.Snap with Man:=y0}} with Snap:= { { p0 with Snap:= { p0.Snap with Man:=y0}}.Snap with Locs:=y1}} with Chunks:=y2}.Snap).Man).Name)),.sl none 3 (List.map bX ((({ { { p0 with Snap:= { p0.Snap with Man:=y0}} with Snap:= { { p0 with Snap:= { p0.Snap with Man:=y0}}.Snap with Locs:=y1}} with Chunks:=y2}.Snap).Man).Parts)),.sl none 4 (List.map aN (({ { { p0 with Snap:= { p0.Snap with Man:=y0}} with Snap:= { { p0 with Snap:= { p0.Snap with Man:=y0}}.Snap with Locs:=y1}} with Chunks:=y2}.Snap).Locs)),.sl none 35 (List.map aI ({ { { p0 with Snap:= { p0.Snap with Man:=y0}} with Snap:= { { p0 with Snap:= { p0.Snap with Man:=y0}}.Snap with Locs:=y1}} with Chunks:=y2}.Chunks)),nZ ({ { { p0 with Snap:= { p0.Snap with Man:=y0}} with Snap:= { { p0 with Snap:= { p0.Snap with Man:=y0}}.Snap with Locs:=y1}} with Chunks:=y2}.Seq),nZ ({ { { p0 with Snap:= { p0.Snap with Man:=y0}} with Snap:= { { p0 with Snap:= { p0.Snap with Man:=y0}}.Snap with Locs:=y1}} with Chunks:=y2}.Vol),ow tg0 37 (List.map aY z0)])) pK rfl (bB 1 u rfl) rfl) (aT (List.nil_sublist _) u).1 (bF.agg (.k8 (.cons ((eZ _ 0 t0 u rfl)) .nil))) ⟨rfl,rfl⟩
theorem aF1:aO Tryz.prog 92=true:=by kernel_rfl
def AE (m:Nat) (p0:aA) (p1:Int) (p2:Int) (p3:Int):Option (Bool):=
 after (if (decide (0≤p1))=true then (if (decide (p1 < (p0.Vols.length:Int)))=true then ((ix p0.Vols p1).bind λx0=>if (x0.State==p2)=true then (some (.brk true)) else (ix p0.Vols p1).bind λx1=>some (.brk (x1.State==p3))) else some (.brk false)) else some (.brk false):Option (Lp (Bool) (Bool))) λj0=>some j0
theorem U1 {w:Nat} {p0:aA} {p1:Int} {p2:Int} {p3:Int} {o:Bool} (h:aE) {p0K:cB} {gS:cT} (ok_Snaps:bI gS 4 p0.Snaps.length) {gC:cT} (oC:bI gC 35 p0.Chunks.length) {gE:cT} (oE:bI gE 3 p0.Exps.length) {gV:cT} (oV:bI gV 4 p0.Vols.length) (K0:bT h (hC p0K p0 gS gC gE gV)) (m:AE w p0 p1 p2 p3=some o):
 aL Tryz.prog 155 [.ptr p0K 0,nZ p1,nZ p2,nZ p3] (hp h (hC p0K p0 gS gC gE gV)) (λr h'=>bT h (hC p0K p0 gS gC gE gV)∧r= .sc (.bool o)∧h'=hp h (hC p0K p0 gS gC gE gV)):=by
 refine uE K0 44 [.tmp 8] Tryz.func155 rfl rfl rfl rfl ?_
 unfold AE at m
 refine vs (v0 (vs (fN m (σ:=Bool) (λs=>(hC p0K p0 gS gC gE gV)) (λs=>.c 8 (.sc (.bool s)) .nil) (λx m=> ?_) ?_)))
 refine v0 ?_
 apply vi m <;> intro b0 m
 rw[b0]
 refine jM rfl (dN fQ rfl rfl (vl 0 (aZ gV) gH rfl rfl rfl (bU (dQ sK oV rfl) ?_)))
 apply vi m <;> intro b1 m
 rw[b1]
 refine jM rfl (dN fQ rfl rfl (vl 0 (aZ gV) gH rfl rfl rfl ?_))
 obtain⟨x0,X0,m⟩:=aC m
 refine bU (cM X0 jN oV rfl rfl) (bU (cU (bI.ne oV X0) m5 rfl rfl) (vn (λu=>dX (fo:=2) (nZ x0.State) X0 dY oV cF rfl (aJ 4 u rfl) (λ_=>rfl)) ?_))
 apply vi m <;> intro b2 m
 rw[b2]
 exact iX m
 rw[b2]
 refine jM rfl (dN fQ rfl rfl (vl 0 (aZ gV) gH rfl rfl rfl ?_))
 obtain⟨x1,X1,m⟩:=aC m
 exact bU (cM X1 jN oV rfl rfl) (bU (cU (bI.ne oV X1) m5 rfl rfl) (vn (λu=>dX (fo:=2) (nZ x1.State) X1 dY oV cF rfl (aJ 4 u rfl) (λ_=>rfl)) (iX m)))
 rw[b1]
 exact iX m
 rw[b0]
 exact iX m
 rintro _ j0 m
 refine v0 ?_
 obtain rfl:=eT m
 exact vr λu=>dW.of1 (.inl rfl) (fT _ _ (.sc (.bool _)) rfl) (bE u [0,1,2,3,4] rfl).2 (bF.refl _ _) ⟨(bE u [0,1,2,3,4] rfl).1,rfl,rfl⟩
theorem NN:aO Tryz.prog 155=true:=by kernel_rfl
def qE (m:Nat) (p0:List aB) (p1:aB) (q0:Int):Option (Lp (Int) ((List aB))):=
 after (if (decide (q0 < (p0.length:Int)))=true then ((ix p0 q0).bind λx0=>(MG m x0.Id p1.Id).bind λy0=>some (.brk y0)) else some (.brk false):Option (Lp (Bool) (Lp (Int) ((List aB))))) λj0=>if j0=true then (some (.go (IntKind.wrap .i64 (q0+1)))) else some (.brk q0)
def E9 (m:Nat) (p0:List aB) (p1:aB):Option ((List aB)):=
 after (aU (λs=>qE m p0 p1 s) m 0) λr0=>after (if (decide (r0 < (p0.length:Int)))=true then ((ix p0 r0).bind λx0=>some (.brk (decide (x0.Id=p1.Id)))) else some (.brk false):Option (Lp (Bool) ((List aB)))) λj0=>if j0=true then ((BG m p0).bind λy0=>(vM m p1.Data).bind λy1=>(ix y0 r0).bind λx1=>(ix (y0.set r0.toNat ({ x1 with Staged:=true})) r0).bind λx2=>some ((y0.set r0.toNat ({ x1 with Staged:=true})).set r0.toNat ({ x2 with Data:=y1}))) else (slc p0 0 r0).bind λx3=>(app ([]:List aB) x3).bind λz0=>(app z0 ([p1]:List aB)).bind λz1=>(slc p0 r0 (p0).length).bind λx4=>(app z1 x4).bind λz2=>some z2
theorem aAU {w:Nat} {p0:List aB} {p1:aB} {o:(List aB)} (h:aE) (m:E9 w p0 p1=some o):
 aL Tryz.prog 153 [.sl none 35 (List.map aI p0),.agg (aI p1)] h (λr h'=>∃g:cT,bI g 35 o.length∧bT h [(g.t,.obj 44 (fl aI o g.sp))]∧r=aZ g∧h'=hp h [(g.t,.obj 44 (fl aI o g.sp))]):=by
 refine f8 65 [.tmp 4] Tryz.func153 rfl rfl rfl rfl ?_
 unfold E9 at m
 refine vs (v0 (gY rfl rfl λk2 K3=>vs (v0 (vs (jY m (σ:=Int) (λs=> [(some k2,.obj 44 (aI p1))]) (λs=>.c 0 (.sl none 35 (List.map aI p0)) (.c 3 (.ptr k2 0) (.c 5 (nZ s) .nil))) (lx (.k3 .nil)) ?_ ?_)))))
 rintro _ q0 x m
 replace m:qE w p0 p1 q0=some x:=m
 unfold qE at m
 refine vs (vs (fN m (σ:=Bool) (λs=> [(some k2,.obj 44 (aI p1))]) (λs=>.c 0 (.sl none 35 (List.map aI p0)) (.c 3 (.ptr k2 0) (.c 5 (nZ q0) (.c 21 (.sc (.bool s)) .nil)))) (λx m=> ?_) ?_))
 refine v0 (wY (by kernel_rfl) (dE iG rfl ?_))
 apply vi m <;> intro b0 m
 rw[b0]
 exact vx m fH rfl rfl λx0 _ m=>bU (oM nT rfl rfl) (va (.agg (bL x0.Id)) fW rfl rfl (dN nT rfl rfl (vl 0 (.agg (bL p1.Id)) fW rfl rfl rfl (vk XT RU m rfl rfl λ_ m=>iE m))))
 rw[b0]
 exact iE m
 rintro _ j0 m
 refine v0 ?_
 apply vi m <;> intro c0 m
 exact v0 (v0 (v0 (gU m)))
 exact v0 (EE m)
 rintro _ r0 m
 refine vs (vs (fN m (σ:=Bool) (λs=> [(some k2,.obj 44 (aI p1))]) (λs=>.c 0 (.sl none 35 (List.map aI p0)) (.c 3 (.ptr k2 0) (.c 5 (nZ r0) (.c 37 (.sc (.bool s)) .nil)))) (λx m=> ?_) ?_))
 refine v0 (wY (by kernel_rfl) (dE iG rfl ?_))
 apply vi m <;> intro b1 m
 rw[b1]
 exact vx m fH rfl rfl λx1 _ m=>bU (oM nT rfl rfl) (va (.agg (bL x1.Id)) fW rfl rfl (dN nT rfl rfl (vl 0 (.agg (bL p1.Id)) fW rfl rfl rfl (bU (vX EI RK u5 EH rfl rfl) (iE m)))))
 rw[b1]
 exact iE m
 rintro _ j1 m
 refine v0 ?_
 apply vi m <;> intro c1 m
 refine vs (v0 ?_)
 obtain⟨y0,Y0,m⟩:=aC m
 refine ve λu=>cK (SD _ Y0) rfl MT rfl ?_
 rintro x h' ⟨ag0,O0,K0,rfl,rfl⟩
 refine qk (bT.co u K0) (iS _ _ _) (vs (v0 (dN jS rfl rfl (vl 1 _ kA rfl rfl rfl (vk MS EU m rfl rfl λy1 m=> ?_)))))
 obtain⟨x2,X0,m⟩:=aC m
 refine bU (cM X0 fH O0 rfl rfl) (bU (cU (bI.ne O0 X0) oP rfl rfl) (ve λu=>cI (fo:=32) ({ x2 with Staged:=true}:aB) 0 u X0 cO O0 rfl rfl rfl rfl (cW.refl _ _) V3 rfl rfl λK1=>qk K1 rfl ?_))
 obtain⟨x3,X1,m⟩:=aC m
 refine bU (cM X1 fH (bI.set O0) rfl rfl) (bU (cU (bI.ne (bI.set O0) X1) jS rfl rfl) (ve λu=>cI (fo:=33) ({ x3 with Data:=y1}:aB) 0 u X1 cO (bI.set O0) rfl rfl rfl rfl (cW.refl _ _) CJ rfl rfl λK2=>qk K2 rfl (vs (v0 (v0 ?_)))))
 cases m
 exact vr λu=>dW.one (.inl rfl) (aT (h0:=h) (L':= [(cE ag0 ((y0.set r0.toNat ({ x2 with Staged:=true})).set r0.toNat ({ x3 with Data:=y1})))]) (.cons_cons _ (.cons _ (.refl _))) u).1 (bF.refl _ _) ⟨ag0,(bI.set (bI.set O0)),(aT (h0:=h) (L':= [(cE ag0 ((y0.set r0.toNat ({ x2 with Staged:=true})).set r0.toNat ({ x3 with Data:=y1})))]) (.cons_cons _ (.cons _ (.refl _))) u).2,rfl,rfl⟩
 refine v0 (vs (v0 (vs (v0 (vz [(1000000,some k2,.obj 44 (aI p1))] mixed (λu=>⟨λ_=>aJ 0 u rfl,trivial⟩) λu=>zC 0 rfl (eY (.sc (.slice _ _ _)) rfl) (zC 1 rfl (eY (.sl _ _ _) rfl) (zI 2 rfl rfl ?_)))))))
 obtain⟨_,X2,m⟩:=aC m
 refine zC 3 rfl (pS X2 fH rfl rfl rfl rfl) (zL 5 0 (.agg (aI p1)) rfl kQ rfl rfl rfl (zC 6 rfl (eK (List.map aI ([p1]:List aB)) lR rfl rfl rfl rfl) ?_))
 obtain⟨z0,Z0,m⟩:=aC m
 refine zE 4 rfl (B5 (c:=aI) Z0 lR rfl l6 rfl cO rfl u rfl λag1 O1 K4=>⟨⟨λ_=>aJ 1 K4 rfl,trivial⟩, ?_⟩)
 obtain⟨z1,Z1,m⟩:=aC m
 refine zE 7 rfl (gD (c:=aI) 0 Z1 lR rfl l6 rfl cO rfl rfl O1 K4 rfl λag2 O2 K5=>⟨⟨λ_=>aJ 1 K5 rfl,trivial⟩, ?_⟩)
 refine zC 8 rfl (iC (aw _ _ _) rfl) (zX (qk (f:=.c 7 _ (.c 59 _ (.c 56 _ (.c 58 _ (.c 57 _ (PN 55 _ _ _ _ _)))))) K5 rfl (vs (v0 ?_))))
 obtain⟨_,X3,m⟩:=aC m
 refine bU (pS X3 fH rfl rfl rfl rfl) ?_
 obtain⟨z2,Z2,m⟩:=aC m
 refine ve λu=>gD (c:=aI) 0 Z2 lR rfl l6 rfl cO rfl rfl O2 u rfl λag3 O3 K6=>qk K6 rfl (v0 ?_)
 obtain rfl:=eT m
 exact vr λu=>dW.one (.inl rfl) (aT (h0:=h) (L':= [(cE ag3 z2)]) (.cons_cons _ (.cons _ (.refl _))) u).1 (bF.refl _ _) ⟨ag3,O3,(aT (h0:=h) (L':= [(cE ag3 z2)]) (.cons_cons _ (.cons _ (.refl _))) u).2,rfl,rfl⟩
theorem aAV:aO Tryz.prog 153=true:=by kernel_rfl
open Go.Vm
theorem aF2 {F:Nat} {c:aA} (hF:1000≤F) (h:Sm c):QR F c=some c:=by
 rw[← m14 (F:=F) hF h]
 rfl
theorem U2 {n:Nat} (h:n < 1000000000):IntKind.wrap .u64 (n:Int)=n:=by
 have e:IntKind.wrap .u64 (n:Int)=(n:Int) % 18446744073709551616:=rfl
 rw[e]; omega
theorem QT (p:Int):0≤IntKind.wrap .u64 p:=by
 have e:IntKind.wrap .u64 p=p % 18446744073709551616:=rfl
 rw[e]; omega
theorem QU (p:Int) {n:Nat} (h0:0 < n) (hn:n < 1000000000):∃j:Nat,j < n∧IntKind.wrap .i64 ((IntKind.wrap .u64 p).tmod (n:Int))=(j:Int):=by
 have h1:=QT p
 generalize IntKind.wrap .u64 p=a at h1
 rw[Int.tmod_eq_emod_of_nonneg h1]
 have h2:0≤a % (n:Int):=Int.emod_nonneg _ (by omega)
 have h3:a % (n:Int) < n:=Int.emod_lt_of_pos _ (by omega)
 refine⟨(a % (n:Int)).toNat,by omega, ?_⟩
 rw[wr (by omega) (by omega)]
 omega
open Go.Vm
def tT (m:Nat) (p0:aA) (p1:Int) (q0:List aH) (q1:Int):Option (Lp ((List aH)×Int) (Bool×(List aH)×(List aB))):=
 if (decide (q1 < (p0.Snaps.length:Int)))=true then ((ix p0.Snaps q1).bind λx0=>after (if (x0.Seq !=p1)=true then ((ix p0.Snaps q1).bind λx1=>(app q0 ([x1]:List aH)).bind λz0=>some (.brk z0)) else some (.brk q0):Option (Lp ((List aH)) (Lp ((List aH)×Int) (Bool×(List aH)×(List aB))))) λj0=>some (.go (j0,IntKind.wrap .i64 (q1+1)))) else some (.brk (q0,q1))
def tU (m:Nat) (p0:aA) (r0:List aH) (q0:List aB) (q1:Int):Option (Lp ((List aB)×Int) (Bool×(List aH)×(List aB))):=
 if (decide (q1 < (p0.Chunks.length:Int)))=true then (after ((ix p0.Chunks q1).bind λx0=>(YX m ({ Seq:=p0.Seq,Snaps:=r0,Chunks:=p0.Chunks,Exps:=p0.Exps,Vols:=p0.Vols}:aA) x0.Id).bind λy0=>after (if (!y0)=true then (if ((({ { x0 with Staged:=false} with Data:=([]:List Int)}.Locs).length:Int)==0)=true then (some (.ret (.brk q0))) else some (.brk { { x0 with Staged:=false} with Data:=([]:List Int)})) else some (.brk x0):Option (Lp (aB) (Lp ((List aB)) (Lp ((List aB)×Int) (Bool×(List aH)×(List aB)))))) λj0=>(app q0 ([j0]:List aB)).bind λz0=>some (.brk z0):Option (Lp ((List aB)) (Lp ((List aB)×Int) (Bool×(List aH)×(List aB))))) λj1=>some (.go (j1,IntKind.wrap .i64 (q1+1)))) else some (.brk (q0,q1))
def C3 (m:Nat) (p0:aA) (p1:Int):Option (Bool×(List aH)×(List aB)):=
 after (aU (λs=>tT m p0 p1 s.1 s.2) m ([],0)) λ⟨r0,r1⟩=>if ((r0.length:Int)==(p0.Snaps.length:Int))=true then (some (false,p0.Snaps,p0.Chunks)) else after (aU (λs=>tU m p0 r0 s.1 s.2) m ([],0)) λ⟨r2,r3⟩=>some (true,r0,r2)
theorem aAW {w:Nat} {p0:aA} {p1:Int} {o:Bool×(List aH)×(List aB)} (h:aE) {p0K:cB} {gS:cT} (ok_Snaps:bI gS 4 p0.Snaps.length) {gC:cT} (oC:bI gC 35 p0.Chunks.length) {gE:cT} (oE:bI gE 3 p0.Exps.length) {gV:cT} (oV:bI gV 4 p0.Vols.length) (K0:bT h (hC p0K p0 gS gC gE gV)) (m:C3 w p0 p1=some o):
 aL Tryz.prog 154 [.ptr p0K 0,nZ p1] (hp h (hC p0K p0 gS gC gE gV)) (λr h'=>∃g_Snaps':cT,bI g_Snaps' 4 (o.2.1:List aH).length∧∃g_Chunks':cT,bI g_Chunks' 35 (o.2.2:List aB).length∧bT h (hL p0K p0.Seq g_Snaps' g_Chunks' gE gV o.2.1 o.2.2 p0.Exps p0.Vols)∧r= .sc (.bool o.1)∧h'=hp h (hL p0K p0.Seq g_Snaps' g_Chunks' gE gV o.2.1 o.2.2 p0.Exps p0.Vols)):=by
 refine uE K0 88 [.tmp 4] Tryz.func154 rfl rfl rfl rfl ?_
 unfold C3 at m
 refine vs (v0 (vs (v0 (vs (vs (v0 (qK (FL (.obj 60 (fl bS ([]:List aH) g0.sp)) 5 (aZ g0) (f9 _)) (nR m (σ:=(List aH)×Int) (τ:=cT) (λg s=>((dO g s.1)::(hC p0K p0 gS gC gE gV))) (λg s=>bI g 4 (s.1:List aH).length) (λg s=>.c 0 (.ptr p0K 0) (.c 1 (nZ p1) (.c 5 (aZ g) (.c 6 (nZ s.2) .nil)))) g0 (bI.g0 4) (lx (.k4 .nil)) ?_ ?_))))))))
 rintro ag0 ⟨q0,q1⟩ x O0 m
 replace m:tT w p0 p1 q0 q1=some x:=m
 unfold tT at m
 refine vs (vs (v0 (jM rfl (dN dV rfl rfl (vl 1 (aZ gS) fM rfl rfl rfl (bU (dQ jZ ok_Snaps rfl) (v0 ?_)))))))
 apply vi m <;> intro c0 m
 refine v0 (vs (v0 (vs (v0 (jM rfl (dN dV rfl rfl (vl 1 (aZ gS) fM rfl rfl rfl ?_)))))))
 obtain⟨x0,X0,m⟩:=aC m
 refine bU (cM X0 iU ok_Snaps rfl rfl) (bU (cU (bI.ne ok_Snaps X0) uZ rfl rfl) (vn (λu=>dX (fo:=0) (nZ x0.Seq) X0 eI ok_Snaps cF rfl (aJ 2 u rfl) (λ_=>rfl)) (pO m (σ:=(List aH)) (τ:=cT) (λg s=>((dO g s)::(hC p0K p0 gS gC gE gV))) (λg s=>bI g 4 (s:List aH).length) (λg s=>.c 0 (.ptr p0K 0) (.c 1 (nZ p1) (.c 5 (aZ g) (.c 6 (nZ q1) .nil)))) (λx m=> ?_) ?_)))
 refine v0 ?_
 apply vi m <;> intro c1 m
 refine v0 (jM rfl (dN dV rfl rfl (vl 1 (aZ gS) fM rfl rfl rfl ?_)))
 obtain⟨x1,X1,m⟩:=aC m
 refine bU (cM X1 iU ok_Snaps rfl rfl) (vn (λu=>dX (fo:=0) (.agg (bS x1)) X1 eI ok_Snaps uY rfl (aJ 2 u rfl) (λ_=>rfl)) (bU (eK (List.map bS ([x1]:List aH)) wN rfl rfl rfl rfl) ?_))
 obtain⟨z0,Z0,m⟩:=aC m
 exact ve λu=>gD (c:=bS) 0 Z0 wN rfl u0 rfl eI rfl rfl O0 u rfl λag1 O1 K1=>qk K1 rfl (eW m ag1 O1 (lx (.k4 .nil)))
 exact v0 (eW m ag0 O0 (lx (.k4 .nil)))
 rintro ag2 j0 O2 m
 exact v0 (eW m ag2 O2 (lx (.k4 .nil)))
 exact v0 (lM m ag0 O0 (lx (.k4 .nil)))
 rintro ag3 ⟨r0,r1⟩ t0 m
 refine vs (vs (v0 (bU (dQ jZ t0 rfl) (jM rfl (dN dV rfl rfl (vl 1 (aZ gS) fM rfl rfl rfl (bU (dQ jZ ok_Snaps rfl) (v0 ?_))))))))
 apply vi m <;> intro c2 m
 refine vs (v0 (v0 ?_))
 cases m
 exact vr λu=>dW.of1 (.inl rfl) (fT _ _ (.sc (.bool _)) rfl) (bE u [1,2,3,4,5] rfl).2 (bF.refl _ _) ⟨gS,ok_Snaps,gC,oC,(bE u [1,2,3,4,5] rfl).1,rfl,rfl⟩
 refine v0 (vs (v0 (jM rfl (dN dV rfl rfl (ve λu=>aK 1 ([nZ p0.Seq,aZ ag3,aZ gC,aZ gE,aZ gV]) u rfl rfl (bZ rfl) (cD (bW _ _ _) rfl) GI rfl rfl λK2=>qk K2 rfl (vs (v0 (vs (vs (v0 (qK (FL (.obj 44 (fl aI ([]:List aB) g0.sp)) 7 (aZ g0) (f9 _)) (nR m (σ:=(List aB)×Int) (τ:=cT) (λg s=> [(cE g s.1),(dO ag3 r0),(hO p0K p0.Seq ag3 gC gE gV),(dO gS p0.Snaps),(cE gC p0.Chunks),(fA gE p0.Exps),(lG gV p0.Vols)]) (λg s=>bI g 35 (s.1:List aB).length) (λg s=>.c 0 (.ptr p0K 0) (.c 7 (aZ g) (.c 8 (nZ s.2) .nil))) g0 (bI.g0 35) (lx (.k3 .nil)) ?_ ?_))))))))))))
 rintro ag4 ⟨q2,q3⟩ x O3 m
 replace m:tU w p0 r0 q2 q3=some x:=m
 unfold tU at m
 refine vs (vs (v0 (jM rfl (dN dR rfl rfl (vl 2 (aZ gC) eJ rfl rfl rfl (bU (dQ iG oC rfl) (v0 ?_)))))))
 apply vi m <;> intro c3 m
 refine v0 (vs (pO m (σ:=(List aB)) (τ:=cT) (λg s=> [(cE g s),(dO ag3 r0),(hO p0K p0.Seq ag3 gC gE gV),(dO gS p0.Snaps),(cE gC p0.Chunks),(fA gE p0.Exps),(lG gV p0.Vols)]) (λg s=>bI g 35 (s:List aB).length) (λg s=>.c 0 (.ptr p0K 0) (.c 7 (aZ g) (.c 8 (nZ q3) .nil))) (λx m=> ?_) ?_))
 refine v0 (vs (v0 (jM rfl (dN dR rfl rfl (vl 2 (aZ gC) eJ rfl rfl rfl ?_)))))
 obtain⟨x2,X2,m⟩:=aC m
 refine bU (cM X2 fH oC rfl rfl) (vn (λu=>dX (fo:=0) (.agg (aI x2)) X2 cO oC kQ rfl (aJ 4 u rfl) (λ_=>rfl)) (ve λu=>bJ (bL jW++(FN:List AV)) u l6 rfl rfl λk465 K3=>qk K3 rfl (ve λu=>aK 0 (aI x2) u rfl rfl rfl rfl rI rfl rfl λK4=>qk K4 rfl (vs (vs (v0 (wY (by kernel_rfl) (jM rfl (vl 3 (.agg ([nZ p0.Seq,aZ ag3,aZ gC,aZ gE,aZ gV])) fC rfl rfl rfl (dN nT rfl rfl (vl 0 (.agg (bL x2.Id)) fW rfl rfl rfl ?_)))))))))))
 obtain⟨_,Y0,m⟩:=aC m
 refine vn (λu=>bY (fG (.cons (Br.agg (.cons (Br.refl _ _) (.cons (Br.aw 2 eI t0 u rfl) (.cons (Br.aw 5 cO oC u rfl) (.cons (Br.aw 6 fL oE u rfl) (.cons (Br.aw 7 dY oV u rfl) .nil)))))) (.cons (Br.refl _ _) .nil)) rfl (W38 _ Y0)) rfl aEX rfl) (fN m (σ:=aB) (λs=> [(some k465,.obj 44 (aI s)),(cE ag4 q2),(dO ag3 r0),(hO p0K p0.Seq ag3 gC gE gV),(dO gS p0.Snaps),(cE gC p0.Chunks),(fA gE p0.Exps),(lG gV p0.Vols)]) (λs=>.c 0 (.ptr p0K 0) (.c 7 (aZ ag4) (.c 8 (nZ q3) (.c 9 (.ptr k465 0) .nil)))) (λx m=> ?_) ?_)
 refine v0 ?_
 apply vi m <;> intro c4 m
 refine vs (v0 (dN oP rfl rfl (ve λu=>aK 0 (aI { x2 with Staged:=false}) u rfl rfl rfl rfl V3 rfl rfl λK5=>qk K5 rfl (dN jS rfl rfl (ve λu=>xW 0 (aI { { x2 with Staged:=false} with Data:=([]:List Int)}) u rfl rfl rfl rfl (.cons (aX _) .nil) CJ rfl rfl λK6=>qk K6 rfl (vs (v0 (dN iV rfl rfl (vl 0 _ eL rfl rfl rfl (dE gO rfl (v0 ?_)))))))))))
 apply vi m <;> intro c5 m
 exact v0 (vxt m rfl λm=>eW m ag4 O3 (lW [1,2,3,4,5,6,7] rfl rfl (.k3 .nil)))
 exact v0 (iE m)
 exact v0 (iE m)
 rintro _ j1 m
 refine v0 (vl 0 (.agg (aI j1)) kQ rfl rfl rfl (bU (eK (List.map aI ([j1]:List aB)) lR rfl rfl rfl rfl) ?_))
 obtain⟨z1,Z1,m⟩:=aC m
 exact ve λu=>gD (c:=aI) 1 Z1 lR rfl l6 rfl cO rfl rfl O3 u rfl λag5 O4 K7=>qk K7 rfl (eW m ag5 O4 (lW [1,2,3,4,5,6,7] rfl rfl (.k3 .nil)))
 rintro ag6 j2 O5 m
 exact v0 (eW m ag6 O5 (lx (.k3 .nil)))
 exact v0 (lM m ag4 O3 (lx (.k3 .nil)))
 rintro ag7 ⟨r2,r3⟩ t1 m
 refine vs (v0 (jM rfl (dN dR rfl rfl (ve λu=>aK 2 ([nZ p0.Seq,aZ ag3,aZ ag7,aZ gE,aZ gV]) u rfl rfl (bZ rfl) (cD (bW _ _ _) rfl) zY rfl rfl λK8=>qk K8 rfl (vs (v0 (v0 ?_)))))))
 cases m
 exact vr λu=>dW.of1 (.inl rfl) (fT _ _ (.sc (.bool _)) rfl) (bE u [2,1,0,5,6] rfl).2 (bF.refl _ _) ⟨ag3,t0,ag7,t1,(bE u [2,1,0,5,6] rfl).1,rfl,rfl⟩
theorem SF:aO Tryz.prog 154=true:=by kernel_rfl
def mL (m:Nat) (p0:aA) (p1:aS) (p2:a8) (q0:Int):Option (Lp (Int) (Lp (Int×(List aB)×(List aQ)) (Bool×Int×A7))):=
 if (decide (q0 < (p0.Snaps.length:Int)))=true then ((ix p0.Snaps q0).bind λx0=>if (x0.Seq==p1.Seq)=true then ((ix p0.Snaps q0).bind λx1=>(HH m x1.Locs p2).bind λy0=>(ix p0.Snaps q0).bind λx2=>some (.ret (.ret (true,p0.Seq,p0.Snaps.set q0.toNat ({ x2 with Locs:=y0}),p0.Chunks,p0.Exps)))) else some (.go (IntKind.wrap .i64 (q0+1)))) else some (.brk q0)
def tV (m:Nat) (p0:aA) (p1:aS) (q0:Int):Option (Lp (Int) (Lp (Int×(List aB)×(List aQ)) (Bool×Int×A7))):=
 after (if (decide (q0 < (p0.Exps.length:Int)))=true then ((ix p0.Exps q0).bind λx0=>some (.brk (decide (x0.Seq < p1.Seq)))) else some (.brk false):Option (Lp (Bool) (Lp (Int) (Lp (Int×(List aB)×(List aQ)) (Bool×Int×A7))))) λj0=>if j0=true then (some (.go (IntKind.wrap .i64 (q0+1)))) else some (.brk q0)
def HJ (m:Nat) (p0:aA) (p1:aS) (p2:a8):Option (Bool×Int×A7):=
 after (if (p1.Kind==1)=true then ((KL m ({ Seq:=p0.Seq,Snaps:=p0.Snaps,Chunks:=p0.Chunks,Exps:=p0.Exps,Vols:=p0.Vols}:aA) p1.Id).bind λy0=>if (decide (y0 < 0))=true then (some (.ret (false,p0.Seq,p0.Snaps,p0.Chunks,p0.Exps))) else (ix p0.Chunks y0).bind λx0=>(HH m x0.Locs p2).bind λy1=>(ix p0.Chunks y0).bind λx1=>some (.brk (p0.Seq,p0.Chunks.set y0.toNat ({ x1 with Locs:=y1}),p0.Exps))) else if (p1.Kind==2)=true then (after (aU (λs=>mL m p0 p1 p2 s) m 0) λr0=>some (.ret (false,p0.Seq,p0.Snaps,p0.Chunks,p0.Exps))) else after (aU (λs=>tV m p0 p1 s) m 0) λr1=>after (if (decide (r1 < (p0.Exps.length:Int)))=true then ((ix p0.Exps r1).bind λx2=>some (.brk (x2.Seq==p1.Seq))) else some (.brk false):Option (Lp (Bool) (Lp (Int×(List aB)×(List aQ)) (Bool×Int×A7)))) λj0=>if j0=true then ((ix p0.Exps r1).bind λx3=>(HH m x3.Locs p2).bind λy2=>(ix p0.Exps r1).bind λx4=>some (.ret (true,p0.Seq,p0.Snaps,p0.Chunks,p0.Exps.set r1.toNat ({ x4 with Locs:=y2})))) else (slc p0.Exps 0 r1).bind λx5=>(app ([]:List aQ) x5).bind λz0=>(app z0 ([({ Seq:=p1.Seq,Of:=p1.Of,Locs:=([p2]:List a8)}:aQ)]:List aQ)).bind λz1=>(slc p0.Exps r1 (p0.Exps).length).bind λx6=>(app z1 x6).bind λz2=>after (if (decide (p0.Seq≤p1.Seq))=true then (some (.brk (decide (p1.Seq < 4611686018427387904)))) else some (.brk false):Option (Lp (Bool) (Lp (Int×(List aB)×(List aQ)) (Bool×Int×A7)))) λj1=>after (if j1=true then (some (.brk (IntKind.wrap .i64 (p1.Seq+1)))) else some (.brk p0.Seq):Option (Lp (Int) (Lp (Int×(List aB)×(List aQ)) (Bool×Int×A7)))) λj2=>some (.brk (j2,p0.Chunks,z2)):Option (Lp (Int×(List aB)×(List aQ)) (Bool×Int×A7))) λ⟨j3,j4,j5⟩=>some (true,j3,p0.Snaps,j4,j5)
theorem aF3 {w:Nat} {p0:aA} {p1:aS} {p2:a8} {o:Bool×Int×A7} (h:aE) {p0K:cB} {gS:cT} (ok_Snaps:bI gS 4 p0.Snaps.length) {gC:cT} (oC:bI gC 35 p0.Chunks.length) {gE:cT} (oE:bI gE 3 p0.Exps.length) {gV:cT} (oV:bI gV 4 p0.Vols.length) (K0:bT h (hC p0K p0 gS gC gE gV)) (m:HJ w p0 p1 p2=some o):
 aL Tryz.prog 156 [.ptr p0K 0,.agg (aY p1),.agg (aN p2)] (hp h (hC p0K p0 gS gC gE gV)) (λr h'=>∃g_Snaps':cT,bI g_Snaps' 4 (o.2.2.1:List aH).length∧∃g_Chunks':cT,bI g_Chunks' 35 (o.2.2.2.1:List aB).length∧∃g_Exps':cT,bI g_Exps' 3 (o.2.2.2.2:List aQ).length∧bT h (hL p0K o.2.1 g_Snaps' g_Chunks' g_Exps' gV o.2.2.1 o.2.2.2.1 o.2.2.2.2 p0.Vols)∧r= .sc (.bool o.1)∧h'=hp h (hL p0K o.2.1 g_Snaps' g_Chunks' g_Exps' gV o.2.2.1 o.2.2.2.1 o.2.2.2.2 p0.Vols)):=by
 refine uE K0 184 [.tmp 6] Tryz.func156 rfl rfl rfl rfl ?_
 unfold HJ at m
 refine vs (v0 (gY rfl rfl λk2 K3=>gY rfl rfl λk5 K6=>vs (vs (v0 (dN l4 rfl rfl (vl 1 _ cF rfl rfl rfl (v0 (vs (v0 (pO m (σ:=Int×(List aB)×(List aQ)) (τ:=cT×cT) (λg s=>((some k5,.obj 81 (aN p2))::(some k2,.obj 38 (aY p1))::(hL p0K s.1 gS g.1 g.2 gV p0.Snaps s.2.1 s.2.2 p0.Vols))) (λg s=>bI g.1 35 (s.2.1:List aB).length∧bI g.2 3 (s.2.2:List aQ).length) (λg s=>.nil) (λx m=> ?_) ?_))))))))))
 refine v0 ?_
 apply vi m <;> intro c0 m
 refine vs (v0 (wY (by kernel_rfl) (jM rfl (vl 2 (.agg ([nZ p0.Seq,aZ gS,aZ gC,aZ gE,aZ gV])) fC rfl rfl rfl (dN uV rfl rfl (vl 1 (.agg (bL p1.Id)) fW rfl rfl rfl ?_))))))
 obtain⟨_,Y0,m⟩:=aC m
 refine vn (λu=>bY (fG (.cons (Br.agg (.cons (Br.refl _ _) (.cons (Br.aw 3 eI ok_Snaps u rfl) (.cons (Br.aw 4 cO oC u rfl) (.cons (Br.aw 5 fL oE u rfl) (.cons (Br.aw 6 dY oV u rfl) .nil)))))) (.cons (Br.refl _ _) .nil)) rfl (W88 _ Y0)) rfl P4 rfl) (vs (vs (v0 (v0 ?_))))
 apply vi m <;> intro c1 m
 refine vs (v0 (v0 (gM m λm=> ?_)))
 cases m
 exact vr λu=>dW.of1 (.inl rfl) (fT _ _ (.sc (.bool _)) rfl) (bE u [2,3,4,5,6] rfl).2 (bF.refl _ _) ⟨gS,ok_Snaps,gC,oC,gE,oE,(bE u [2,3,4,5,6] rfl).1,rfl,rfl⟩
 refine v0 (v0 (vz [(1000000,some p0K,.obj 30 ([nZ p0.Seq,aZ gS,aZ gC,aZ gE,aZ gV])),(17,gC.t,.obj 44 (fl aI (p0.Chunks:List aB) gC.sp)),(1000000,some k5,.obj 81 (aN p2))] mixed (λu=>⟨λ_=>aJ 2 u rfl,λ_=>aJ 4 u rfl,λ_=>aJ 0 u rfl,trivial⟩) λu=>zP 0 rfl rfl (zN 1 rfl rfl (zF 2 rfl dR rfl (zL 3 0 (aZ gC) rfl eJ rfl rfl rfl (zI 4 rfl rfl (zP 5 rfl rfl (zN 6 rfl rfl (zF 7 rfl dR rfl (zL 8 0 (aZ gC) rfl eJ rfl rfl rfl (zI 9 rfl rfl ?_)))))))))))
 obtain⟨x0,X0,m⟩:=aC m
 refine zC 10 rfl (cM X0 fH oC rfl rfl) (zC 11 rfl (cU (bI.ne oC X0) iV rfl rfl) (wL 12 rfl (λ_ _ hi hB=>dX (fo:=34) (.sl none 4 (List.map aN x0.Locs)) X0 cO oC eL rfl (fV.get 1 hi rfl (hB 17 (by kernel_rfl))) (λ_=>rfl)) (zL 13 2 (.agg (aN p2)) rfl l8 rfl rfl rfl ?_)))
 obtain⟨y0,Y1,m⟩:=aC m
 refine zC 14 rfl (bY (UZ _ Y1) rfl NL rfl) ?_
 obtain⟨x1,X1,m⟩:=aC m
 refine zC 15 rfl (cM X1 fH oC rfl rfl) (zC 16 rfl (cU (bI.ne oC X1) iV rfl rfl) (zE 17 rfl (cI (fo:=34) ({ x1 with Locs:=y0}:aB) 4 u X1 cO oC rfl rfl rfl rfl (cW.refl _ _) n5 rfl rfl λK1=>⟨⟨λ_=>aJ 2 K1 rfl,λe=>absurd e (by decide),λ_=>aJ 0 K1 rfl,trivial⟩, ?_⟩)))
 exact zX (qk (f:=wM 144 _ _ _ _ _ _ _ _ _ _ _ _ _ _ _ _ _ _) K1 rfl (eW m (gC,gE) ⟨(bI.set oC),oE⟩ (lx .nil)))
 refine vs (v0 (v0 ?_))
 apply vi m <;> intro c2 m
 refine vs (vs (v0 (jY m (σ:=Int) (λs=>((some k5,.obj 81 (aN p2))::(some k2,.obj 38 (aY p1))::(hC p0K p0 gS gC gE gV))) (λs=>.c 0 (.ptr p0K 0) (.c 4 (.ptr k2 0) (.c 5 (.ptr k5 0) (.c 8 (nZ s) .nil)))) (lx (.k4 .nil)) ?_ ?_)))
 rintro _ q0 x m
 replace m:mL w p0 p1 p2 q0=some x:=m
 unfold mL at m
 refine vs (vs (v0 (jM rfl (dN dV rfl rfl (vl 2 (aZ gS) fM rfl rfl rfl (bU (dQ jZ ok_Snaps rfl) (v0 ?_)))))))
 apply vi m <;> intro c3 m
 refine v0 (vs (v0 (vs (v0 (wY (by kernel_rfl) (jM rfl (dN dV rfl rfl (vl 2 (aZ gS) fM rfl rfl rfl ?_))))))))
 obtain⟨x2,X2,m⟩:=aC m
 refine bU (cM X2 iU ok_Snaps rfl rfl) (bU (cU (bI.ne ok_Snaps X2) uZ rfl rfl) (vn (λu=>dX (fo:=0) (nZ x2.Seq) X2 eI ok_Snaps cF rfl (aJ 3 u rfl) (λ_=>rfl)) (dN lD rfl rfl (vl 1 _ cF rfl rfl rfl (v0 ?_)))))
 apply vi m <;> intro c4 m
 refine vs (v0 (vz [(1000000,some p0K,.obj 30 ([nZ p0.Seq,aZ gS,aZ gC,aZ gE,aZ gV])),(17,gS.t,.obj 60 (fl bS (p0.Snaps:List aH) gS.sp)),(1000000,some k5,.obj 81 (aN p2))] mixed (λu=>⟨λ_=>aJ 2 u rfl,λ_=>aJ 3 u rfl,λ_=>aJ 0 u rfl,trivial⟩) λu=>zP 0 rfl rfl (zN 1 rfl rfl (zF 2 rfl dV rfl (zL 3 0 (aZ gS) rfl fM rfl rfl rfl (zI 4 rfl rfl (zP 5 rfl rfl (zN 6 rfl rfl (zF 7 rfl dV rfl (zL 8 0 (aZ gS) rfl fM rfl rfl rfl (zI 9 rfl rfl ?_)))))))))))
 obtain⟨x3,X3,m⟩:=aC m
 refine zC 10 rfl (cM X3 iU ok_Snaps rfl rfl) (zC 11 rfl (cU (bI.ne ok_Snaps X3) jT rfl rfl) (wL 12 rfl (λ_ _ hi hB=>dX (fo:=3) (.sl none 4 (List.map aN x3.Locs)) X3 eI ok_Snaps eL rfl (fV.get 1 hi rfl (hB 17 (by kernel_rfl))) (λ_=>rfl)) (zL 13 2 (.agg (aN p2)) rfl l8 rfl rfl rfl ?_)))
 obtain⟨y1,Y2,m⟩:=aC m
 refine zC 14 rfl (bY (UZ _ Y2) rfl NL rfl) ?_
 obtain⟨x4,X4,m⟩:=aC m
 refine zC 15 rfl (cM X4 iU ok_Snaps rfl rfl) (zC 16 rfl (cU (bI.ne ok_Snaps X4) jT rfl rfl) (zE 17 rfl (cI (fo:=3) ({ x4 with Locs:=y1}:aH) 3 u X4 eI ok_Snaps rfl rfl rfl rfl (cW.refl _ _) n5 rfl rfl λK2=>⟨⟨λ_=>aJ 2 K2 rfl,λe=>absurd e (by decide),λ_=>aJ 0 K2 rfl,trivial⟩, ?_⟩)))
 refine zX (qk (f:=wM 183 _ _ _ _ _ _ _ _ _ _ _ _ _ _ _ _ _ _) K2 rfl (vs (v0 (v0 (gM m λm=>gM m λm=> ?_)))))
 cases m
 exact vr λu=>dW.of1 (.inl rfl) (fT _ _ (.sc (.bool _)) rfl) (bE u [2,3,4,5,6] rfl).2 (bF.refl _ _) ⟨gS,(bI.set ok_Snaps),gC,oC,gE,oE,(bE u [2,3,4,5,6] rfl).1,rfl,rfl⟩
 exact v0 (v0 (iE m))
 exact v0 (wW m)
 rintro _ r0 m
 refine vs (v0 (v0 (gM m λm=> ?_)))
 cases m
 exact vr λu=>dW.of1 (.inl rfl) (fT _ _ (.sc (.bool _)) rfl) (bE u [2,3,4,5,6] rfl).2 (bF.refl _ _) ⟨gS,ok_Snaps,gC,oC,gE,oE,(bE u [2,3,4,5,6] rfl).1,rfl,rfl⟩
 refine vs (v0 (vs (jY m (σ:=Int) (λs=>((some k5,.obj 81 (aN p2))::(some k2,.obj 38 (aY p1))::(hC p0K p0 gS gC gE gV))) (λs=>.c 0 (.ptr p0K 0) (.c 4 (.ptr k2 0) (.c 5 (.ptr k5 0) (.c 9 (nZ s) .nil)))) (lx (.k4 .nil)) ?_ ?_)))
 rintro _ q1 x m
 replace m:tV w p0 p1 q1=some x:=m
 unfold tV at m
 refine vs (vs (fN m (σ:=Bool) (λs=>((some k5,.obj 81 (aN p2))::(some k2,.obj 38 (aY p1))::(hC p0K p0 gS gC gE gV))) (λs=>.c 0 (.ptr p0K 0) (.c 4 (.ptr k2 0) (.c 5 (.ptr k5 0) (.c 9 (nZ q1) (.c 32 (.sc (.bool s)) .nil))))) (λx m=> ?_) ?_))
 refine v0 (wY (by kernel_rfl) (jM rfl (dN e8 rfl rfl (vl 2 (aZ gE) jG rfl rfl rfl (bU (dQ pW oE rfl) ?_)))))
 apply vi m <;> intro b0 m
 rw[b0]
 refine jM rfl (dN e8 rfl rfl (vl 2 (aZ gE) jG rfl rfl rfl ?_))
 obtain⟨x5,X5,m⟩:=aC m
 exact bU (cM X5 iM oE rfl rfl) (bU (cU (bI.ne oE X5) GR rfl rfl) (vn (λu=>dX (fo:=0) (nZ x5.Seq) X5 fL oE cF rfl (aJ 5 u rfl) (λ_=>rfl)) (dN lD rfl rfl (vl 1 _ cF rfl rfl rfl (lX m)))))
 rw[b0]
 exact lX m
 rintro _ j0 m
 refine v0 ?_
 apply vi m <;> intro c5 m
 exact v0 (v0 (v0 (iE m)))
 exact v0 (wW m)
 rintro _ r1 m
 refine vs (vs (fN m (σ:=Bool) (λs=>((some k5,.obj 81 (aN p2))::(some k2,.obj 38 (aY p1))::(hC p0K p0 gS gC gE gV))) (λs=>.c 0 (.ptr p0K 0) (.c 4 (.ptr k2 0) (.c 5 (.ptr k5 0) (.c 9 (nZ r1) (.c 54 (.sc (.bool s)) .nil))))) (λx m=> ?_) ?_))
 refine v0 (wY (by kernel_rfl) (jM rfl (dN e8 rfl rfl (vl 2 (aZ gE) jG rfl rfl rfl (bU (dQ pW oE rfl) ?_)))))
 apply vi m <;> intro b1 m
 rw[b1]
 refine jM rfl (dN e8 rfl rfl (vl 2 (aZ gE) jG rfl rfl rfl ?_))
 obtain⟨x6,X6,m⟩:=aC m
 exact bU (cM X6 iM oE rfl rfl) (bU (cU (bI.ne oE X6) GR rfl rfl) (vn (λu=>dX (fo:=0) (nZ x6.Seq) X6 fL oE cF rfl (aJ 5 u rfl) (λ_=>rfl)) (dN lD rfl rfl (vl 1 _ cF rfl rfl rfl (lX m)))))
 rw[b1]
 exact lX m
 rintro _ j1 m
 refine v0 ?_
 apply vi m <;> intro c6 m
 refine vs (v0 (vz [(1000000,some p0K,.obj 30 ([nZ p0.Seq,aZ gS,aZ gC,aZ gE,aZ gV])),(17,gE.t,.obj 99 (fl cP (p0.Exps:List aQ) gE.sp)),(1000000,some k5,.obj 81 (aN p2))] mixed (λu=>⟨λ_=>aJ 2 u rfl,λ_=>aJ 5 u rfl,λ_=>aJ 0 u rfl,trivial⟩) λu=>zP 0 rfl rfl (zN 1 rfl rfl (zF 2 rfl e8 rfl (zL 3 0 (aZ gE) rfl jG rfl rfl rfl (zI 4 rfl rfl (zP 5 rfl rfl (zN 6 rfl rfl (zF 7 rfl e8 rfl (zL 8 0 (aZ gE) rfl jG rfl rfl rfl (zI 9 rfl rfl ?_)))))))))))
 obtain⟨x7,X7,m⟩:=aC m
 refine zC 10 rfl (cM X7 iM oE rfl rfl) (zC 11 rfl (cU (bI.ne oE X7) lF rfl rfl) (wL 12 rfl (λ_ _ hi hB=>dX (fo:=2) (.sl none 4 (List.map aN x7.Locs)) X7 fL oE eL rfl (fV.get 1 hi rfl (hB 17 (by kernel_rfl))) (λ_=>rfl)) (zL 13 2 (.agg (aN p2)) rfl l8 rfl rfl rfl ?_)))
 obtain⟨y2,Y3,m⟩:=aC m
 refine zC 14 rfl (bY (UZ _ Y3) rfl NL rfl) ?_
 obtain⟨x8,X8,m⟩:=aC m
 refine zC 15 rfl (cM X8 iM oE rfl rfl) (zC 16 rfl (cU (bI.ne oE X8) lF rfl rfl) (zE 17 rfl (cI (fo:=2) ({ x8 with Locs:=y2}:aQ) 5 u X8 fL oE rfl rfl rfl rfl (cW.refl _ _) n5 rfl rfl λK4=>⟨⟨λ_=>aJ 2 K4 rfl,λe=>absurd e (by decide),λ_=>aJ 0 K4 rfl,trivial⟩, ?_⟩)))
 refine zX (qk (f:=wM 71 _ _ _ _ _ _ _ _ _ _ _ _ _ _ _ _ _ _) K4 rfl (vs (v0 (v0 (gM m λm=> ?_)))))
 cases m
 exact vr λu=>dW.of1 (.inl rfl) (fT _ _ (.sc (.bool _)) rfl) (bE u [2,3,4,5,6] rfl).2 (bF.refl _ _) ⟨gS,ok_Snaps,gC,oC,gE,(bI.set oE),(bE u [2,3,4,5,6] rfl).1,rfl,rfl⟩
 refine v0 (vs (v0 (vs (qK (λu=>i7.fzO (n:=184) (f:=_) 5 2 ([nZ p0.Seq,aZ gS,aZ gC,.sl none 3 (List.map cP p0.Exps),aZ gV]) u rfl (.cons (Fz.refl _ _ _) (.cons (Fz.refl _ _ _) (.cons (Fz.refl _ _ _) (.cons (Fz.aw 5 fL oE u rfl (.refl _)) (.cons (Fz.refl _ _ _) .nil)))))) (v0 (vz [(1000000,some p0K,.obj 30 ([nZ p0.Seq,aZ gS,aZ gC,.sl none 3 (List.map cP p0.Exps),aZ gV])),(1000000,some k2,.obj 38 (aY p1)),(1000000,some k5,.obj 81 (aN p2))] mixed (λu=>⟨λ_=>aJ 2 u rfl,λ_=>aJ 1 u rfl,λ_=>aJ 0 u rfl,trivial⟩) λu=>zC 0 rfl (eY (.sc (.slice _ _ _)) rfl) (zP 1 rfl rfl (zN 2 rfl rfl (zF 3 rfl e8 rfl (zL 4 0 (.sl none 3 (List.map cP p0.Exps)) rfl jG rfl rfl rfl (zI 5 rfl rfl ?_)))))))))))
 obtain⟨_,X9,m⟩:=aC m
 refine zC 6 rfl (pS X9 iM rfl rfl rfl rfl) (zF 8 rfl lD rfl (zL 9 1 (nZ p1.Seq) rfl cF rfl rfl rfl (zF 10 rfl uW rfl (zL 11 1 (nZ p1.Of) rfl cF rfl rfl rfl (zL 12 2 (.agg (aN p2)) rfl l8 rfl rfl rfl (zC 13 rfl (eK (List.map aN ([p2]:List a8)) pJ rfl rfl rfl rfl) (zC 14 rfl (eS (cP ({ Seq:=p1.Seq,Of:=p1.Of,Locs:=([p2]:List a8)}:aQ)) W8 rfl) (zC 15 rfl (eK (List.map cP ([({ Seq:=p1.Seq,Of:=p1.Of,Locs:=([p2]:List a8)}:aQ)]:List aQ)) pH rfl rfl rfl rfl) ?_))))))))
 obtain⟨z0,Z0,m⟩:=aC m
 refine zE 7 rfl (B5 (c:=cP) Z0 pH rfl rL rfl fL rfl u rfl λag0 O0 K5=>⟨⟨λ_=>aJ 3 K5 rfl,λ_=>aJ 2 K5 rfl,λ_=>aJ 1 K5 rfl,trivial⟩, ?_⟩)
 obtain⟨z1,Z1,m⟩:=aC m
 refine zE 16 rfl (gD (c:=cP) 0 Z1 pH rfl rL rfl fL rfl rfl O0 K5 rfl λag1 O1 K7=>⟨⟨λ_=>aJ 3 K7 rfl,λ_=>aJ 2 K7 rfl,λ_=>aJ 1 K7 rfl,trivial⟩, ?_⟩)
 refine zC 17 rfl (iC (aw _ _ _) rfl) (zX (qk (f:=.c 10 _ (.c 88 _ (.c 79 _ (S4 87 _ _ _ _ _ _ _ _ (fq7 78 _ _ _ _ _ _ _ _))))) K7 rfl (vs (v0 (jM rfl (dN e8 rfl rfl (vl 3 _ jG rfl rfl rfl ?_)))))))
 obtain⟨_,X10,m⟩:=aC m
 refine bU (pS X10 iM rfl rfl rfl rfl) ?_
 obtain⟨z2,Z2,m⟩:=aC m
 refine ve λu=>gD (c:=cP) 0 Z2 pH rfl rL rfl fL rfl rfl O1 u rfl λag2 O2 K8=>qk K8 rfl (jM rfl (dN e8 rfl rfl (ve λu=>aK 3 ([nZ p0.Seq,aZ gS,aZ gC,aZ ag2,aZ gV]) u rfl rfl (bZ rfl) (cD (bW _ _ _) rfl) JP rfl rfl λK9=>qk K9 rfl (vs (fN m (σ:=Bool) (λs=> [(fA ag2 z2),(some k5,.obj 81 (aN p2)),(some k2,.obj 38 (aY p1)),(hO p0K p0.Seq gS gC ag2 gV),(dO gS p0.Snaps),(cE gC p0.Chunks),(lG gV p0.Vols)]) (λs=>.c 0 (.ptr p0K 0) (.c 4 (.ptr k2 0) (.c 111 (.sc (.bool s)) .nil))) (λx m=> ?_) ?_)))))
 refine v0 (wY (by kernel_rfl) (dN lD rfl rfl (vl 2 _ cF rfl rfl rfl (jM rfl (dN nS rfl rfl (vl 3 _ cF rfl rfl rfl ?_))))))
 apply vi m <;> intro b2 m
 rw[b2]
 exact dN lD rfl rfl (vl 2 _ cF rfl rfl rfl (gU m))
 rw[b2]
 exact gU m
 rintro _ j2 m
 refine fN m (σ:=Int) (λs=> [(fA ag2 z2),(some k5,.obj 81 (aN p2)),(some k2,.obj 38 (aY p1)),(hO p0K s gS gC ag2 gV),(dO gS p0.Snaps),(cE gC p0.Chunks),(lG gV p0.Vols)]) (λs=>.nil) (λx m=> ?_) ?_
 refine v0 ?_
 apply vi m <;> intro c7 m
 exact v0 (dN lD rfl rfl (vl 2 _ cF rfl rfl rfl (jM rfl (dN nS rfl rfl (ve λu=>aK 3 ([nZ (IntKind.wrap .i64 (p1.Seq+1)),aZ gS,aZ gC,aZ ag2,aZ gV]) u rfl rfl rfl rfl zT rfl rfl λK10=>qk K10 rfl (gq0 m))))))
 exact v0 (gq0 m)
 rintro _ j3 m
 exact eW m (gC,ag2) ⟨oC,O2⟩ (lW [1,2,3,4,5,0,6] rfl rfl .nil)
 rintro⟨ag3,ag4⟩ ⟨j4,j5,j6⟩ ⟨O3,O4⟩ m
 refine vs (v0 (v0 ?_))
 cases m
 exact vr λu=>dW.of1 (.inl rfl) (fT _ _ (.sc (.bool _)) rfl) (bE u [2,3,4,5,6] rfl).2 (bF.refl _ _) ⟨gS,ok_Snaps,ag3,O3,ag4,O4,(bE u [2,3,4,5,6] rfl).1,rfl,rfl⟩
theorem aAX:aO Tryz.prog 156=true:=by kernel_rfl
open Go.Vm
def rQ (m:Nat) (p1:aR) (q0:Bool) (q1:Int):Option (Lp (Bool×Int) (Lp (Int×fE) (Int×Int×fE))):=
 if (decide (q1 < (p1.Chunks.length:Int)))=true then (after (if q0=true then ((ix p1.Chunks q1).bind λx0=>if x0.Staged=true then ((ix p1.Chunks q1).bind λx1=>some (.brk ((x1.Locs.length:Int)==0))) else some (.brk false)) else some (.brk false):Option (Lp (Bool) (Lp (Bool×Int) (Lp (Int×fE) (Int×Int×fE))))) λj0=>some (.go (j0,IntKind.wrap .i64 (q1+1)))) else some (.brk (q0,q1))
def vS (m:Nat) (p1:aR) (q0:List aB) (q1:Int):Option (Lp ((List aB)×Int) (Lp (Int×fE) (Int×Int×fE))):=
 if (decide (q1 < (p1.Chunks.length:Int)))=true then ((ix p1.Chunks q1).bind λx0=>(E9 m q0 x0).bind λy0=>some (.go (y0,IntKind.wrap .i64 (q1+1)))) else some (.brk (q0,q1))
def rR (m:Nat) (p1:aR) (q0:Bool) (q1:Int):Option (Lp (Bool×Int) (Lp (Int×fE) (Lp (Int×fE) (Lp (Int×fE) (Int×Int×fE))))):=
 if (decide (q1 < (p1.Items.length:Int)))=true then (after (if q0=true then ((ix p1.Items q1).bind λx0=>if (decide (1≤x0.Kind))=true then ((ix p1.Items q1).bind λx1=>some (.brk (decide (x1.Kind≤3)))) else some (.brk false)) else some (.brk false):Option (Lp (Bool) (Lp (Bool×Int) (Lp (Int×fE) (Lp (Int×fE) (Lp (Int×fE) (Int×Int×fE))))))) λj0=>some (.go (j0,IntKind.wrap .i64 (q1+1)))) else some (.brk (q0,q1))
def qF (m:Nat) (p0:aA) (p1:aR) (x0:aP) (q0:Int) (q1:List aH) (q2:List aB) (q3:List aQ) (q4:Int):Option (Lp (Int×(List aH)×(List aB)×(List aQ)×Int) (Lp (Int×fE) (Lp (Int×fE) (Lp (Int×fE) (Int×Int×fE))))):=
 if (decide (q4 < (p1.Items.length:Int)))=true then ((ix p1.Items q4).bind λx1=>(ix p1.Items q4).bind λx2=>(ix p1.Items q4).bind λx3=>(HJ m ({ Seq:=q0,Snaps:=q1,Chunks:=q2,Exps:=q3,Vols:=(p0.Vols.set p1.Vol.toNat ({ x0 with State:=2})).set p1.Vol.toNat ({ ({ x0 with State:=2}:aP) with Files:=IntKind.wrap .i64 (x0.Files+1)})}:aA) x1 ({ Vol:=p1.Vol,File:=({ ({ x0 with State:=2}:aP) with Files:=IntKind.wrap .i64 (x0.Files+1)}:aP).Files,Off:=x2.Off,Len:=x3.Len}:a8)).bind λy0=>if (!y0.1)=true then (some (.ret (.ret (.ret (.ret (8,y0.2.1,y0.2.2.1,y0.2.2.2.1,y0.2.2.2.2,(p0.Vols.set p1.Vol.toNat ({ x0 with State:=2})).set p1.Vol.toNat ({ ({ x0 with State:=2}:aP) with Files:=IntKind.wrap .i64 (x0.Files+1)}))))))) else some (.go (y0.2.1,y0.2.2.1,y0.2.2.2.1,y0.2.2.2.2,IntKind.wrap .i64 (q4+1)))) else some (.brk (q0,q1,q2,q3,q4))
def nA (m:Nat) (p0:aA) (p1:aR) (x0:aP) (r0:Int) (r1:List aQ) (q0:List aH) (q1:List aB) (q2:Int):Option (Lp ((List aH)×(List aB)×Int) (Lp (Int×fE) (Lp (Int×fE) (Lp (Int×fE) (Int×Int×fE))))):=
 if (decide (q2 < (p1.Items.length:Int)))=true then ((ix p1.Items q2).bind λx1=>after (if (x1.Kind==3)=true then ((ix p1.Items q2).bind λx2=>(C3 m ({ Seq:=r0,Snaps:=q0,Chunks:=q1,Exps:=r1,Vols:=(p0.Vols.set p1.Vol.toNat ({ x0 with State:=2})).set p1.Vol.toNat ({ ({ x0 with State:=2}:aP) with Files:=IntKind.wrap .i64 (x0.Files+1)})}:aA) x2.Of).bind λy0=>some (.brk (y0.2.1,y0.2.2))) else some (.brk (q0,q1)):Option (Lp ((List aH)×(List aB)) (Lp ((List aH)×(List aB)×Int) (Lp (Int×fE) (Lp (Int×fE) (Lp (Int×fE) (Int×Int×fE))))))) λ⟨j0,j1⟩=>some (.go (j0,j1,IntKind.wrap .i64 (q2+1)))) else some (.brk (q0,q1,q2))
def nL (m:Nat) (p0:aA) (p1:aR) (x0:aP) (r0:Int) (r1:List aQ) (r2:List aH) (q0:List aB) (q1:Int):Option (Lp ((List aB)×Int) (Lp ((List aB)) (Lp (Int×fE) (Lp (Int×fE) (Lp (Int×fE) (Int×Int×fE)))))):=
 if (decide (q1 < (p1.Items.length:Int)))=true then ((ix p1.Items q1).bind λx1=>after (if (x1.Kind==1)=true then ((ix p1.Items q1).bind λx2=>(KL m ({ Seq:=r0,Snaps:=r2,Chunks:=q0,Exps:=r1,Vols:=(p0.Vols.set p1.Vol.toNat ({ x0 with State:=2})).set p1.Vol.toNat ({ ({ x0 with State:=2}:aP) with Files:=IntKind.wrap .i64 (x0.Files+1)})}:aA) x2.Id).bind λy0=>after (if (decide (0≤y0))=true then ((ix q0 y0).bind λx3=>(ix (q0.set y0.toNat ({ x3 with Staged:=false})) y0).bind λx4=>some (.brk ((q0.set y0.toNat ({ x3 with Staged:=false})).set y0.toNat ({ x4 with Data:=([]:List Int)})))) else some (.brk q0):Option (Lp ((List aB)) (Lp ((List aB)) (Lp ((List aB)×Int) (Lp ((List aB)) (Lp (Int×fE) (Lp (Int×fE) (Lp (Int×fE) (Int×Int×fE))))))))) λj0=>some (.brk j0)) else some (.brk q0):Option (Lp ((List aB)) (Lp ((List aB)×Int) (Lp ((List aB)) (Lp (Int×fE) (Lp (Int×fE) (Lp (Int×fE) (Int×Int×fE)))))))) λj1=>some (.go (j1,IntKind.wrap .i64 (q1+1)))) else some (.brk (q0,q1))
def tW (m:Nat) (p0:aA) (p1:aR) (q0:List aB) (q1:Int):Option (Lp ((List aB)×Int) (Lp (fE) (Lp (Int×fE) (Lp (Int×fE) (Lp (Int×fE) (Int×Int×fE)))))):=
 if (decide (q1 < (p0.Chunks.length:Int)))=true then ((ix p0.Chunks q1).bind λx0=>(HI m x0.Locs p1.Vol).bind λy0=>after (if ({ x0 with Locs:=y0}.Staged)=true then (some (.brk true)) else some (.brk (decide (0 < (({ x0 with Locs:=y0}.Locs).length:Int)))):Option (Lp (Bool) (Lp ((List aB)×Int) (Lp (fE) (Lp (Int×fE) (Lp (Int×fE) (Lp (Int×fE) (Int×Int×fE)))))))) λj0=>after (if j0=true then ((app q0 ([{ x0 with Locs:=y0}]:List aB)).bind λz0=>some (.brk z0)) else some (.brk q0):Option (Lp ((List aB)) (Lp ((List aB)×Int) (Lp (fE) (Lp (Int×fE) (Lp (Int×fE) (Lp (Int×fE) (Int×Int×fE)))))))) λj1=>some (.go (j1,IntKind.wrap .i64 (q1+1)))) else some (.brk (q0,q1))
def tX (m:Nat) (p1:aR) (q0:List aH) (q1:Int):Option (Lp ((List aH)×Int) (Lp (fE) (Lp (Int×fE) (Lp (Int×fE) (Lp (Int×fE) (Int×Int×fE)))))):=
 if (decide (q1 < (q0.length:Int)))=true then ((ix q0 q1).bind λx0=>(HI m x0.Locs p1.Vol).bind λy0=>(ix q0 q1).bind λx1=>some (.go (q0.set q1.toNat ({ x1 with Locs:=y0}),IntKind.wrap .i64 (q1+1)))) else some (.brk (q0,q1))
def tY (m:Nat) (p0:aA) (p1:aR) (q0:List aQ) (q1:Int):Option (Lp ((List aQ)×Int) (Lp (fE) (Lp (Int×fE) (Lp (Int×fE) (Lp (Int×fE) (Int×Int×fE)))))):=
 if (decide (q1 < (p0.Exps.length:Int)))=true then ((ix p0.Exps q1).bind λx0=>(HI m x0.Locs p1.Vol).bind λy0=>after (if (decide (0 < (({ x0 with Locs:=y0}.Locs).length:Int)))=true then ((app q0 ([{ x0 with Locs:=y0}]:List aQ)).bind λz0=>some (.brk z0)) else some (.brk q0):Option (Lp ((List aQ)) (Lp ((List aQ)×Int) (Lp (fE) (Lp (Int×fE) (Lp (Int×fE) (Lp (Int×fE) (Int×Int×fE)))))))) λj0=>some (.go (j0,IntKind.wrap .i64 (q1+1)))) else some (.brk (q0,q1))
def rS (m:Nat) (p0:aA) (p1:aR):Option (Int×Int×fE):=
 after (if (p1.Kind==1)=true then (after (if (p1.Snap.Seq==p0.Seq)=true then (some (.brk ((p1.Snap.Locs.length:Int)==0))) else some (.brk false):Option (Lp (Bool) (Lp (Int×fE) (Int×Int×fE)))) λj0=>after (aU (λs=>rQ m p1 s.1 s.2) m (j0,0)) λ⟨r0,r1⟩=>if (!r0)=true then (some (.ret (1,p0.Seq,p0.Snaps,p0.Chunks,p0.Exps,p0.Vols))) else (yM m ({ Seq:=p0.Seq,Snaps:=p0.Snaps,Chunks:=p0.Chunks,Exps:=p0.Exps,Vols:=p0.Vols}:aA) p1.Snap.Man.Name).bind λy0=>if (decide (0≤y0))=true then (some (.ret (9,p0.Seq,p0.Snaps,p0.Chunks,p0.Exps,p0.Vols))) else (app p0.Snaps ([p1.Snap]:List aH)).bind λz0=>after (aU (λs=>vS m p1 s.1 s.2) m (p0.Chunks,0)) λ⟨r2,r3⟩=>some (.brk (IntKind.wrap .i64 (p0.Seq+1),z0,r2,p0.Exps,p0.Vols))) else after (if (p1.Kind==2)=true then ((C3 m ({ Seq:=p0.Seq,Snaps:=p0.Snaps,Chunks:=p0.Chunks,Exps:=p0.Exps,Vols:=p0.Vols}:aA) p1.Seq).bind λy1=>if (!y1.1)=true then (some (.ret (.ret (8,p0.Seq,y1.2.1,y1.2.2,p0.Exps,p0.Vols)))) else some (.brk (p0.Seq,y1.2.1,y1.2.2,p0.Exps,p0.Vols))) else after (if (p1.Kind==3)=true then (after ((AE m ({ Seq:=p0.Seq,Snaps:=p0.Snaps,Chunks:=p0.Chunks,Exps:=p0.Exps,Vols:=p0.Vols}:aA) p1.Vol 1 2).bind λy2=>if y2=true then (if (decide (1≤(p1.Items.length:Int)))=true then (some (.brk (decide ((p1.Items.length:Int)≤64)))) else some (.brk false)) else some (.brk false):Option (Lp (Bool) (Lp (Int×fE) (Lp (Int×fE) (Lp (Int×fE) (Int×Int×fE)))))) λj1=>after (aU (λs=>rR m p1 s.1 s.2) m (j1,0)) λ⟨r4,r5⟩=>if (!r4)=true then (some (.ret (.ret (.ret (1,p0.Seq,p0.Snaps,p0.Chunks,p0.Exps,p0.Vols))))) else (ix p0.Vols p1.Vol).bind λx0=>after (aU (λs=>qF m p0 p1 x0 s.1 s.2.1 s.2.2.1 s.2.2.2.1 s.2.2.2.2) m (p0.Seq,p0.Snaps,p0.Chunks,p0.Exps,0)) λ⟨r6,r7,r8,r9,r10⟩=>after (aU (λs=>nA m p0 p1 x0 r6 r9 s.1 s.2.1 s.2.2) m (r7,r8,0)) λ⟨r11,r12,r13⟩=>after (if ((({ ({ x0 with State:=2}:aP) with Files:=IntKind.wrap .i64 (x0.Files+1)}:aP).Pool)==0)=true then (after (aU (λs=>nL m p0 p1 x0 r6 r9 r11 s.1 s.2) m (r12,0)) λ⟨r14,r15⟩=>some (.brk r14)) else some (.brk r12):Option (Lp ((List aB)) (Lp (Int×fE) (Lp (Int×fE) (Lp (Int×fE) (Int×Int×fE)))))) λj2=>some (.brk (r6,r11,j2,r9,(p0.Vols.set p1.Vol.toNat ({ x0 with State:=2})).set p1.Vol.toNat ({ ({ x0 with State:=2}:aP) with Files:=IntKind.wrap .i64 (x0.Files+1)})))) else after (if (p1.Kind==4)=true then ((AE m ({ Seq:=p0.Seq,Snaps:=p0.Snaps,Chunks:=p0.Chunks,Exps:=p0.Exps,Vols:=p0.Vols}:aA) p1.Vol 2 2).bind λy3=>if (!y3)=true then (some (.ret (.ret (.ret (.ret (1,p0.Seq,p0.Snaps,p0.Chunks,p0.Exps,p0.Vols)))))) else (ix p0.Vols p1.Vol).bind λx1=>(ix (p0.Vols.set p1.Vol.toNat ({ x1 with State:=3})) p1.Vol).bind λx2=>after (aU (λs=>tW m p0 p1 s.1 s.2) m ([],0)) λ⟨r16,r17⟩=>after (aU (λs=>tX m p1 s.1 s.2) m (p0.Snaps,0)) λ⟨r18,r19⟩=>after (aU (λs=>tY m p0 p1 s.1 s.2) m ([],0)) λ⟨r20,r21⟩=>some (.brk (r18,r16,r20,(p0.Vols.set p1.Vol.toNat ({ x1 with State:=3})).set p1.Vol.toNat ({ x2 with Files:=0})))) else after (if (p1.Kind==5)=true then ((AE m ({ Seq:=p0.Seq,Snaps:=p0.Snaps,Chunks:=p0.Chunks,Exps:=p0.Exps,Vols:=p0.Vols}:aA) p1.Vol 3 3).bind λy4=>if (!y4)=true then (some (.ret (.ret (.ret (.ret (.ret (1,p0.Seq,p0.Snaps,p0.Chunks,p0.Exps,p0.Vols))))))) else (ix p0.Vols p1.Vol).bind λx3=>(ix p0.Vols p1.Vol).bind λx4=>(ix (p0.Vols.set p1.Vol.toNat ({ x4 with State:=1})) p1.Vol).bind λx5=>some (.brk ((p0.Vols.set p1.Vol.toNat ({ x4 with State:=1})).set p1.Vol.toNat ({ x5 with Epoch:=IntKind.wrap .i64 (x3.Epoch+1)})))) else some (.brk p0.Vols):Option (Lp ((List aP)) (Lp (fE) (Lp (Int×fE) (Lp (Int×fE) (Lp (Int×fE) (Int×Int×fE))))))) λj3=>some (.brk (p0.Snaps,p0.Chunks,p0.Exps,j3)):Option (Lp (fE) (Lp (Int×fE) (Lp (Int×fE) (Lp (Int×fE) (Int×Int×fE)))))) λ⟨j4,j5,j6,j7⟩=>some (.brk (p0.Seq,j4,j5,j6,j7)):Option (Lp (Int×fE) (Lp (Int×fE) (Lp (Int×fE) (Int×Int×fE))))) λ⟨j8,j9,j10,j11,j12⟩=>some (.brk (j8,j9,j10,j11,j12)):Option (Lp (Int×fE) (Lp (Int×fE) (Int×Int×fE)))) λ⟨j13,j14,j15,j16,j17⟩=>some (.brk (j13,j14,j15,j16,j17)):Option (Lp (Int×fE) (Int×Int×fE))) λ⟨j18,j19,j20,j21,j22⟩=>some (0,j18,j19,j20,j21,j22)
theorem W91 {w:Nat} {p0:aA} {p1:aR} {o:Int×Int×fE} (h:aE) {p0K:cB} {gS:cT} (ok_Snaps:bI gS 4 p0.Snaps.length) {gC:cT} (oC:bI gC 35 p0.Chunks.length) {gE:cT} (oE:bI gE 3 p0.Exps.length) {gV:cT} (oV:bI gV 4 p0.Vols.length) (K0:bT h (hC p0K p0 gS gC gE gV)) (m:rS w p0 p1=some o):
 aL Tryz.prog 91 [.ptr p0K 0,.agg (aD p1)] (hp h (hC p0K p0 gS gC gE gV)) (λr h'=>∃g_Snaps':cT,bI g_Snaps' 4 (o.2.2.1:List aH).length∧∃g_Chunks':cT,bI g_Chunks' 35 (o.2.2.2.1:List aB).length∧∃g_Exps':cT,bI g_Exps' 3 (o.2.2.2.2.1:List aQ).length∧∃g_Vols':cT,bI g_Vols' 4 (o.2.2.2.2.2:List aP).length∧bT h (hL p0K o.2.1 g_Snaps' g_Chunks' g_Exps' g_Vols' o.2.2.1 o.2.2.2.1 o.2.2.2.2.1 o.2.2.2.2.2)∧r=nZ o.1∧h'=hp h (hL p0K o.2.1 g_Snaps' g_Chunks' g_Exps' g_Vols' o.2.2.1 o.2.2.2.1 o.2.2.2.2.1 o.2.2.2.2.2)):=by
 refine uE K0 443 [.tmp 4] Tryz.func91 rfl rfl rfl rfl ?_
 unfold rS at m
 refine vs (v0 (gY rfl rfl λk2 K3=>vs (vs (v0 (dN CL rfl rfl (vl 0 _ cF rfl rfl rfl (v0 (vs (v0 (pO m (σ:=Int×fE) (τ:=cT×cT×cT×cT) (λg s=>((some k2,.obj 62 (aD p1))::(hL p0K s.1 g.1 g.2.1 g.2.2.1 g.2.2.2 s.2.1 s.2.2.1 s.2.2.2.1 s.2.2.2.2))) (λg s=>bI g.1 4 (s.2.1:List aH).length∧bI g.2.1 35 (s.2.2.1:List aB).length∧bI g.2.2.1 3 (s.2.2.2.1:List aQ).length∧bI g.2.2.2 4 (s.2.2.2.2:List aP).length) (λg s=>.nil) (λx m=> ?_) ?_))))))))))
 refine v0 ?_
 apply vi m <;> intro c0 m
 refine vs (fN m (σ:=Bool) (λs=>((some k2,.obj 62 (aD p1))::(hC p0K p0 gS gC gE gV))) (λs=>.c 0 (.ptr p0K 0) (.c 3 (.ptr k2 0) (.c 5 (.sc (.bool s)) .nil))) (λx m=> ?_) ?_)
 refine v0 (wY (by kernel_rfl) (dN lE rfl rfl (dN uZ rfl rfl (vl 0 _ cF rfl rfl rfl (jM rfl (dN nS rfl rfl (vl 1 _ cF rfl rfl rfl ?_)))))))
 apply vi m <;> intro b0 m
 rw[b0]
 exact dN lE rfl rfl (dN jT rfl rfl (vl 0 _ eL rfl rfl rfl (dE gO rfl (gU m))))
 rw[b0]
 exact gU m
 rintro _ j0 m
 refine vs (vs (v0 (jY m (σ:=Bool×Int) (λs=>((some k2,.obj 62 (aD p1))::(hC p0K p0 gS gC gE gV))) (λs=>.c 0 (.ptr p0K 0) (.c 3 (.ptr k2 0) (.c 5 (.sc (.bool s.1)) (.c 6 (nZ s.2) .nil)))) (lx (.k4 .nil)) ?_ ?_)))
 rintro _ ⟨q0,q1⟩ x m
 replace m:rQ w p1 q0 q1=some x:=m
 unfold rQ at m
 refine vs (vs (v0 (dN m6 rfl rfl (vl 0 _ eJ rfl rfl rfl (dE iG rfl (v0 ?_))))))
 apply vi m <;> intro c1 m
 refine v0 (vs (v0 (fN m (σ:=Bool) (λs=>((some k2,.obj 62 (aD p1))::(hC p0K p0 gS gC gE gV))) (λs=>.c 0 (.ptr p0K 0) (.c 3 (.ptr k2 0) (.c 5 (.sc (.bool s)) (.c 6 (nZ q1) .nil)))) (λx m=> ?_) ?_)))
 refine v0 ?_
 apply vi m <;> intro b1 m
 rw[b1]
 refine dN m6 rfl rfl (vl 0 _ eJ rfl rfl rfl (vx m fH rfl rfl λx0 _ m=>bU (oM oP rfl rfl) (va (.sc (.bool x0.Staged)) yC rfl rfl ?_)))
 apply vi m <;> intro b2 m
 rw[b2]
 exact dN m6 rfl rfl (vl 0 _ eJ rfl rfl rfl (vx m fH rfl rfl λx1 _ m=>bU (oM iV rfl rfl) (va (.sl none 4 (List.map aN x1.Locs)) eL rfl rfl (dE gO rfl (iE m)))))
 rw[b2]
 exact iE m
 rw[b1]
 exact iE m
 rintro _ j1 m
 exact v0 (iE m)
 exact v0 (wW m)
 rintro _ ⟨r0,r1⟩ m
 refine vs (vs (v0 (v0 ?_)))
 apply vi m <;> intro c2 m
 refine vs (v0 (v0 (gM m λm=> ?_)))
 cases m
 exact vr λu=>dW.of1 (.inl rfl) (fT _ _ (.sc (.int _ _)) rfl) (bE u [1,2,3,4,5] rfl).2 (bF.refl _ _) ⟨gS,ok_Snaps,gC,oC,gE,oE,gV,oV,(bE u [1,2,3,4,5] rfl).1,rfl,rfl⟩
 refine v0 (vs (vs (v0 (wY (by kernel_rfl) (jM rfl (vl 1 (.agg ([nZ p0.Seq,aZ gS,aZ gC,aZ gE,aZ gV])) fC rfl rfl rfl (dN lE rfl rfl (dN oQ rfl rfl (dN LU rfl rfl (vl 0 _ zU rfl rfl rfl ?_))))))))))
 obtain⟨_,Y0,m⟩:=aC m
 refine vn (λu=>bY (fG (.cons (Br.agg (.cons (Br.refl _ _) (.cons (Br.aw 2 eI ok_Snaps u rfl) (.cons (Br.aw 3 cO oC u rfl) (.cons (Br.aw 4 fL oE u rfl) (.cons (Br.aw 5 dY oV u rfl) .nil)))))) (.cons (Br.refl _ _) .nil)) rfl (TX _ Y0)) rfl MI rfl) (v0 ?_)
 apply vi m <;> intro c3 m
 refine vs (v0 (v0 (gM m λm=> ?_)))
 cases m
 exact vr λu=>dW.of1 (.inl rfl) (fT _ _ (.sc (.int _ _)) rfl) (bE u [1,2,3,4,5] rfl).2 (bF.refl _ _) ⟨gS,ok_Snaps,gC,oC,gE,oE,gV,oV,(bE u [1,2,3,4,5] rfl).1,rfl,rfl⟩
 refine v0 (vs (v0 (jM rfl (dN nS rfl rfl (vl 1 _ cF rfl rfl rfl (jM rfl (dN nS rfl rfl (ve λu=>aK 1 ([nZ (IntKind.wrap .i64 (p0.Seq+1)),aZ gS,aZ gC,aZ gE,aZ gV]) u rfl rfl rfl rfl zT rfl rfl λK1=>qk K1 rfl (vs (v0 (vz [(11,some p0K,.obj 30 ([nZ (IntKind.wrap .i64 (p0.Seq+1)),aZ gS,aZ gC,aZ gE,aZ gV])),(1000000,some k2,.obj 62 (aD p1))] mixed (λu=>⟨λ_=>aJ 1 u rfl,λ_=>aJ 0 u rfl,trivial⟩) λu=>zP 0 rfl rfl (zP 1 rfl rfl (zN 2 rfl rfl (zF 3 rfl dV rfl (zL 4 0 (aZ gS) rfl fM rfl rfl rfl (zF 5 rfl lE rfl (zL 6 1 (.agg (bS p1.Snap)) rfl uY rfl rfl rfl (zC 7 rfl (eK (List.map bS ([p1.Snap]:List aH)) wN rfl rfl rfl rfl) ?_))))))))))))))))))
 obtain⟨z0,Z0,m⟩:=aC m
 refine zE 8 rfl (gD (c:=bS) 2 Z0 wN rfl u0 rfl eI rfl rfl ok_Snaps u rfl λag0 O0 K2=>⟨⟨λ_=>aJ 1 K2 rfl,λ_=>aJ 0 K2 rfl,trivial⟩, ?_⟩)
 refine zN 9 rfl rfl (zF 10 rfl dV rfl (zE 11 rfl (aK 1 ([nZ (IntKind.wrap .i64 (p0.Seq+1)),aZ ag0,aZ gC,aZ gE,aZ gV]) K2 rfl rfl (bZ rfl) (cD (bW _ _ _) rfl) GI rfl rfl λK4=>⟨⟨λe=>absurd e (by decide),λ_=>aJ 0 K4 rfl,trivial⟩, ?_⟩)))
 refine zX (qk (f:=S5 95 _ _ _ _ _ _ _ _ _ _ _ _) K4 rfl (vs (v0 (nR m (σ:=(List aB)×Int) (τ:=cT) (λg s=>((some k2,.obj 62 (aD p1))::(hL p0K (IntKind.wrap .i64 (p0.Seq+1)) ag0 g gE gV z0 s.1 p0.Exps p0.Vols))) (λg s=>bI g 35 (s.1:List aB).length) (λg s=>.c 0 (.ptr p0K 0) (.c 3 (.ptr k2 0) (.c 7 (nZ s.2) .nil))) gC oC (lx (.k3 .nil)) ?_ ?_))))
 rintro ag1 ⟨q2,q3⟩ x O1 m
 replace m:vS w p1 q2 q3=some x:=m
 unfold vS at m
 refine vs (vs (v0 (dN m6 rfl rfl (vl 0 _ eJ rfl rfl rfl (dE iG rfl (v0 ?_))))))
 apply vi m <;> intro c4 m
 refine v0 (vs (v0 (v0 (vz [(13,some p0K,.obj 30 ([nZ (IntKind.wrap .i64 (p0.Seq+1)),aZ ag0,aZ ag1,aZ gE,aZ gV])),(1000000,some k2,.obj 62 (aD p1))] mixed (λu=>⟨λ_=>aJ 1 u rfl,λ_=>aJ 0 u rfl,trivial⟩) λu=>zP 0 rfl rfl (zP 1 rfl rfl (zN 2 rfl rfl (zF 3 rfl dR rfl (zL 4 0 (aZ ag1) rfl eJ rfl rfl rfl (zF 5 rfl m6 rfl (zL 6 1 (.sl none 35 (List.map aI p1.Chunks)) rfl eJ rfl rfl rfl (zI 7 rfl rfl ?_)))))))))))
 obtain⟨x2,X0,m⟩:=aC m
 refine zC 8 rfl (nO X0 fH rfl rfl) (zC 9 rfl (nX (.agg (aI x2)) kQ rfl rfl) ?_)
 obtain⟨_,Y1,m⟩:=aC m
 refine zE 10 rfl (xY (s:=107) (.sl none 35 (List.map aI q2)) (aT (.cons_cons _ (.cons_cons _ (.cons_cons _ (.cons _ (.refl _))))) u).1 (Fz.aw 3 cO O1 u rfl (.refl _)) (cK (aAU _ Y1) rfl aAV rfl ?_))
 rintro x h' ⟨ag2,O2,K5,rfl,rfl⟩
 rw[iS]
 refine⟨⟨λ_=>aJ 2 (bT.co ((aT (.cons_cons _ (.cons_cons _ (.cons_cons _ (.cons _ (.refl _))))) u).2) K5) rfl,λ_=>aJ 1 (bT.co ((aT (.cons_cons _ (.cons_cons _ (.cons_cons _ (.cons _ (.refl _))))) u).2) K5) rfl,trivial⟩, ?_⟩
 refine zN 11 rfl rfl (zF 12 rfl dR rfl (zE 13 rfl (aK 2 ([nZ (IntKind.wrap .i64 (p0.Seq+1)),aZ ag0,aZ ag2,aZ gE,aZ gV]) (bT.co ((aT (.cons_cons _ (.cons_cons _ (.cons_cons _ (.cons _ (.refl _))))) u).2) K5) rfl rfl (bZ rfl) (cD (bW _ _ _) rfl) zY rfl rfl λK6=>⟨⟨λe=>absurd e (by decide),λ_=>aJ 1 K6 rfl,trivial⟩, ?_⟩)))
 exact zX (qk (f:=S6 115 _ _ _ _ _ _ _ _ _ _ _ _ _ _) K6 rfl (v0 (eW m ag2 O2 (lW [1,2,3,0,4,5] rfl rfl (.k3 .nil)))))
 exact v0 (lM m ag1 O1 (lx (.k3 .nil)))
 rintro ag3 ⟨r2,r3⟩ t0 m
 exact eW m (ag0,ag3,gE,gV) ⟨O0,t0,oE,oV⟩ (lx .nil)
 refine vs (v0 (pO m (σ:=Int×fE) (τ:=cT×cT×cT×cT) (λg s=>((some k2,.obj 62 (aD p1))::(hL p0K s.1 g.1 g.2.1 g.2.2.1 g.2.2.2 s.2.1 s.2.2.1 s.2.2.2.1 s.2.2.2.2))) (λg s=>bI g.1 4 (s.2.1:List aH).length∧bI g.2.1 35 (s.2.2.1:List aB).length∧bI g.2.2.1 3 (s.2.2.2.1:List aQ).length∧bI g.2.2.2 4 (s.2.2.2.2:List aP).length) (λg s=>.nil) (λx m=> ?_) ?_))
 refine v0 ?_
 apply vi m <;> intro c5 m
 refine vs (v0 (dN TG rfl rfl (vl 0 _ cF rfl rfl rfl ?_)))
 obtain⟨y0,Y2,m⟩:=aC m
 refine ve λu=>dB ((bC u [1,2,3,4,5,0] rfl rfl).1.trans (cV h (hC p0K p0 gS gC gE gV) [(some k2,.obj 62 (aD p1))]).symm) (cK (aAW (hp h [(some k2,.obj 62 (aD p1))]) ok_Snaps oC oE oV (cJ (hC p0K p0 gS gC gE gV) [(some k2,.obj 62 (aD p1))] (bC u [1,2,3,4,5,0] rfl rfl).2).2 Y2) rfl SF rfl ?_)
 rintro x h' ⟨ag4,O3,ag5,O4,K7,rfl,rfl⟩
 have K8:=bC (L':=((some k2,.obj 62 (aD p1))::(hL p0K p0.Seq ag4 ag5 gE gV y0.2.1 y0.2.2 p0.Exps p0.Vols))) (dI (cJ (hC p0K p0 gS gC gE gV) [(some k2,.obj 62 (aD p1))] (bC u [1,2,3,4,5,0] rfl rfl).2).1 K7) [5,0,1,2,3,4] rfl rfl
 refine qk K8.2 ((cV h (hL p0K p0.Seq ag4 ag5 gE gV y0.2.1 y0.2.2 p0.Exps p0.Vols) [(some k2,.obj 62 (aD p1))]).trans K8.1) (v0 ?_)
 apply vi m <;> intro c6 m
 refine vs (v0 (v0 (gM m λm=>gM m λm=> ?_)))
 cases m
 exact vr λu=>dW.of1 (.inl rfl) (fT _ _ (.sc (.int _ _)) rfl) (bE u [1,2,3,4,5] rfl).2 (bF.refl _ _) ⟨ag4,O3,ag5,O4,gE,oE,gV,oV,(bE u [1,2,3,4,5] rfl).1,rfl,rfl⟩
 exact v0 (eW m (ag4,ag5,gE,gV) ⟨O3,O4,oE,oV⟩ (lx .nil))
 refine vs (v0 (pO m (σ:=Int×fE) (τ:=cT×cT×cT×cT) (λg s=>((some k2,.obj 62 (aD p1))::(hL p0K s.1 g.1 g.2.1 g.2.2.1 g.2.2.2 s.2.1 s.2.2.1 s.2.2.2.1 s.2.2.2.2))) (λg s=>bI g.1 4 (s.2.1:List aH).length∧bI g.2.1 35 (s.2.2.1:List aB).length∧bI g.2.2.1 3 (s.2.2.2.1:List aQ).length∧bI g.2.2.2 4 (s.2.2.2.2:List aP).length) (λg s=>.nil) (λx m=> ?_) ?_))
 refine v0 ?_
 apply vi m <;> intro c7 m
 refine vs (fN m (σ:=Bool) (λs=>((some k2,.obj 62 (aD p1))::(hC p0K p0 gS gC gE gV))) (λs=>.c 0 (.ptr p0K 0) (.c 3 (.ptr k2 0) (.c 8 (.sc (.bool s)) .nil))) (λx m=> ?_) ?_)
 refine v0 (dN fI rfl rfl (vl 0 _ cF rfl rfl rfl ?_))
 obtain⟨_,Y3,m⟩:=aC m
 refine ve λu=>dB ((bC u [1,2,3,4,5,0] rfl rfl).1.trans (cV h (hC p0K p0 gS gC gE gV) [(some k2,.obj 62 (aD p1))]).symm) (cK (U1 (hp h [(some k2,.obj 62 (aD p1))]) ok_Snaps oC oE oV (cJ (hC p0K p0 gS gC gE gV) [(some k2,.obj 62 (aD p1))] (bC u [1,2,3,4,5,0] rfl rfl).2).2 Y3) rfl NN rfl ?_)
 rintro x h' ⟨K9,rfl,rfl⟩
 have K10:=bC (L':=((some k2,.obj 62 (aD p1))::(hC p0K p0 gS gC gE gV))) (dI (cJ (hC p0K p0 gS gC gE gV) [(some k2,.obj 62 (aD p1))] (bC u [1,2,3,4,5,0] rfl rfl).2).1 K9) [5,0,1,2,3,4] rfl rfl
 refine qk K10.2 ((cV h (hC p0K p0 gS gC gE gV) [(some k2,.obj 62 (aD p1))]).trans K10.1) ?_
 apply vi m <;> intro b3 m
 rw[b3]
 refine dN gR rfl rfl (vl 0 _ lC rfl rfl rfl (dE pI rfl ?_))
 apply vi m <;> intro b4 m
 rw[b4]
 exact dN gR rfl rfl (vl 0 _ lC rfl rfl rfl (dE pI rfl (gU m)))
 rw[b4]
 exact gU m
 rw[b3]
 exact gU m
 rintro _ j2 m
 refine vs (vs (v0 (jY m (σ:=Bool×Int) (λs=>((some k2,.obj 62 (aD p1))::(hC p0K p0 gS gC gE gV))) (λs=>.c 0 (.ptr p0K 0) (.c 3 (.ptr k2 0) (.c 8 (.sc (.bool s.1)) (.c 9 (nZ s.2) .nil)))) (lx (.k4 .nil)) ?_ ?_)))
 rintro _ ⟨q4,q5⟩ x m
 replace m:rR w p1 q4 q5=some x:=m
 unfold rR at m
 refine vs (vs (v0 (dN gR rfl rfl (vl 0 _ lC rfl rfl rfl (dE pI rfl (v0 ?_))))))
 apply vi m <;> intro c8 m
 refine v0 (vs (v0 (fN m (σ:=Bool) (λs=>((some k2,.obj 62 (aD p1))::(hC p0K p0 gS gC gE gV))) (λs=>.c 0 (.ptr p0K 0) (.c 3 (.ptr k2 0) (.c 8 (.sc (.bool s)) (.c 9 (nZ q5) .nil)))) (λx m=> ?_) ?_)))
 refine v0 ?_
 apply vi m <;> intro b5 m
 rw[b5]
 refine dN gR rfl rfl (vl 0 _ lC rfl rfl rfl (vx m wO rfl rfl λx3 _ m=>bU (oM l4 rfl rfl) (va (nZ x3.Kind) cF rfl rfl ?_)))
 apply vi m <;> intro b6 m
 rw[b6]
 exact dN gR rfl rfl (vl 0 _ lC rfl rfl rfl (vx m wO rfl rfl λx4 _ m=>bU (oM l4 rfl rfl) (va (nZ x4.Kind) cF rfl rfl (iE m))))
 rw[b6]
 exact iE m
 rw[b5]
 exact iE m
 rintro _ j3 m
 exact v0 (iE m)
 exact v0 (wW m)
 rintro _ ⟨r4,r5⟩ m
 refine vs (vs (v0 (v0 ?_)))
 apply vi m <;> intro c9 m
 refine vs (v0 (v0 (gM m λm=>gM m λm=>gM m λm=> ?_)))
 cases m
 exact vr λu=>dW.of1 (.inl rfl) (fT _ _ (.sc (.int _ _)) rfl) (bE u [1,2,3,4,5] rfl).2 (bF.refl _ _) ⟨gS,ok_Snaps,gC,oC,gE,oE,gV,oV,(bE u [1,2,3,4,5] rfl).1,rfl,rfl⟩
 refine v0 (vs (v0 (wY (by kernel_rfl) (jM rfl (dN fQ rfl rfl (vl 1 (aZ gV) gH rfl rfl rfl (dN fI rfl rfl (vl 0 _ cF rfl rfl rfl ?_))))))))
 obtain⟨x5,X1,m⟩:=aC m
 refine bU (cM X1 jN oV rfl rfl) (vs (v0 (bU (iT (bI.ne oV X1) rfl) (bU (cU (bI.ne oV X1) pY rfl rfl) (vn (λu=>dX (fo:=3) (nZ x5.Files) X1 dY oV cF rfl (aJ 5 u rfl) (λ_=>rfl)) (bU (iT (bI.ne oV X1) rfl) (bU (cU (bI.ne oV X1) m5 rfl rfl) (ve λu=>cI (fo:=2) ({ x5 with State:=2}:aP) 5 u X1 dY oV rfl rfl rfl rfl (cW.refl _ _) zT rfl rfl λK11=>qk K11 rfl (bU (iT (bI.ne (bI.set oV) (dG (x':=({ x5 with State:=2}:aP)) X1)) rfl) (bU (cU (bI.ne (bI.set oV) (dG (x':=({ x5 with State:=2}:aP)) X1)) pY rfl rfl) (ve λu=>cI (fo:=3) ({ ({ x5 with State:=2}:aP) with Files:=IntKind.wrap .i64 (x5.Files+1)}:aP) 5 u (dG (x':=({ x5 with State:=2}:aP)) X1) dY (bI.set oV) rfl rfl rfl rfl (cW.refl _ _) zT rfl rfl λK12=>qk K12 rfl (vs (vs (v0 (nR m (σ:=Int×(List aH)×(List aB)×(List aQ)×Int) (τ:=cT×cT×cT) (λg s=>((some k2,.obj 62 (aD p1))::(hL p0K s.1 g.1 g.2.1 g.2.2 gV s.2.1 s.2.2.1 s.2.2.2.1 ((p0.Vols.set p1.Vol.toNat ({ x5 with State:=2})).set p1.Vol.toNat ({ ({ x5 with State:=2}:aP) with Files:=IntKind.wrap .i64 (x5.Files+1)}))))) (λg s=>bI g.1 4 (s.2.1:List aH).length∧bI g.2.1 35 (s.2.2.1:List aB).length∧bI g.2.2 3 (s.2.2.2.1:List aQ).length) (λg s=>.c 0 (.ptr p0K 0) (.c 3 (.ptr k2 0) (.c 10 (wK gV.t (p1.Vol.toNat*4+0)) (.c 11 (nZ s.2.2.2.2) .nil)))) (gS,gC,gE) (⟨ok_Snaps,oC,oE⟩) (lx (.k4 .nil)) ?_ ?_)))))))))))))))
 rintro⟨ag6,ag7,ag8⟩ ⟨q6,q7,q8,q9,q10⟩ x ⟨O5,O6,O7⟩ m
 replace m:qF w p0 p1 x5 q6 q7 q8 q9 q10=some x:=m
 unfold qF at m
 refine vs (vs (v0 (dN gR rfl rfl (vl 0 _ lC rfl rfl rfl (dE pI rfl (v0 ?_))))))
 apply vi m <;> intro c10 m
 refine v0 (vs (v0 (vs (v0 (vz [(1000000,some k2,.obj 62 (aD p1)),(1000000,gV.t,.obj 49 (fl dC ((p0.Vols.set p1.Vol.toNat ({ x5 with State:=2})).set p1.Vol.toNat ({ ({ x5 with State:=2}:aP) with Files:=IntKind.wrap .i64 (x5.Files+1)}):List aP) gV.sp))] mixed (λu=>⟨λ_=>aJ 0 u rfl,λ_=>aJ 5 u rfl,trivial⟩) λu=>zP 0 rfl rfl (zF 1 rfl gR rfl (zL 2 0 (.sl none 37 (List.map aY p1.Items)) rfl lC rfl rfl rfl (zI 3 rfl rfl ?_))))))))
 obtain⟨x6,X2,m⟩:=aC m
 refine zC 4 rfl (nO X2 wO rfl rfl) (zC 5 rfl (nX (.agg (aY x6)) GK rfl rfl) (zF 6 rfl fI rfl (zL 7 0 (nZ p1.Vol) rfl cF rfl rfl rfl (zC 8 rfl (eY (wK _ _) rfl) (zC 9 rfl (iT (bI.ne (bI.set (bI.set oV)) (dG (x':=({ ({ x5 with State:=2}:aP) with Files:=IntKind.wrap .i64 (x5.Files+1)}:aP)) (dG (x':=({ x5 with State:=2}:aP)) X1))) rfl) (zC 10 rfl (cU (bI.ne (bI.set (bI.set oV)) (dG (x':=({ ({ x5 with State:=2}:aP) with Files:=IntKind.wrap .i64 (x5.Files+1)}:aP)) (dG (x':=({ x5 with State:=2}:aP)) X1))) pY rfl rfl) (wL 11 rfl (λ_ _ hi hB=>dX (fo:=3) (nZ (({ ({ x5 with State:=2}:aP) with Files:=IntKind.wrap .i64 (x5.Files+1)}:aP).Files)) (dG (x':=({ ({ x5 with State:=2}:aP) with Files:=IntKind.wrap .i64 (x5.Files+1)}:aP)) (dG (x':=({ x5 with State:=2}:aP)) X1)) dY (bI.set (bI.set oV)) cF rfl (fV.get 1 hi rfl (hB 1000000 (by kernel_rfl))) (λ_=>rfl)) (zF 12 rfl gR rfl (zL 13 0 (.sl none 37 (List.map aY p1.Items)) rfl lC rfl rfl rfl (zI 14 rfl rfl ?_))))))))))
 obtain⟨x7,X3,m⟩:=aC m
 refine zC 15 rfl (nO X3 wO rfl rfl) (zC 16 rfl (oM GL rfl rfl) (zC 17 rfl (nX (nZ x7.Off) cF rfl rfl) (zF 18 rfl gR rfl (zL 19 0 (.sl none 37 (List.map aY p1.Items)) rfl lC rfl rfl rfl (zI 20 rfl rfl ?_)))))
 obtain⟨x8,X4,m⟩:=aC m
 refine zC 21 rfl (nO X4 wO rfl rfl) (zC 22 rfl (oM GM rfl rfl) (zC 23 rfl (nX (nZ x8.Len) cF rfl rfl) (zC 24 rfl (eS (aN ({ Vol:=p1.Vol,File:=({ ({ x5 with State:=2}:aP) with Files:=IntKind.wrap .i64 (x5.Files+1)}:aP).Files,Off:=x7.Off,Len:=x8.Len}:a8)) JV rfl) ?_)))
 obtain⟨y1,Y4,m⟩:=aC m
 refine zE 25 rfl (dB ((bC u [1,2,3,4,5,0] rfl rfl).1.trans (cV h (hL p0K q6 ag6 ag7 ag8 gV q7 q8 q9 ((p0.Vols.set p1.Vol.toNat ({ x5 with State:=2})).set p1.Vol.toNat ({ ({ x5 with State:=2}:aP) with Files:=IntKind.wrap .i64 (x5.Files+1)}))) [(some k2,.obj 62 (aD p1))]).symm) (cK (aF3 (hp h [(some k2,.obj 62 (aD p1))]) O5 O6 O7 (bI.set (bI.set oV)) (cJ (hL p0K q6 ag6 ag7 ag8 gV q7 q8 q9 ((p0.Vols.set p1.Vol.toNat ({ x5 with State:=2})).set p1.Vol.toNat ({ ({ x5 with State:=2}:aP) with Files:=IntKind.wrap .i64 (x5.Files+1)}))) [(some k2,.obj 62 (aD p1))] (bC u [1,2,3,4,5,0] rfl rfl).2).2 Y4) rfl aAX rfl ?_))
 rintro x h' ⟨ag9,O8,ag10,O9,ag11,O10,K13,rfl,rfl⟩
 have K14:=bC (L':=((some k2,.obj 62 (aD p1))::(hL p0K y1.2.1 ag9 ag10 ag11 gV y1.2.2.1 y1.2.2.2.1 y1.2.2.2.2 ((p0.Vols.set p1.Vol.toNat ({ x5 with State:=2})).set p1.Vol.toNat ({ ({ x5 with State:=2}:aP) with Files:=IntKind.wrap .i64 (x5.Files+1)}))))) (dI (cJ (hL p0K q6 ag6 ag7 ag8 gV q7 q8 q9 ((p0.Vols.set p1.Vol.toNat ({ x5 with State:=2})).set p1.Vol.toNat ({ ({ x5 with State:=2}:aP) with Files:=IntKind.wrap .i64 (x5.Files+1)}))) [(some k2,.obj 62 (aD p1))] (bC u [1,2,3,4,5,0] rfl rfl).2).1 K13) [5,0,1,2,3,4] rfl rfl
 refine kW ((cV h (hL p0K y1.2.1 ag9 ag10 ag11 gV y1.2.2.1 y1.2.2.2.1 y1.2.2.2.2 ((p0.Vols.set p1.Vol.toNat ({ x5 with State:=2})).set p1.Vol.toNat ({ ({ x5 with State:=2}:aP) with Files:=IntKind.wrap .i64 (x5.Files+1)}))) [(some k2,.obj 62 (aD p1))]).trans K14.1) (⟨⟨λ_=>aJ 0 K14.2 rfl,λ_=>aJ 5 K14.2 rfl,trivial⟩, ?_⟩)
 refine zC 26 rfl (WM rfl) (zX (qk (f:=aCV 220 _ _ _ _ _ _ _ _ _ _ _ _ _ _ _ _ _ _ _ _ _ _ _ _ _ _ _ _) K14.2 rfl (v0 ?_)))
 apply vi m <;> intro c11 m
 refine vs (v0 (v0 (gM m λm=>gM m λm=>gM m λm=>gM m λm=> ?_)))
 cases m
 exact vr λu=>dW.of1 (.inl rfl) (fT _ _ (.sc (.int _ _)) rfl) (bE u [1,2,3,4,5] rfl).2 (bF.refl _ _) ⟨ag9,O8,ag10,O9,ag11,O10,gV,(bI.set (bI.set oV)),(bE u [1,2,3,4,5] rfl).1,rfl,rfl⟩
 exact v0 (v0 (eW m (ag9,ag10,ag11) ⟨O8,O9,O10⟩ (lx (.k4 .nil))))
 exact v0 (lM m (ag6,ag7,ag8) ⟨O5,O6,O7⟩ (lx (.k4 .nil)))
 rintro⟨ag12,ag13,ag14⟩ ⟨r6,r7,r8,r9,r10⟩ ⟨t1,t2,t3⟩ m
 refine vs (vs (v0 (nR m (σ:=(List aH)×(List aB)×Int) (τ:=cT×cT) (λg s=>((some k2,.obj 62 (aD p1))::(hL p0K r6 g.1 g.2 ag14 gV s.1 s.2.1 r9 ((p0.Vols.set p1.Vol.toNat ({ x5 with State:=2})).set p1.Vol.toNat ({ ({ x5 with State:=2}:aP) with Files:=IntKind.wrap .i64 (x5.Files+1)}))))) (λg s=>bI g.1 4 (s.1:List aH).length∧bI g.2 35 (s.2.1:List aB).length) (λg s=>.c 0 (.ptr p0K 0) (.c 3 (.ptr k2 0) (.c 10 (wK gV.t (p1.Vol.toNat*4+0)) (.c 12 (nZ s.2.2) .nil)))) (ag12,ag13) (⟨t1,t2⟩) (lx (.k4 .nil)) ?_ ?_)))
 rintro⟨ag15,ag16⟩ ⟨q11,q12,q13⟩ x ⟨O11,O12⟩ m
 replace m:nA w p0 p1 x5 r6 r9 q11 q12 q13=some x:=m
 unfold nA at m
 refine vs (vs (v0 (dN gR rfl rfl (vl 0 _ lC rfl rfl rfl (dE pI rfl (v0 ?_))))))
 apply vi m <;> intro c12 m
 refine v0 (vs (v0 (vs (v0 (dN gR rfl rfl (vl 0 _ lC rfl rfl rfl (vx m wO rfl rfl λx9 _ m=>bU (oM l4 rfl rfl) (va (nZ x9.Kind) cF rfl rfl (pO m (σ:=(List aH)×(List aB)) (τ:=cT×cT) (λg s=>((some k2,.obj 62 (aD p1))::(hL p0K r6 g.1 g.2 ag14 gV s.1 s.2 r9 ((p0.Vols.set p1.Vol.toNat ({ x5 with State:=2})).set p1.Vol.toNat ({ ({ x5 with State:=2}:aP) with Files:=IntKind.wrap .i64 (x5.Files+1)}))))) (λg s=>bI g.1 4 (s.1:List aH).length∧bI g.2 35 (s.2:List aB).length) (λg s=>.c 0 (.ptr p0K 0) (.c 3 (.ptr k2 0) (.c 10 (wK gV.t (p1.Vol.toNat*4+0)) (.c 12 (nZ q13) .nil)))) (λx m=> ?_) ?_)))))))))
 refine v0 ?_
 apply vi m <;> intro c13 m
 refine v0 (dN gR rfl rfl (vl 0 _ lC rfl rfl rfl (vx m wO rfl rfl λx10 _ m=>bU (oM uW rfl rfl) (va (nZ x10.Of) cF rfl rfl ?_))))
 obtain⟨y2,Y5,m⟩:=aC m
 refine ve λu=>dB ((bC u [1,2,3,4,5,0] rfl rfl).1.trans (cV h (hL p0K r6 ag15 ag16 ag14 gV q11 q12 r9 ((p0.Vols.set p1.Vol.toNat ({ x5 with State:=2})).set p1.Vol.toNat ({ ({ x5 with State:=2}:aP) with Files:=IntKind.wrap .i64 (x5.Files+1)}))) [(some k2,.obj 62 (aD p1))]).symm) (cK (aAW (hp h [(some k2,.obj 62 (aD p1))]) O11 O12 t3 (bI.set (bI.set oV)) (cJ (hL p0K r6 ag15 ag16 ag14 gV q11 q12 r9 ((p0.Vols.set p1.Vol.toNat ({ x5 with State:=2})).set p1.Vol.toNat ({ ({ x5 with State:=2}:aP) with Files:=IntKind.wrap .i64 (x5.Files+1)}))) [(some k2,.obj 62 (aD p1))] (bC u [1,2,3,4,5,0] rfl rfl).2).2 Y5) rfl SF rfl ?_)
 rintro x h' ⟨ag17,O13,ag18,O14,K15,rfl,rfl⟩
 have K16:=bC (L':=((some k2,.obj 62 (aD p1))::(hL p0K r6 ag17 ag18 ag14 gV y2.2.1 y2.2.2 r9 ((p0.Vols.set p1.Vol.toNat ({ x5 with State:=2})).set p1.Vol.toNat ({ ({ x5 with State:=2}:aP) with Files:=IntKind.wrap .i64 (x5.Files+1)}))))) (dI (cJ (hL p0K r6 ag15 ag16 ag14 gV q11 q12 r9 ((p0.Vols.set p1.Vol.toNat ({ x5 with State:=2})).set p1.Vol.toNat ({ ({ x5 with State:=2}:aP) with Files:=IntKind.wrap .i64 (x5.Files+1)}))) [(some k2,.obj 62 (aD p1))] (bC u [1,2,3,4,5,0] rfl rfl).2).1 K15) [5,0,1,2,3,4] rfl rfl
 exact qk K16.2 ((cV h (hL p0K r6 ag17 ag18 ag14 gV y2.2.1 y2.2.2 r9 ((p0.Vols.set p1.Vol.toNat ({ x5 with State:=2})).set p1.Vol.toNat ({ ({ x5 with State:=2}:aP) with Files:=IntKind.wrap .i64 (x5.Files+1)}))) [(some k2,.obj 62 (aD p1))]).trans K16.1) (eW m (ag17,ag18) ⟨O13,O14⟩ (lx (.k4 .nil)))
 exact v0 (eW m (ag15,ag16) ⟨O11,O12⟩ (lx (.k4 .nil)))
 rintro⟨ag19,ag20⟩ ⟨j4,j5⟩ ⟨O15,O16⟩ m
 exact v0 (eW m (ag19,ag20) ⟨O15,O16⟩ (lx (.k4 .nil)))
 exact v0 (lM m (ag15,ag16) ⟨O11,O12⟩ (lx (.k4 .nil)))
 rintro⟨ag21,ag22⟩ ⟨r11,r12,r13⟩ ⟨t4,t5⟩ m
 refine vs (v0 (bU (iT (bI.ne (bI.set (bI.set oV)) (dG (x':=({ ({ x5 with State:=2}:aP) with Files:=IntKind.wrap .i64 (x5.Files+1)}:aP)) (dG (x':=({ x5 with State:=2}:aP)) X1))) rfl) (bU (cU (bI.ne (bI.set (bI.set oV)) (dG (x':=({ ({ x5 with State:=2}:aP) with Files:=IntKind.wrap .i64 (x5.Files+1)}:aP)) (dG (x':=({ x5 with State:=2}:aP)) X1))) LT rfl rfl) (vn (λu=>dX (fo:=0) (nZ (({ ({ x5 with State:=2}:aP) with Files:=IntKind.wrap .i64 (x5.Files+1)}:aP).Pool)) (dG (x':=({ ({ x5 with State:=2}:aP) with Files:=IntKind.wrap .i64 (x5.Files+1)}:aP)) (dG (x':=({ x5 with State:=2}:aP)) X1)) dY (bI.set (bI.set oV)) cF rfl (aJ 5 u rfl) (λ_=>rfl)) (pO m (σ:=(List aB)) (τ:=cT) (λg s=>((some k2,.obj 62 (aD p1))::(hL p0K r6 ag21 g ag14 gV r11 s r9 ((p0.Vols.set p1.Vol.toNat ({ x5 with State:=2})).set p1.Vol.toNat ({ ({ x5 with State:=2}:aP) with Files:=IntKind.wrap .i64 (x5.Files+1)}))))) (λg s=>bI g 35 (s:List aB).length) (λg s=>.nil) (λx m=> ?_) ?_)))))
 refine v0 ?_
 apply vi m <;> intro c14 m
 refine vs (v0 (nR m (σ:=(List aB)×Int) (τ:=cT) (λg s=>((some k2,.obj 62 (aD p1))::(hL p0K r6 ag21 g ag14 gV r11 s.1 r9 ((p0.Vols.set p1.Vol.toNat ({ x5 with State:=2})).set p1.Vol.toNat ({ ({ x5 with State:=2}:aP) with Files:=IntKind.wrap .i64 (x5.Files+1)}))))) (λg s=>bI g 35 (s.1:List aB).length) (λg s=>.c 0 (.ptr p0K 0) (.c 3 (.ptr k2 0) (.c 13 (nZ s.2) .nil))) ag22 t5 (lx (.k3 .nil)) ?_ ?_))
 rintro ag23 ⟨q14,q15⟩ x O17 m
 replace m:nL w p0 p1 x5 r6 r9 r11 q14 q15=some x:=m
 unfold nL at m
 refine vs (vs (v0 (dN gR rfl rfl (vl 0 _ lC rfl rfl rfl (dE pI rfl (v0 ?_))))))
 apply vi m <;> intro c15 m
 refine v0 (vs (v0 (vs (v0 (dN gR rfl rfl (vl 0 _ lC rfl rfl rfl (vx m wO rfl rfl λx11 _ m=>bU (oM l4 rfl rfl) (va (nZ x11.Kind) cF rfl rfl (pO m (σ:=(List aB)) (τ:=cT) (λg s=>((some k2,.obj 62 (aD p1))::(hL p0K r6 ag21 g ag14 gV r11 s r9 ((p0.Vols.set p1.Vol.toNat ({ x5 with State:=2})).set p1.Vol.toNat ({ ({ x5 with State:=2}:aP) with Files:=IntKind.wrap .i64 (x5.Files+1)}))))) (λg s=>bI g 35 (s:List aB).length) (λg s=>.c 0 (.ptr p0K 0) (.c 3 (.ptr k2 0) (.c 13 (nZ q15) .nil))) (λx m=> ?_) ?_)))))))))
 refine v0 ?_
 apply vi m <;> intro c16 m
 refine vs (v0 (wY (by kernel_rfl) (jM rfl (vl 1 (.agg ([nZ r6,aZ ag21,aZ ag23,aZ ag14,aZ gV])) fC rfl rfl rfl (dN gR rfl rfl (vl 0 _ lC rfl rfl rfl (vx m wO rfl rfl λx12 _ m=>bU (oM uV rfl rfl) (va (.agg (bL x12.Id)) fW rfl rfl ?_))))))))
 obtain⟨_,Y6,m⟩:=aC m
 refine vn (λu=>bY (fG (.cons (Br.agg (.cons (Br.refl _ _) (.cons (Br.aw 2 eI t4 u rfl) (.cons (Br.aw 3 cO O17 u rfl) (.cons (Br.aw 4 fL t3 u rfl) (.cons (Br.aw 5 dY (bI.set (bI.set oV)) u rfl) .nil)))))) (.cons (Br.refl _ _) .nil)) rfl (W88 _ Y6)) rfl P4 rfl) (vs (v0 (pO m (σ:=(List aB)) (τ:=cT) (λg s=>((some k2,.obj 62 (aD p1))::(hL p0K r6 ag21 g ag14 gV r11 s r9 ((p0.Vols.set p1.Vol.toNat ({ x5 with State:=2})).set p1.Vol.toNat ({ ({ x5 with State:=2}:aP) with Files:=IntKind.wrap .i64 (x5.Files+1)}))))) (λg s=>bI g 35 (s:List aB).length) (λg s=>.c 0 (.ptr p0K 0) (.c 3 (.ptr k2 0) (.c 13 (nZ q15) .nil))) (λx m=> ?_) ?_)))
 refine v0 ?_
 apply vi m <;> intro c17 m
 refine v0 (vz [(1000000,some p0K,.obj 30 ([nZ r6,aZ ag21,aZ ag23,aZ ag14,aZ gV]))] mixed (λu=>⟨λ_=>aJ 1 u rfl,trivial⟩) λu=>zP 0 rfl rfl (zN 1 rfl rfl (zF 2 rfl dR rfl (zL 3 0 (aZ ag23) rfl eJ rfl rfl rfl (zI 4 rfl rfl (zP 5 rfl rfl (zN 6 rfl rfl (zF 7 rfl dR rfl (zL 8 0 (aZ ag23) rfl eJ rfl rfl rfl (zI 9 rfl rfl ?_))))))))))
 obtain⟨x13,X5,m⟩:=aC m
 refine zC 10 rfl (cM X5 fH O17 rfl rfl) (zC 11 rfl (cU (bI.ne O17 X5) oP rfl rfl) (zE 12 rfl (cI (fo:=32) ({ x13 with Staged:=false}:aB) 3 u X5 cO O17 rfl rfl rfl rfl (cW.refl _ _) V3 rfl rfl λK17=>⟨⟨λ_=>aJ 1 K17 rfl,trivial⟩, ?_⟩)))
 obtain⟨x14,X6,m⟩:=aC m
 refine zC 13 rfl (cM X6 fH (bI.set O17) rfl rfl) (zC 14 rfl (cU (bI.ne (bI.set O17) X6) jS rfl rfl) (zE 15 rfl (cI (fo:=33) ({ x14 with Data:=([]:List Int)}:aB) 3 K17 X6 cO (bI.set O17) rfl rfl rfl rfl (.cons (aX _) .nil) CJ rfl rfl λK18=>⟨⟨λ_=>aJ 1 K18 rfl,trivial⟩, ?_⟩)))
 exact zX (qk (f:=S7 287 _ _ _ _ _ _ _ _ _ _ _ _ _ _ _) K18 rfl (eW m ag23 (bI.set (bI.set O17)) (lx (.k3 .nil))))
 exact v0 (eW m ag23 O17 (lx (.k3 .nil)))
 rintro ag24 j6 O18 m
 exact eW m ag24 O18 (lx (.k3 .nil))
 exact v0 (eW m ag23 O17 (lx (.k3 .nil)))
 rintro ag25 j7 O19 m
 exact v0 (eW m ag25 O19 (lx (.k3 .nil)))
 exact v0 (lM m ag23 O17 (lx (.k3 .nil)))
 rintro ag26 ⟨r14,r15⟩ t6 m
 exact eW m ag26 t6 (lx .nil)
 exact v0 (eW m ag22 t5 (lx .nil))
 rintro ag27 j8 O20 m
 exact eW m (ag21,ag27,ag14,gV) ⟨t4,O20,t3,(bI.set (bI.set oV))⟩ (lx .nil)
 refine vs (v0 (pO m (σ:=fE) (τ:=cT×cT×cT×cT) (λg s=>((some k2,.obj 62 (aD p1))::(hL p0K p0.Seq g.1 g.2.1 g.2.2.1 g.2.2.2 s.1 s.2.1 s.2.2.1 s.2.2.2))) (λg s=>bI g.1 4 (s.1:List aH).length∧bI g.2.1 35 (s.2.1:List aB).length∧bI g.2.2.1 3 (s.2.2.1:List aQ).length∧bI g.2.2.2 4 (s.2.2.2:List aP).length) (λg s=>.nil) (λx m=> ?_) ?_))
 refine v0 ?_
 apply vi m <;> intro c18 m
 refine vs (vs (v0 (dN fI rfl rfl (vl 0 _ cF rfl rfl rfl ?_))))
 obtain⟨_,Y7,m⟩:=aC m
 refine ve λu=>dB ((bC u [1,2,3,4,5,0] rfl rfl).1.trans (cV h (hC p0K p0 gS gC gE gV) [(some k2,.obj 62 (aD p1))]).symm) (cK (U1 (hp h [(some k2,.obj 62 (aD p1))]) ok_Snaps oC oE oV (cJ (hC p0K p0 gS gC gE gV) [(some k2,.obj 62 (aD p1))] (bC u [1,2,3,4,5,0] rfl rfl).2).2 Y7) rfl NN rfl ?_)
 rintro x h' ⟨K19,rfl,rfl⟩
 have K20:=bC (L':=((some k2,.obj 62 (aD p1))::(hC p0K p0 gS gC gE gV))) (dI (cJ (hC p0K p0 gS gC gE gV) [(some k2,.obj 62 (aD p1))] (bC u [1,2,3,4,5,0] rfl rfl).2).1 K19) [5,0,1,2,3,4] rfl rfl
 refine qk K20.2 ((cV h (hC p0K p0 gS gC gE gV) [(some k2,.obj 62 (aD p1))]).trans K20.1) (v0 ?_)
 apply vi m <;> intro c19 m
 refine vs (v0 (v0 (gM m λm=>gM m λm=>gM m λm=>gM m λm=> ?_)))
 cases m
 exact vr λu=>dW.of1 (.inl rfl) (fT _ _ (.sc (.int _ _)) rfl) (bE u [1,2,3,4,5] rfl).2 (bF.refl _ _) ⟨gS,ok_Snaps,gC,oC,gE,oE,gV,oV,(bE u [1,2,3,4,5] rfl).1,rfl,rfl⟩
 refine v0 (vs (v0 (vz [(1000000,some p0K,.obj 30 ([nZ p0.Seq,aZ gS,aZ gC,aZ gE,aZ gV])),(1000000,some k2,.obj 62 (aD p1))] mixed (λu=>⟨λ_=>aJ 1 u rfl,λ_=>aJ 0 u rfl,trivial⟩) λu=>zP 0 rfl rfl (zN 1 rfl rfl (zF 2 rfl fQ rfl (zL 3 0 (aZ gV) rfl gH rfl rfl rfl (zF 4 rfl fI rfl (zL 5 1 (nZ p1.Vol) rfl cF rfl rfl rfl (zP 6 rfl rfl (zN 7 rfl rfl (zF 8 rfl fQ rfl (zL 9 0 (aZ gV) rfl gH rfl rfl rfl (zF 10 rfl fI rfl (zL 11 1 (nZ p1.Vol) rfl cF rfl rfl rfl ?_))))))))))))))
 obtain⟨x15,X7,m⟩:=aC m
 refine zC 12 rfl (cM X7 jN oV rfl rfl) (zC 13 rfl (cU (bI.ne oV X7) m5 rfl rfl) (zE 14 rfl (cI (fo:=2) ({ x15 with State:=3}:aP) 5 u X7 dY oV rfl rfl rfl rfl (cW.refl _ _) zT rfl rfl λK21=>⟨⟨λ_=>aJ 1 K21 rfl,λ_=>aJ 0 K21 rfl,trivial⟩, ?_⟩)))
 obtain⟨x16,X8,m⟩:=aC m
 refine zC 15 rfl (cM X8 jN (bI.set oV) rfl rfl) (zC 16 rfl (cU (bI.ne (bI.set oV) X8) pY rfl rfl) (zE 17 rfl (cI (fo:=3) ({ x16 with Files:=0}:aP) 5 K21 X8 dY (bI.set oV) rfl rfl rfl rfl (cW.refl _ _) zT rfl rfl λK22=>⟨⟨λ_=>aJ 1 K22 rfl,λ_=>aJ 0 K22 rfl,trivial⟩, ?_⟩)))
 refine zX (qk (f:=S8 310 _ _ _ _ _ _ _ _ _ _ _ _ _ _ _ _ _) K22 rfl (vs (v0 (vs (vs (v0 (qK (FL (.obj 44 (fl aI ([]:List aB) g0.sp)) 15 (aZ g0) (f9 _)) (nR m (σ:=(List aB)×Int) (τ:=cT) (λg s=>((cE g s.1)::(some k2,.obj 62 (aD p1))::(hL p0K p0.Seq gS gC gE gV p0.Snaps p0.Chunks p0.Exps ((p0.Vols.set p1.Vol.toNat ({ x15 with State:=3})).set p1.Vol.toNat ({ x16 with Files:=0}))))) (λg s=>bI g 35 (s.1:List aB).length) (λg s=>.c 0 (.ptr p0K 0) (.c 3 (.ptr k2 0) (.c 15 (aZ g) (.c 16 (nZ s.2) .nil)))) g0 (bI.g0 35) (lx (.k4 .nil)) ?_ ?_))))))))
 rintro ag28 ⟨q16,q17⟩ x O21 m
 replace m:tW w p0 p1 q16 q17=some x:=m
 unfold tW at m
 refine vs (vs (v0 (jM rfl (dN dR rfl rfl (vl 2 (aZ gC) eJ rfl rfl rfl (bU (dQ iG oC rfl) (v0 ?_)))))))
 apply vi m <;> intro c20 m
 refine v0 (vs (v0 (vs (v0 (jM rfl (dN dR rfl rfl (vl 2 (aZ gC) eJ rfl rfl rfl ?_)))))))
 obtain⟨x17,X9,m⟩:=aC m
 refine bU (cM X9 fH oC rfl rfl) (vn (λu=>dX (fo:=0) (.agg (aI x17)) X9 cO oC kQ rfl (aJ 4 u rfl) (λ_=>rfl)) (ve λu=>bJ (bL jW++(FN:List AV)) u l6 rfl rfl λk15855 K23=>qk K23 rfl (ve λu=>aK 0 (aI x17) u rfl rfl rfl rfl rI rfl rfl λK24=>qk K24 rfl (vs (v0 (dN iV rfl rfl (vl 0 _ eL rfl rfl rfl (dN fI rfl rfl (vl 2 _ cF rfl rfl rfl (vk U0 NM m rfl rfl λy3 m=>dN iV rfl rfl (ve λu=>aK 0 (aI { x17 with Locs:=y3}) u rfl rfl rfl rfl n5 rfl rfl λK25=>qk K25 rfl (vs (fN m (σ:=Bool) (λs=>((some k15855,.obj 44 (aI { x17 with Locs:=y3}))::(cE ag28 q16)::(some k2,.obj 62 (aD p1))::(hL p0K p0.Seq gS gC gE gV p0.Snaps p0.Chunks p0.Exps ((p0.Vols.set p1.Vol.toNat ({ x15 with State:=3})).set p1.Vol.toNat ({ x16 with Files:=0}))))) (λs=>.c 0 (.ptr p0K 0) (.c 3 (.ptr k2 0) (.c 15 (aZ ag28) (.c 16 (nZ q17) (.c 17 (.ptr k15855 0) (.c 340 (.sc (.bool s)) .nil)))))) (λx m=> ?_) ?_)))))))))))))
 refine v0 (dN oP rfl rfl (vl 0 _ yC rfl rfl rfl ?_))
 apply vi m <;> intro b7 m
 rw[b7]
 exact nE m
 rw[b7]
 exact dN iV rfl rfl (vl 0 _ eL rfl rfl rfl (dE gO rfl (nE m)))
 rintro _ j9 m
 refine pO m (σ:=(List aB)) (τ:=cT) (λg s=>((some k15855,.obj 44 (aI { x17 with Locs:=y3}))::(cE g s)::(some k2,.obj 62 (aD p1))::(hL p0K p0.Seq gS gC gE gV p0.Snaps p0.Chunks p0.Exps ((p0.Vols.set p1.Vol.toNat ({ x15 with State:=3})).set p1.Vol.toNat ({ x16 with Files:=0}))))) (λg s=>bI g 35 (s:List aB).length) (λg s=>.c 0 (.ptr p0K 0) (.c 3 (.ptr k2 0) (.c 15 (aZ g) (.c 16 (nZ q17) .nil)))) (λx m=> ?_) ?_
 refine v0 ?_
 apply vi m <;> intro c21 m
 refine v0 (vl 0 (.agg (aI { x17 with Locs:=y3})) kQ rfl rfl rfl (bU (eK (List.map aI ([{ x17 with Locs:=y3}]:List aB)) lR rfl rfl rfl rfl) ?_))
 obtain⟨z1,Z1,m⟩:=aC m
 exact ve λu=>gD (c:=aI) 1 Z1 lR rfl l6 rfl cO rfl rfl O21 u rfl λag29 O22 K26=>qk K26 rfl (eW m ag29 O22 (lx (.k4 .nil)))
 exact v0 (eW m ag28 O21 (lx (.k4 .nil)))
 rintro ag30 j10 O23 m
 exact v0 (eW m ag30 O23 (lW [1,2,3,4,5,6,7] rfl rfl (.k4 .nil)))
 exact v0 (lM m ag28 O21 (lx (.k4 .nil)))
 rintro ag31 ⟨r16,r17⟩ t7 m
 refine vs (v0 (jM rfl (dN dR rfl rfl (ve λu=>aK 2 ([nZ p0.Seq,aZ gS,aZ ag31,aZ gE,aZ gV]) u rfl rfl (bZ rfl) (cD (bW _ _ _) rfl) zY rfl rfl λK27=>qk K27 rfl (vs (vs (v0 (nR m (σ:=(List aH)×Int) (τ:=cT) (λg s=> [(cE ag31 r16),(some k2,.obj 62 (aD p1)),(hO p0K p0.Seq g ag31 gE gV),(dO g s.1),(cE gC p0.Chunks),(fA gE p0.Exps),(lG gV ((p0.Vols.set p1.Vol.toNat ({ x15 with State:=3})).set p1.Vol.toNat ({ x16 with Files:=0})))]) (λg s=>bI g 4 (s.1:List aH).length) (λg s=>.c 0 (.ptr p0K 0) (.c 3 (.ptr k2 0) (.c 18 (nZ s.2) .nil))) gS ok_Snaps (lx (.k3 .nil)) ?_ ?_))))))))
 rintro ag32 ⟨q18,q19⟩ x O24 m
 replace m:tX w p1 q18 q19=some x:=m
 unfold tX at m
 refine vs (vs (v0 (jM rfl (dN dV rfl rfl (vl 2 (aZ ag32) fM rfl rfl rfl (bU (dQ jZ O24 rfl) (v0 ?_)))))))
 apply vi m <;> intro c22 m
 refine v0 (vs (v0 (v0 (vz [(1000000,some p0K,.obj 30 ([nZ p0.Seq,aZ ag32,aZ ag31,aZ gE,aZ gV])),(18,ag32.t,.obj 60 (fl bS (q18:List aH) ag32.sp)),(1000000,some k2,.obj 62 (aD p1))] mixed (λu=>⟨λ_=>aJ 2 u rfl,λ_=>aJ 3 u rfl,λ_=>aJ 1 u rfl,trivial⟩) λu=>zP 0 rfl rfl (zN 1 rfl rfl (zF 2 rfl dV rfl (zL 3 0 (aZ ag32) rfl fM rfl rfl rfl (zI 4 rfl rfl (zP 5 rfl rfl (zN 6 rfl rfl (zF 7 rfl dV rfl (zL 8 0 (aZ ag32) rfl fM rfl rfl rfl (zI 9 rfl rfl ?_)))))))))))))
 obtain⟨x18,X10,m⟩:=aC m
 refine zC 10 rfl (cM X10 iU O24 rfl rfl) (zC 11 rfl (cU (bI.ne O24 X10) jT rfl rfl) (wL 12 rfl (λ_ _ hi hB=>dX (fo:=3) (.sl none 4 (List.map aN x18.Locs)) X10 eI O24 eL rfl (fV.get 1 hi rfl (hB 18 (by kernel_rfl))) (λ_=>rfl)) (zF 13 rfl fI rfl (zL 14 2 (nZ p1.Vol) rfl cF rfl rfl rfl ?_))))
 obtain⟨y4,Y8,m⟩:=aC m
 refine zC 15 rfl (bY (U0 _ Y8) rfl NM rfl) ?_
 obtain⟨x19,X11,m⟩:=aC m
 refine zC 16 rfl (cM X11 iU O24 rfl rfl) (zC 17 rfl (cU (bI.ne O24 X11) jT rfl rfl) (zE 18 rfl (cI (fo:=3) ({ x19 with Locs:=y4}:aH) 3 u X11 eI O24 rfl rfl rfl rfl (cW.refl _ _) n5 rfl rfl λK28=>⟨⟨λ_=>aJ 2 K28 rfl,λe=>absurd e (by decide),λ_=>aJ 1 K28 rfl,trivial⟩, ?_⟩)))
 exact zX (qk (f:=aCT 375 _ _ _ _ _ _ _ _ _ _ _ _ _ _ _ _ _ _ _) K28 rfl (v0 (eW m ag32 (bI.set O24) (lx (.k3 .nil)))))
 exact v0 (lM m ag32 O24 (lx (.k3 .nil)))
 rintro ag33 ⟨r18,r19⟩ t8 m
 refine vs (v0 (vs (vs (v0 (qK (FL (.obj 99 (fl cP ([]:List aQ) g0.sp)) 19 (aZ g0) (f9 _)) (nR m (σ:=(List aQ)×Int) (τ:=cT) (λg s=> [(fA g s.1),(cE ag31 r16),(some k2,.obj 62 (aD p1)),(hO p0K p0.Seq ag33 ag31 gE gV),(dO ag33 r18),(cE gC p0.Chunks),(fA gE p0.Exps),(lG gV ((p0.Vols.set p1.Vol.toNat ({ x15 with State:=3})).set p1.Vol.toNat ({ x16 with Files:=0})))]) (λg s=>bI g 3 (s.1:List aQ).length) (λg s=>.c 0 (.ptr p0K 0) (.c 3 (.ptr k2 0) (.c 19 (aZ g) (.c 20 (nZ s.2) .nil)))) g0 (bI.g0 3) (lx (.k4 .nil)) ?_ ?_))))))
 rintro ag34 ⟨q20,q21⟩ x O25 m
 replace m:tY w p0 p1 q20 q21=some x:=m
 unfold tY at m
 refine vs (vs (v0 (jM rfl (dN e8 rfl rfl (vl 3 (aZ gE) jG rfl rfl rfl (bU (dQ pW oE rfl) (v0 ?_)))))))
 apply vi m <;> intro c23 m
 refine v0 (vs (v0 (vs (v0 (jM rfl (dN e8 rfl rfl (vl 3 (aZ gE) jG rfl rfl rfl ?_)))))))
 obtain⟨x20,X12,m⟩:=aC m
 refine bU (cM X12 iM oE rfl rfl) (vn (λu=>dX (fo:=0) (.agg (cP x20)) X12 fL oE u7 rfl (aJ 6 u rfl) (λ_=>rfl)) (ve λu=>bJ ([nZ 0,nZ 0,sZ]) u rL rfl rfl λk16100 K29=>qk K29 rfl (ve λu=>aK 0 (cP x20) u rfl rfl rfl rfl GQ rfl rfl λK30=>qk K30 rfl (vs (v0 (dN lF rfl rfl (vl 0 _ eL rfl rfl rfl (dN fI rfl rfl (vl 3 _ cF rfl rfl rfl (vk U0 NM m rfl rfl λy5 m=>dN lF rfl rfl (ve λu=>aK 0 (cP { x20 with Locs:=y5}) u rfl rfl rfl rfl n5 rfl rfl λK31=>qk K31 rfl (vs (v0 (dN lF rfl rfl (vl 0 _ eL rfl rfl rfl (dE gO rfl (pO m (σ:=(List aQ)) (τ:=cT) (λg s=> [(some k16100,.obj 99 (cP { x20 with Locs:=y5})),(fA g s),(cE ag31 r16),(some k2,.obj 62 (aD p1)),(hO p0K p0.Seq ag33 ag31 gE gV),(dO ag33 r18),(cE gC p0.Chunks),(fA gE p0.Exps),(lG gV ((p0.Vols.set p1.Vol.toNat ({ x15 with State:=3})).set p1.Vol.toNat ({ x16 with Files:=0})))]) (λg s=>bI g 3 (s:List aQ).length) (λg s=>.c 0 (.ptr p0K 0) (.c 3 (.ptr k2 0) (.c 19 (aZ g) (.c 20 (nZ q21) .nil)))) (λx m=> ?_) ?_)))))))))))))))))
 refine v0 ?_
 apply vi m <;> intro c24 m
 refine v0 (vl 0 (.agg (cP { x20 with Locs:=y5})) u7 rfl rfl rfl (bU (eK (List.map cP ([{ x20 with Locs:=y5}]:List aQ)) pH rfl rfl rfl rfl) ?_))
 obtain⟨z2,Z2,m⟩:=aC m
 exact ve λu=>gD (c:=cP) 1 Z2 pH rfl rL rfl fL rfl rfl O25 u rfl λag35 O26 K32=>qk K32 rfl (eW m ag35 O26 (lx (.k4 .nil)))
 exact v0 (eW m ag34 O25 (lx (.k4 .nil)))
 rintro ag36 j11 O27 m
 exact v0 (eW m ag36 O27 (lW [1,2,3,4,5,6,7,8] rfl rfl (.k4 .nil)))
 exact v0 (lM m ag34 O25 (lx (.k4 .nil)))
 rintro ag37 ⟨r20,r21⟩ t9 m
 exact v0 (jM rfl (dN e8 rfl rfl (ve λu=>aK 3 ([nZ p0.Seq,aZ ag33,aZ ag31,aZ ag37,aZ gV]) u rfl rfl (bZ rfl) (cD (bW _ _ _) rfl) JP rfl rfl λK33=>qk K33 rfl (eW m (ag33,ag31,ag37,gV) ⟨t8,t7,t9,(bI.set (bI.set oV))⟩ (lW [2,3,4,1,0,7] rfl rfl .nil)))))
 refine vs (v0 (pO m (σ:=(List aP)) (τ:=cT) (λg s=>((some k2,.obj 62 (aD p1))::(hL p0K p0.Seq gS gC gE g p0.Snaps p0.Chunks p0.Exps s))) (λg s=>bI g 4 (s:List aP).length) (λg s=>.nil) (λx m=> ?_) ?_))
 refine v0 ?_
 apply vi m <;> intro c25 m
 refine vs (vs (v0 (dN fI rfl rfl (vl 0 _ cF rfl rfl rfl ?_))))
 obtain⟨_,Y9,m⟩:=aC m
 refine ve λu=>dB ((bC u [1,2,3,4,5,0] rfl rfl).1.trans (cV h (hC p0K p0 gS gC gE gV) [(some k2,.obj 62 (aD p1))]).symm) (cK (U1 (hp h [(some k2,.obj 62 (aD p1))]) ok_Snaps oC oE oV (cJ (hC p0K p0 gS gC gE gV) [(some k2,.obj 62 (aD p1))] (bC u [1,2,3,4,5,0] rfl rfl).2).2 Y9) rfl NN rfl ?_)
 rintro x h' ⟨K34,rfl,rfl⟩
 have K35:=bC (L':=((some k2,.obj 62 (aD p1))::(hC p0K p0 gS gC gE gV))) (dI (cJ (hC p0K p0 gS gC gE gV) [(some k2,.obj 62 (aD p1))] (bC u [1,2,3,4,5,0] rfl rfl).2).1 K34) [5,0,1,2,3,4] rfl rfl
 refine qk K35.2 ((cV h (hC p0K p0 gS gC gE gV) [(some k2,.obj 62 (aD p1))]).trans K35.1) (v0 ?_)
 apply vi m <;> intro c26 m
 refine vs (v0 (v0 (gM m λm=>gM m λm=>gM m λm=>gM m λm=>gM m λm=> ?_)))
 cases m
 exact vr λu=>dW.of1 (.inl rfl) (fT _ _ (.sc (.int _ _)) rfl) (bE u [1,2,3,4,5] rfl).2 (bF.refl _ _) ⟨gS,ok_Snaps,gC,oC,gE,oE,gV,oV,(bE u [1,2,3,4,5] rfl).1,rfl,rfl⟩
 refine v0 (v0 (vz [(1000000,some p0K,.obj 30 ([nZ p0.Seq,aZ gS,aZ gC,aZ gE,aZ gV])),(1000000,some k2,.obj 62 (aD p1)),(24,gV.t,.obj 49 (fl dC (p0.Vols:List aP) gV.sp))] mixed (λu=>⟨λ_=>aJ 1 u rfl,λ_=>aJ 0 u rfl,λ_=>aJ 5 u rfl,trivial⟩) λu=>zP 0 rfl rfl (zN 1 rfl rfl (zF 2 rfl fQ rfl (zL 3 0 (aZ gV) rfl gH rfl rfl rfl (zF 4 rfl fI rfl (zL 5 1 (nZ p1.Vol) rfl cF rfl rfl rfl (zP 6 rfl rfl (zN 7 rfl rfl (zF 8 rfl fQ rfl (zL 9 0 (aZ gV) rfl gH rfl rfl rfl (zF 10 rfl fI rfl (zL 11 1 (nZ p1.Vol) rfl cF rfl rfl rfl (zP 12 rfl rfl (zN 13 rfl rfl (zF 14 rfl fQ rfl (zL 15 0 (aZ gV) rfl gH rfl rfl rfl (zF 16 rfl fI rfl (zL 17 1 (nZ p1.Vol) rfl cF rfl rfl rfl ?_)))))))))))))))))))
 obtain⟨x21,X13,m⟩:=aC m
 refine zC 18 rfl (cM X13 jN oV rfl rfl) (zC 19 rfl (cU (bI.ne oV X13) CK rfl rfl) (wL 20 rfl (λ_ _ hi hB=>dX (fo:=1) (nZ x21.Epoch) X13 dY oV cF rfl (fV.get 2 hi rfl (hB 24 (by kernel_rfl))) (λ_=>rfl)) (zC 21 rfl (lQ rfl rfl rfl trivial) ?_)))
 obtain⟨x22,X14,m⟩:=aC m
 refine zC 22 rfl (cM X14 jN oV rfl rfl) (zC 23 rfl (cU (bI.ne oV X14) m5 rfl rfl) (zE 24 rfl (cI (fo:=2) ({ x22 with State:=1}:aP) 5 u X14 dY oV rfl rfl rfl rfl (cW.refl _ _) zT rfl rfl λK36=>⟨⟨λ_=>aJ 1 K36 rfl,λ_=>aJ 0 K36 rfl,λe=>absurd e (by decide),trivial⟩, ?_⟩)))
 obtain⟨x23,X15,m⟩:=aC m
 refine zC 25 rfl (cM X15 jN (bI.set oV) rfl rfl) (zC 26 rfl (cU (bI.ne (bI.set oV) X15) CK rfl rfl) (zE 27 rfl (cI (fo:=1) ({ x23 with Epoch:=IntKind.wrap .i64 (x21.Epoch+1)}:aP) 5 K36 X15 dY (bI.set oV) rfl rfl rfl rfl (cW.refl _ _) zT rfl rfl λK37=>⟨⟨λ_=>aJ 1 K37 rfl,λ_=>aJ 0 K37 rfl,λe=>absurd e (by decide),trivial⟩, ?_⟩)))
 exact zX (qk (f:=aCU 442 _ _ _ _ _ _ _ _ _ _ _ _ _ _ _ _ _ _ _ _ _ _ _ _ _ _ _) K37 rfl (eW m gV (bI.set (bI.set oV)) (lx .nil)))
 exact v0 (eW m gV oV (lx .nil))
 rintro ag38 j12 O28 m
 exact eW m (gS,gC,gE,ag38) ⟨ok_Snaps,oC,oE,O28⟩ (lx .nil)
 rintro⟨ag39,ag40,ag41,ag42⟩ ⟨j13,j14,j15,j16⟩ ⟨O29,O30,O31,O32⟩ m
 exact eW m (ag39,ag40,ag41,ag42) ⟨O29,O30,O31,O32⟩ (lx .nil)
 rintro⟨ag43,ag44,ag45,ag46⟩ ⟨j17,j18,j19,j20,j21⟩ ⟨O33,O34,O35,O36⟩ m
 exact eW m (ag43,ag44,ag45,ag46) ⟨O33,O34,O35,O36⟩ (lx .nil)
 rintro⟨ag47,ag48,ag49,ag50⟩ ⟨j22,j23,j24,j25,j26⟩ ⟨O37,O38,O39,O40⟩ m
 exact eW m (ag47,ag48,ag49,ag50) ⟨O37,O38,O39,O40⟩ (lx .nil)
 rintro⟨ag51,ag52,ag53,ag54⟩ ⟨j27,j28,j29,j30,j31⟩ ⟨O41,O42,O43,O44⟩ m
 refine vs (v0 (v0 ?_))
 cases m
 exact vr λu=>dW.of1 (.inl rfl) (fT _ _ (.sc (.int _ _)) rfl) (bE u [1,2,3,4,5] rfl).2 (bF.refl _ _) ⟨ag51,O41,ag52,O42,ag53,O43,ag54,O44,(bE u [1,2,3,4,5] rfl).1,rfl,rfl⟩
theorem aF4:aO Tryz.prog 91=true:=by kernel_rfl
open Go.Vm
def FA (m:Nat) (p0:aA) (p1:aR):Option (aA×Int):=
 after ((TY m p0).bind λy0=>if (!y0)=true then (some (.brk true)) else if (decide (p1.Kind < 1))=true then (some (.brk true)) else some (.brk (decide (5 < p1.Kind))):Option (Lp (Bool) (aA×Int))) λj0=>if j0=true then (some (({ Seq:=0,Snaps:= [],Chunks:= [],Exps:= [],Vols:= []}:aA),1)) else (QR m p0).bind λy1=>(M92 m p1).bind λy2=>(rS m ({ Seq:=y1.Seq,Snaps:=y1.Snaps,Chunks:=y1.Chunks,Exps:=y1.Exps,Vols:=y1.Vols}:aA) y2).bind λy3=>if (y3.1 !=0)=true then (some (({ Seq:=0,Snaps:= [],Chunks:= [],Exps:= [],Vols:= []}:aA),y3.1)) else (TY m ({ Seq:=y3.2.1,Snaps:=y3.2.2.1,Chunks:=y3.2.2.2.1,Exps:=y3.2.2.2.2.1,Vols:=y3.2.2.2.2.2}:aA)).bind λy4=>if (!y4)=true then (some (({ Seq:=0,Snaps:= [],Chunks:= [],Exps:= [],Vols:= []}:aA),1)) else some (({ Seq:=y3.2.1,Snaps:=y3.2.2.1,Chunks:=y3.2.2.2.1,Exps:=y3.2.2.2.2.1,Vols:=y3.2.2.2.2.2}:aA),0)
theorem W36 {w:Nat} {p0:aA} {p1:aR} {o:aA×Int} (h:aE) (m:FA w p0 p1=some o):
 aL Tryz.prog 36 [.agg (aF p0),.agg (aD p1)] h (λr h'=>r= .tup [.agg (aF o.1),nZ o.2]∧h'=h):=by
 refine f8 36 [.cell 4 30,.tmp 5] Tryz.func36 rfl rfl rfl rfl ?_
 unfold FA at m
 refine vs (v0 (gY rfl rfl λk2 K3=>gY rfl rfl λk5 K6=>ve λu=>bJ (hH) u pX rfl rfl λk8 K9=>qk K9 rfl (vs (vs (fN m (σ:=Bool) (λs=> [(some k8,.obj 30 (hH)),(some k5,.obj 62 (aD p1)),(some k2,.obj 30 (aF p0))]) (λs=>.c 2 (.ptr k2 0) (.c 3 (.ptr k5 0) (.c 4 (.ptr k8 0) (.c 20 (.sc (.bool s)) .nil)))) (λx m=> ?_) ?_)))))
 refine v0 (vl 2 (.agg (aF p0)) fC rfl rfl rfl (vk W89 XY m rfl rfl λ_ m=> ?_))
 apply vi m <;> intro b0 m
 rw[b0]
 exact iE m
 rw[b0]
 refine dN CL rfl rfl (vl 1 _ cF rfl rfl rfl ?_)
 apply vi m <;> intro b1 m
 rw[b1]
 exact iE m
 rw[b1]
 exact dN CL rfl rfl (vl 1 _ cF rfl rfl rfl (iE m))
 rintro _ j0 m
 refine v0 ?_
 apply vi m <;> intro c0 m
 refine vs (v0 (bU (eS (hH) CI rfl) (ve λu=>aK 0 (hH) u rfl rfl rfl rfl lZ rfl rfl λK0=>qk K0 rfl (v0 ?_))))
 cases m
 exact vr λu=>dW.of2 (.inl rfl) (qW (.agg (hH)) fC rfl (bB 0 u rfl) rfl) (fT _ _ (.sc (.int _ _)) rfl) (aT (List.nil_sublist _) u).1 (bF.agg (.cons (bF.refl _ _) (.cons (aX _) (.cons (aX _) (.cons (aX _) (.cons (aX _) .nil)))))) (bF.refl _ _) ⟨rfl,rfl⟩
 refine v0 (vs (v0 (vl 2 (.agg (aF p0)) fC rfl rfl rfl ?_)))
 obtain⟨y0,Y0,m⟩:=aC m
 refine ve λu=>cK (aFZ _ Y0) rfl aER rfl ?_
 rintro x h' ⟨ag0,O0,ag1,O1,ag2,O2,ag3,O3,K1,rfl,rfl⟩
 refine qk (dI u K1) (cV h [(dO ag0 y0.Snaps),(cE ag1 y0.Chunks),(fA ag2 y0.Exps),(lG ag3 y0.Vols)] [(some k8,.obj 30 (hH)),(some k5,.obj 62 (aD p1)),(some k2,.obj 30 (aF p0))]) (ve λu=>bJ (hH) u pX rfl rfl λk42 K2=>qk K2 rfl (ve λu=>aK 0 ([nZ y0.Seq,aZ ag0,aZ ag1,aZ ag2,aZ ag3]) u rfl rfl rfl (by repeat (first | exact rfl | refine cD (iL _ _ _) ?_ | refine cD (bW _ _ _) ?_ | refine cD (gJ _ _ _ _) ?_ | refine cD rfl ?_)) lZ rfl rfl λK4=>qk K4 rfl ?_))
 refine vs (v0 (vl 6 (.agg (aD p1)) pK rfl rfl rfl (vk W92 aF1 m rfl rfl λ_ m=> ?_)))
 obtain⟨y1,Y1,m⟩:=aC m
 refine ve λu=>dB ((bC u [0,1,2,3,4,5,6,7] rfl rfl).1.trans (cV h (hC k42 y0 ag0 ag1 ag2 ag3) [(some k8,.obj 30 (hH)),(some k5,.obj 62 (aD p1)),(some k2,.obj 30 (aF p0))]).symm) (cK (W91 (hp h [(some k8,.obj 30 (hH)),(some k5,.obj 62 (aD p1)),(some k2,.obj 30 (aF p0))]) O0 O1 O2 O3 (cJ (hC k42 y0 ag0 ag1 ag2 ag3) [(some k8,.obj 30 (hH)),(some k5,.obj 62 (aD p1)),(some k2,.obj 30 (aF p0))] (bC u [0,1,2,3,4,5,6,7] rfl rfl).2).2 Y1) rfl aF4 rfl ?_)
 rintro x h' ⟨ag4,O4,ag5,O5,ag6,O6,ag7,O7,K5,rfl,rfl⟩
 have K7:=bC (L':= [(hO k42 y1.2.1 ag4 ag5 ag6 ag7),(dO ag4 y1.2.2.1),(cE ag5 y1.2.2.2.1),(fA ag6 y1.2.2.2.2.1),(lG ag7 y1.2.2.2.2.2),(some k8,.obj 30 (hH)),(some k5,.obj 62 (aD p1)),(some k2,.obj 30 (aF p0))]) (dI (cJ (hC k42 y0 ag0 ag1 ag2 ag3) [(some k8,.obj 30 (hH)),(some k5,.obj 62 (aD p1)),(some k2,.obj 30 (aF p0))] (bC u [0,1,2,3,4,5,6,7] rfl rfl).2).1 K5) [0,1,2,3,4,5,6,7] rfl rfl
 refine qk K7.2 ((cV h (hL k42 y1.2.1 ag4 ag5 ag6 ag7 y1.2.2.1 y1.2.2.2.1 y1.2.2.2.2.1 y1.2.2.2.2.2) [(some k8,.obj 30 (hH)),(some k5,.obj 62 (aD p1)),(some k2,.obj 30 (aF p0))]).trans K7.1) (vs (vs (v0 (v0 ?_))))
 apply vi m <;> intro c1 m
 refine vs (v0 (bU (eS (hH) CI rfl) (ve λu=>aK 5 (hH) u rfl rfl rfl rfl lZ rfl rfl λK8=>qk K8 rfl (v0 ?_))))
 cases m
 exact vr λu=>dW.of2 (.inl rfl) (qW (.agg (hH)) fC rfl (bB 5 u rfl) rfl) (fT _ _ (.sc (.int _ _)) rfl) (aT (List.nil_sublist _) u).1 (bF.agg (.cons (bF.refl _ _) (.cons (aX _) (.cons (aX _) (.cons (aX _) (.cons (aX _) .nil)))))) (bF.refl _ _) ⟨rfl,rfl⟩
 refine v0 (vs (vs (v0 (vl 0 (.agg ([nZ y1.2.1,aZ ag4,aZ ag5,aZ ag6,aZ ag7])) fC rfl rfl rfl ?_))))
 obtain⟨_,Y2,m⟩:=aC m
 refine vn (λu=>bY (fG (.cons (Br.agg (.cons (Br.refl _ _) (.cons (Br.aw 1 eI O4 u rfl) (.cons (Br.aw 2 cO O5 u rfl) (.cons (Br.aw 3 fL O6 u rfl) (.cons (Br.aw 4 dY O7 u rfl) .nil)))))) .nil) rfl (W89 _ Y2)) rfl XY rfl) (v0 ?_)
 apply vi m <;> intro c2 m
 refine vs (v0 (bU (eS (hH) CI rfl) (ve λu=>aK 5 (hH) u rfl rfl rfl rfl lZ rfl rfl λK73=>qk K73 rfl (v0 ?_))))
 cases m
 exact vr λu=>dW.of2 (.inl rfl) (qW (.agg (hH)) fC rfl (bB 5 u rfl) rfl) (fT _ _ (.sc (.int _ _)) rfl) (aT (List.nil_sublist _) u).1 (bF.agg (.cons (bF.refl _ _) (.cons (aX _) (.cons (aX _) (.cons (aX _) (.cons (aX _) .nil)))))) (bF.refl _ _) ⟨rfl,rfl⟩
 refine v0 (vs (v0 (vl 0 (.agg ([nZ y1.2.1,aZ ag4,aZ ag5,aZ ag6,aZ ag7])) fC rfl rfl rfl (ve λu=>aK 5 ([nZ y1.2.1,aZ ag4,aZ ag5,aZ ag6,aZ ag7]) u rfl rfl rfl (by repeat (first | exact rfl | refine cD (iL _ _ _) ?_ | refine cD (bW _ _ _) ?_ | refine cD (gJ _ _ _ _) ?_ | refine cD rfl ?_)) lZ rfl rfl λK75=>qk K75 rfl ?_))))
 refine v0 ?_
 cases m
 refine vrl λu=> ?_
 obtain⟨K76,le0⟩:=i7.fzO (n:=36) (f:=_) 1 4 ([nZ y1.2.1,.sl none 4 (List.map bS y1.2.2.1),aZ ag5,aZ ag6,aZ ag7]) u rfl (.cons (Fz.refl _ _ _) (.cons (Fz.aw 1 eI O4 u rfl (.refl _)) (.cons (Fz.refl _ _ _) (.cons (Fz.refl _ _ _) (.cons (Fz.refl _ _ _) .nil)))))
 obtain⟨K78,le1⟩:=i7.fzO (n:=36) (f:=_) 1 3 ([nZ y1.2.1,.sl none 4 (List.map bS y1.2.2.1),.sl none 35 (List.map aI y1.2.2.2.1),aZ ag6,aZ ag7]) K76 rfl (.cons (Fz.refl _ _ _) (.cons (Fz.refl _ _ _) (.cons (Fz.aw 1 cO O5 K76 rfl (.refl _)) (.cons (Fz.refl _ _ _) (.cons (Fz.refl _ _ _) .nil)))))
 obtain⟨K80,le2⟩:=i7.fzO (n:=36) (f:=_) 1 2 ([nZ y1.2.1,.sl none 4 (List.map bS y1.2.2.1),.sl none 35 (List.map aI y1.2.2.2.1),.sl none 3 (List.map cP y1.2.2.2.2.1),aZ ag7]) K78 rfl (.cons (Fz.refl _ _ _) (.cons (Fz.refl _ _ _) (.cons (Fz.refl _ _ _) (.cons (Fz.aw 1 fL O6 K78 rfl (.refl _)) (.cons (Fz.refl _ _ _) .nil)))))
 obtain⟨K82,le3⟩:=i7.fzO (n:=36) (f:=_) 1 1 ([nZ y1.2.1,.sl none 4 (List.map bS y1.2.2.1),.sl none 35 (List.map aI y1.2.2.2.1),.sl none 3 (List.map cP y1.2.2.2.2.1),.sl none 4 (List.map dC y1.2.2.2.2.2)]) K80 rfl (.cons (Fz.refl _ _ _) (.cons (Fz.refl _ _ _) (.cons (Fz.refl _ _ _) (.cons (Fz.refl _ _ _) (.cons (Fz.aw 1 dY O7 K80 rfl (.refl _)) .nil)))))
 exact ON.mk (i7.trans (i7.trans (i7.trans le0 le1) le2) le3) (dW.of2 (.inl rfl) (qW (.agg (aF ({ Seq:=y1.2.1,Snaps:=y1.2.2.1,Chunks:=y1.2.2.2.1,Exps:=y1.2.2.2.2.1,Vols:=y1.2.2.2.2.2}:aA))) fC rfl (bB 1 K82 rfl) rfl) (fT _ _ (.sc (.int _ _)) rfl) (aT (List.nil_sublist _) K82).1 (bF.refl _ _) (bF.refl _ _) ⟨rfl,rfl⟩)
theorem aF5:aO Tryz.prog 36=true:=by kernel_rfl
end Go.Proofs.YtbbifdfldpfphaaGreat
