import Derived.Test.YtbbifdfldpfphaaGreatK9P5
import Derived.Test.YtbbifdfldpfphaaGreatK9P4
set_option linter.unusedSimpArgs false
set_option linter.unusedVariables false
set_option maxHeartbeats 4000000
set_option maxRecDepth 100000
open Go.IntKind(wrap)
open List(map nil_sublist)
open Go.Proofs.Tryz(prog)
namespace Go.Proofs.YtbbifdfldpfphaaGreat
open Go.Vm
def qI (m:Nat) (p0:List aB) (q0:List aB) (q1:Int):Option (Lp ((List aB)×Int) ((List aB))):=
 if decide (q1 < (p0.length:Int)) then ((ix p0 q1).bind λx0=>(vZ m x0.Data).bind λy0=>(wX m x0.Locs).bind λy1=>(app q0 ([{ { x0 with Data:=y0} with Locs:=y1}]:List aB)).bind λz0=>Gk (z0,wrap .i64 (q1+1))) else Bk (q0,q1)
def BT (m:Nat) (p0:List aB):Option ((List aB)):=
 after (aT (λs=>qI m p0 s.1 s.2) m ([],0)) λ⟨r0,r1⟩=>some r0
theorem UR {w:Nat} {p0:List aB} {o:(List aB)} (h:aF) (m:BT w p0=some o):
 aM prog 152 [.sl none 35 (map aK p0)] h (λr h'=>∃g:cY,bJ g 35 o.length/\bT h [(g.t,.obj 44 (fl aK o g.sp))]/\r=aZ g/\h'=hp h [(g.t,.obj 44 (fl aK o g.sp))]):=by
 refine fM 29 [.tmp 2] Tryz.func152 rfl rfl rfl rfl ?_
 unfold BT at m
 refine vs (v0 (vs (v0 (vs (vs (v0 (pJ (BI (.obj 44 (fl aK ([]:List aB) g0.sp)) 3 (aZ g0) (fU _)) (nE m (σ:=(List aB)×Int) (τ:=cY) (λg s=>[(cD g s.1)]) (λg s=>bJ g 35 (s.1:List aB).length) (λg s=>.c 0 (.sl none 35 (map aK p0)) (.c 3 (aZ g) (.c 4 (nZ s.2) .nil))) g0 (bJ.g0 35) (lx (.k3 .nil)) ?_ ?_))))))))
 rintro ag0 ⟨q0,q1⟩ x O0 m
 replace m:qI w p0 q0 q1=some x:=m
 unfold qI at m
 refine vs (vs (v0 (dI kY rfl (v0 ?_))))
 apply vi m<;>intro c0 m
 refine v0 (vs (v0 (vs (v0 (vx m fZ rfl rfl λx0 _ m=>va (.agg (aK x0)) nL rfl rfl (ve λu=>bE (bF iC++(Q4:List AV)) u pO rfl rfl λk115 K0=>qk K0 rfl (ve λu=>aL 0 (aK x0) u rfl rfl rfl rfl AF rfl rfl λK1=>qk K1 rfl (vs (v0 (vz [(7,some k115,.obj 44 (aK x0))] mixed (λu=>⟨λ_=>aN 0 u rfl,trivial⟩) λu=>zF 0 rfl mC rfl (zL 1 0 (.sl none 1 (map gG x0.Data)) rfl oB rfl rfl rfl ?_)))))))))))
 obtain⟨y0,Y0,m⟩:=aC m
 refine zC 2 rfl (bW (N4 _ Y0) rfl FD rfl) (zF 3 rfl jA rfl (zL 4 0 (.sl none 4 (map aO x0.Locs)) rfl fO rfl rfl rfl ?_))
 obtain⟨y1,Y1,m⟩:=aC m
 refine zC 5 rfl (bW (N3 _ Y1) rfl FC rfl) (zF 6 rfl mC rfl (zE 7 rfl (aL 0 (aK { x0 with Data:=y0}) u rfl rfl rfl rfl EV rfl rfl λK2=>⟨⟨λe=>absurd e (by decide),trivial⟩, ?_⟩)))
 refine zF 8 rfl jA rfl (zE 9 rfl (aL 0 (aK { { x0 with Data:=y0} with Locs:=y1}) K2 rfl rfl rfl rfl oD rfl rfl λK3=>⟨⟨λe=>absurd e (by decide),trivial⟩, ?_⟩))
 refine zX (qk (f:=T6 23 _ _ _ _ _ _ _ _ _) K3 rfl (v0 (vl 0 (.agg (aK { { x0 with Data:=y0} with Locs:=y1})) nL rfl rfl rfl (bV (eJ (map aK ([{ { x0 with Data:=y0} with Locs:=y1}]:List aB)) pK rfl rfl rfl rfl) ?_))))
 obtain⟨z0,Z0,m⟩:=aC m
 exact ve λu=>gQ (c:=aK) 1 Z0 pK rfl pO rfl cX rfl rfl O0 u rfl λag1 O1 K4=>qk K4 rfl (v0 (eF m ag1 O1 (mG [1] rfl rfl (.k3 .nil))))
 exact v0 (lF m ag0 O0 (lx (.k3 .nil)))
 rintro ag2 ⟨r0,r1⟩ t0 m
 refine vs (v0 (v0 ?_))
 obtain rfl:=eT m
 exact vr λu=>dW.one (.inl rfl) (aU (h0:=h) (L':=[(cD ag2 r0)]) (.refl _) u).1 (bD.refl _ _) ⟨ag2,t0,(aU (h0:=h) (L':=[(cD ag2 r0)]) (.refl _) u).2,rfl,rfl⟩
def C9 (m:Nat) (p0:aA) (q0:List aI) (q1:Int):Option (Lp ((List aI)×Int) (aA)):=
 if decide (q1 < (p0.Snaps.length:Int)) then ((ix p0.Snaps q1).bind λx0=>(HJ m x0.Man).bind λy0=>(wX m x0.Locs).bind λy1=>(app q0 ([{ { x0 with Man:=y0} with Locs:=y1}]:List aI)).bind λz0=>Gk (z0,wrap .i64 (q1+1))) else Bk (q0,q1)
def DA (m:Nat) (p0:aA) (q0:List aQ) (q1:Int):Option (Lp ((List aQ)×Int) (aA)):=
 if decide (q1 < (p0.Exps.length:Int)) then ((ix p0.Exps q1).bind λx0=>(wX m x0.Locs).bind λy0=>(app q0 ([{ x0 with Locs:=y0}]:List aQ)).bind λz0=>Gk (z0,wrap .i64 (q1+1))) else Bk (q0,q1)
def ST (m:Nat) (p0:aA):Option (aA):=
 after (aT (λs=>C9 m p0 s.1 s.2) m ([],0)) λ⟨r0,r1⟩=>after (aT (λs=>DA m p0 s.1 s.2) m ([],0)) λ⟨r2,r3⟩=>(BT m p0.Chunks).bind λy0=>(app ([]:List aR) p0.Vols).bind λz0=>some ({ Seq:=p0.Seq,Snaps:=r0,Chunks:=y0,Exps:=r2,Vols:=z0}:aA)
theorem aI2 {w:Nat} {p0:aA} {o:aA} (h:aF) (m:ST w p0=some o):
 aM prog 90 [.agg (aD p0)] h (λr h'=>∃gS:cY,bJ gS 4 o.Snaps.length/\∃gC:cY,bJ gC 35 o.Chunks.length/\∃gE:cY,bJ gE 3 o.Exps.length/\∃gV:cY,bJ gV 4 o.Vols.length/\bT h [(dM gS o.Snaps),(cD gC o.Chunks),(eW gE o.Exps),(lO gV o.Vols)]/\r= .agg ([nZ o.Seq,aZ gS,aZ gC,aZ gE,aZ gV])/\h'=hp h [(dM gS o.Snaps),(cD gC o.Chunks),(eW gE o.Exps),(lO gV o.Vols)]):=by
 refine fM 68 [.cell 2 30] Tryz.func90 rfl rfl rfl rfl ?_
 unfold ST at m
 refine vs (v0 (gX rfl rfl λk2 K3=>ve λu=>bE (jB) u rO rfl rfl λk5 K6=>qk K6 rfl (vs (v0 (vs (vs (v0 (pJ (BI (.obj 60 (fl bQ ([]:List aI) g0.sp)) 3 (aZ g0) (fU _)) (nE m (σ:=(List aI)×Int) (τ:=cY) (λg s=>[(dM g s.1),(some k5,.obj 30 (jB)),(some k2,.obj 30 (aD p0))]) (λg s=>bJ g 4 (s.1:List aI).length) (λg s=>.c 1 (.ptr k2 0) (.c 2 (.ptr k5 0) (.c 3 (aZ g) (.c 4 (nZ s.2) .nil)))) g0 (bJ.g0 4) (lx (.k4 .nil)) ?_ ?_)))))))))
 rintro ag0 ⟨q0,q1⟩ x O0 m
 replace m:C9 w p0 q0 q1=some x:=m
 unfold C9 at m
 refine vs (vs (v0 (dY eG rfl rfl (vl 2 _ fE rfl rfl rfl (dI kN rfl (v0 ?_))))))
 apply vi m<;>intro c0 m
 refine v0 (vs (v0 (vs (v0 (dY eG rfl rfl (vl 2 _ fE rfl rfl rfl (vx m jG rfl rfl λx0 _ m=>va (.agg (bQ x0)) tB rfl rfl (ve λu=>bE (YM) u yJ rfl rfl λk121 K0=>qk K0 rfl (ve λu=>aL 0 (bQ x0) u rfl rfl rfl rfl HC rfl rfl λK1=>qk K1 rfl (vs (v0 (vz [(7,some k121,.obj 60 (bQ x0))] mixed (λu=>⟨λ_=>aN 0 u rfl,trivial⟩) λu=>zF 0 rfl rQ rfl (zL 1 0 (.agg (bP x0.Man)) rfl p5 rfl rfl rfl ?_)))))))))))))
 obtain⟨y0,Y0,m⟩:=aC m
 refine zC 2 rfl (bW (aB3 _ Y0) rfl UQ rfl) (zF 3 rfl kJ rfl (zL 4 0 (.sl none 4 (map aO x0.Locs)) rfl fO rfl rfl rfl ?_))
 obtain⟨y1,Y1,m⟩:=aC m
 refine zC 5 rfl (bW (N3 _ Y1) rfl FC rfl) (zF 6 rfl rQ rfl (zE 7 rfl (aL 0 (bQ { x0 with Man:=y0}) u rfl rfl rfl rfl AI rfl rfl λK2=>⟨⟨λe=>absurd e (by decide),trivial⟩, ?_⟩)))
 refine zF 8 rfl kJ rfl (zE 9 rfl (aL 0 (bQ { { x0 with Man:=y0} with Locs:=y1}) K2 rfl rfl rfl rfl oD rfl rfl λK4=>⟨⟨λe=>absurd e (by decide),trivial⟩, ?_⟩))
 refine zX (qk (f:=T6 29 _ _ _ _ _ _ _ _ _) K4 rfl (v0 (vl 0 (.agg (bQ { { x0 with Man:=y0} with Locs:=y1})) tB rfl rfl rfl (bV (eJ (map bQ ([{ { x0 with Man:=y0} with Locs:=y1}]:List aI)) ET rfl rfl rfl rfl) ?_))))
 obtain⟨z0,Z0,m⟩:=aC m
 exact ve λu=>gQ (c:=bQ) 1 Z0 ET rfl yJ rfl eV rfl rfl O0 u rfl λag1 O1 K5=>qk K5 rfl (v0 (eF m ag1 O1 (mG [1,2,3] rfl rfl (.k4 .nil))))
 exact v0 (lF m ag0 O0 (lx (.k4 .nil)))
 rintro ag2 ⟨r0,r1⟩ t0 m
 refine vs (v0 (vs (vs (v0 (pJ (BI (.obj 99 (fl cE ([]:List aQ) g0.sp)) 6 (aZ g0) (fU _)) (nE m (σ:=(List aQ)×Int) (τ:=cY) (λg s=>[(eW g s.1),(dM ag2 r0),(some k5,.obj 30 (jB)),(some k2,.obj 30 (aD p0))]) (λg s=>bJ g 3 (s.1:List aQ).length) (λg s=>.c 1 (.ptr k2 0) (.c 2 (.ptr k5 0) (.c 3 (aZ ag2) (.c 6 (aZ g) (.c 7 (nZ s.2) .nil))))) g0 (bJ.g0 3) (lx (.k5 .nil)) ?_ ?_))))))
 rintro ag3 ⟨q2,q3⟩ x O2 m
 replace m:DA w p0 q2 q3=some x:=m
 unfold DA at m
 refine vs (vs (v0 (dY eH rfl rfl (vl 3 _ gN rfl rfl rfl (dI nK rfl (v0 ?_))))))
 apply vi m<;>intro c1 m
 refine v0 (vs (v0 (vs (v0 (dY eH rfl rfl (vl 3 _ gN rfl rfl rfl (vx m gU rfl rfl λx1 _ m=>va (.agg (cE x1)) tD rfl rfl (ve λu=>bE ([nZ 0,nZ 0,sZ]) u qW rfl rfl λk235 K7=>qk K7 rfl (ve λu=>aL 0 (cE x1) u rfl rfl rfl rfl EY rfl rfl λK8=>qk K8 rfl (vs (v0 (dY lN rfl rfl (vl 0 _ fO rfl rfl rfl (vk N3 FC m rfl rfl λy2 m=>dY lN rfl rfl (ve λu=>aL 0 (cE { x1 with Locs:=y2}) u rfl rfl rfl rfl oD rfl rfl λK9=>qk K9 rfl (v0 (vl 0 (.agg (cE { x1 with Locs:=y2})) tD rfl rfl rfl (bV (eJ (map cE ([{ x1 with Locs:=y2}]:List aQ)) pL rfl rfl rfl rfl) ?_))))))))))))))))))
 obtain⟨z1,Z1,m⟩:=aC m
 exact ve λu=>gQ (c:=cE) 1 Z1 pL rfl qW rfl fN rfl rfl O2 u rfl λag4 O3 K10=>qk K10 rfl (v0 (eF m ag4 O3 (mG [1,2,3,4] rfl rfl (.k5 .nil))))
 exact v0 (lF m ag3 O2 (lx (.k5 .nil)))
 rintro ag5 ⟨r2,r3⟩ t1 m
 refine vs (v0 (vs (v0 (vz [(10,some k2,.obj 30 (aD p0))] mixed (λu=>⟨λ_=>aN 3 u rfl,trivial⟩) λu=>zC 0 rfl (fC (aw _ _ _) rfl) (zF 1 rfl eM rfl (zL 2 0 (.sl none 35 (map aK p0.Chunks)) rfl fA rfl rfl rfl (zC 4 rfl (fC (aw _ _ _) rfl) (zC 5 rfl (fC (.sc (.slice _ _ _)) rfl) (zF 6 rfl gW rfl (zL 7 0 (.sl none 4 (map dN p0.Vols)) rfl gH rfl rfl rfl (zF 9 rfl eG rfl ?_)))))))))))
 obtain⟨_,Y2,m⟩:=aC m
 refine zE 3 rfl (dD (UR _ Y2) rfl N5 rfl ?_)
 rintro x h' ⟨ag6,O4,K11,rfl,rfl⟩
 rw[kW]
 refine⟨⟨λ_=>aN 4 (bT.co u K11) rfl,trivial⟩, ?_⟩
 obtain⟨z2,Z2,m⟩:=aC m
 refine zE 8 rfl (CM (c:=dN) Z2 M1 rfl RS rfl eR rfl (bT.co u K11) rfl λag7 O5 K12=>⟨⟨λ_=>aN 5 K12 rfl,trivial⟩, ?_⟩)
 refine zE 10 rfl (aL 5 ([nZ p0.Seq,aZ ag2,.sl none 35 (map aK p0.Chunks),.sl none 3 (map cE p0.Exps),.sl none 4 (map dN p0.Vols)]) K12 rfl rfl (cH rfl) (cI (bZ _ _ _) rfl) M0 rfl rfl λK13=>⟨⟨λe=>absurd e (by decide),trivial⟩, ?_⟩)
 refine zF 11 rfl eM rfl (zE 12 rfl (aL 5 ([nZ p0.Seq,aZ ag2,aZ ag6,.sl none 3 (map cE p0.Exps),.sl none 4 (map dN p0.Vols)]) K13 rfl rfl (cH rfl) (cI (bZ _ _ _) rfl) CU rfl rfl λK14=>⟨⟨λe=>absurd e (by decide),trivial⟩, ?_⟩))
 refine zF 13 rfl eH rfl (zE 14 rfl (aL 5 ([nZ p0.Seq,aZ ag2,aZ ag6,aZ ag5,.sl none 4 (map dN p0.Vols)]) K14 rfl rfl (cH rfl) (cI (bZ _ _ _) rfl) KH rfl rfl λK15=>⟨⟨λe=>absurd e (by decide),trivial⟩, ?_⟩))
 refine zF 15 rfl gW rfl (zE 16 rfl (aL 5 ([nZ p0.Seq,aZ ag2,aZ ag6,aZ ag5,aZ ag7]) K15 rfl rfl (cH rfl) (cI (bZ _ _ _) rfl) VV rfl rfl λK16=>⟨⟨λe=>absurd e (by decide),trivial⟩, ?_⟩))
 refine zX (qk (f:=.c 66 _ (.c 65 _ (.c 64 _ (.c 62 _ (.c 57 _ (.c 63 _ (T5 61 _ _ _ _ (.c 56 _ (.c 55 _ (.c 54 _ _)))))))))) K16 rfl (vs (v0 (vl 5 (.agg ([nZ p0.Seq,aZ ag2,aZ ag6,aZ ag5,aZ ag7])) dG rfl rfl rfl (ve λu=>aL 4 ([nZ p0.Seq,aZ ag2,aZ ag6,aZ ag5,aZ ag7]) u rfl rfl rfl (by repeat (first | exact rfl | refine cI (jO _ _ _) ?_ | refine cI (bZ _ _ _) ?_ | refine cI (gY _ _ _ _) ?_ | refine cI rfl ?_)) mZ rfl rfl λK17=>qk K17 rfl ?_)))))
 refine v0 ?_
 cases m
 exact vr λu=>dW.of1 (.inl rfl) (sS (.agg ([nZ p0.Seq,aZ ag2,aZ ag6,aZ ag5,aZ ag7])) dG rfl (a9 4 u rfl) rfl) (bR u [3,1,2,0] rfl).2 (bD.refl _ _) ⟨ag2,t0,ag6,O4,ag5,t1,ag7,O5,(bR u [3,1,2,0] rfl).1,rfl,rfl⟩
def SU (m:Nat) (p0:aS) (p1:aS):Option (Bool):=
 if (p0.Vol !=p1.Vol)then (some (decide (p0.Vol < p1.Vol))) else if (p0.File !=p1.File)then (some (decide (p0.File < p1.File))) else if (p0.Off !=p1.Off)then (some (decide (p0.Off < p1.Off))) else some (decide (p0.Len < p1.Len))
theorem aI3 {u:Nat} {p0:aS} {p1:aS} {o:Bool} (h:aF) (m:SU u p0 p1=some o):
 aM prog 191 [.agg (aO p0),.agg (aO p1)] h (λr h'=>r= .sc (.bool o)/\h'=h):=by
 refine fM 40 [.tmp 4] Tryz.func191 rfl rfl rfl rfl ?_
 unfold SU at m
 refine v (gX rfl rfl λk2 K3=>gX rfl rfl λk5 K6=>v (vl 1 _ cG rfl rfl rfl (vl 0 _ cG rfl rfl rfl (v ?_))))
 apply vi m<;>intro c0 m
 refine v (vl 1 _ cG rfl rfl rfl (vl 0 _ cG rfl rfl rfl (v ?_)))
 cases m
 exact eI rfl
 refine v (v (vl 1 _ cG rfl rfl rfl (vl 0 _ cG rfl rfl rfl (v ?_))))
 apply vi m<;>intro c1 m
 refine v (vl 1 _ cG rfl rfl rfl (vl 0 _ cG rfl rfl rfl (v ?_)))
 cases m
 exact eI rfl
 refine v (v (vl 1 _ cG rfl rfl rfl (vl 0 _ cG rfl rfl rfl (v ?_))))
 apply vi m<;>intro c2 m
 refine v (vl 1 _ cG rfl rfl rfl (vl 0 _ cG rfl rfl rfl (v ?_)))
 cases m
 exact eI rfl
 refine v (v (vl 1 _ cG rfl rfl rfl (vl 0 _ cG rfl rfl rfl (v ?_))))
 cases m
 exact eI rfl
theorem aDJ:aP prog 191=true:=by kernel_rfl
def uM (m:Nat) (p0:List aS) (p1:aS) (q0:Int):Option (Lp (Int) ((List aS))):=
 after (if decide (q0 < (p0.length:Int)) then ((ix p0 q0).bind λx0=>(SU m x0 p1).bind λy0=>Bk y0) else Bk false:Option (Lp (Bool) (Lp (Int) ((List aS))))) λj0=>if j0 then (Gk (wrap .i64 (q0+1))) else Bk q0
def HX (m:Nat) (p0:List aS) (p1:aS):Option ((List aS)):=
 after (aT (λs=>uM m p0 p1 s) m 0) λr0=>(slc p0 0 r0).bind λx0=>(app ([]:List aS) x0).bind λz0=>(app z0 ([p1]:List aS)).bind λz1=>(slc p0 r0 (p0).length).bind λx1=>(app z1 x1).bind λz2=>some z2
theorem XF {w:Nat} {p0:List aS} {p1:aS} {o:(List aS)} (h:aF) (m:HX w p0 p1=some o):
 aM prog 185 [.sl none 4 (map aO p0),.agg (aO p1)] h (λr h'=>r= .sl none 4 (map aO o)/\h'=h):=by
 refine fM 34 [.tmp 4] Tryz.func185 rfl rfl rfl rfl ?_
 unfold HX at m
 refine v (gX rfl rfl λk2 K3=>v (vs (jT m (σ:=Int) (λs=>[(some k2,.obj 81 (aO p1))]) (λs=>.c 0 (.sl none 4 (map aO p0)) (.c 3 (.ptr k2 0) (.c 5 (nZ s) .nil))) (lx (.k3 .nil)) ?_ ?_)))
 rintro _ q0 x m
 replace m:uM w p0 p1 q0=some x:=m
 unfold uM at m
 refine vs (vs (fP m (σ:=Bool) (λs=>[(some k2,.obj 81 (aO p1))]) (λs=>.c 0 (.sl none 4 (map aO p0)) (.c 3 (.ptr k2 0) (.c 5 (nZ q0) (.c 18 (.sc (.bool s)) .nil)))) (λx m=> ?_) ?_))
 refine v (vq (by kernel_rfl) (dI kC rfl ?_))
 apply vi m<;>intro b0 m
 rw[b0]
 exact vx m jH rfl rfl λx0 _ m=>va (.agg (aO x0)) nM rfl rfl (vl 0 (.agg (aO p1)) nM rfl rfl rfl (vk aI3 aDJ m rfl rfl λ_ m=>fV m))
 rw[b0]
 exact fV m
 rintro _ j0 m
 refine v ?_
 apply vi m<;>intro c0 m
 exact v (v (v (hX m)))
 exact v (G7 m)
 rintro _ r0 m
 refine v (v (vz [(1000000,some k2,.obj 81 (aO p1))] mixed (λu=>⟨λ_=>aN 0 u rfl,trivial⟩) λu=>zC 0 rfl (fC (.sc (.slice _ _ _)) rfl) (zC 1 rfl (fC (.sl _ _ _) rfl) (zI 2 rfl rfl ?_))))
 obtain⟨_,X0,m⟩:=aC m
 refine zC 3 rfl (pG X0 jH rfl rfl rfl rfl) (zL 5 0 (.agg (aO p1)) rfl nM rfl rfl rfl (zC 6 rfl (eJ (map aO ([p1]:List aS)) pN rfl rfl rfl rfl) ?_))
 obtain⟨z0,Z0,m⟩:=aC m
 refine zE 4 rfl (oQ (c:=aO) Z0 pN rfl rfl u nofun rfl λtg0 t0 K0=>⟨⟨λ_=>aN 1 K0 rfl,trivial⟩, ?_⟩)
 obtain⟨z1,Z1,m⟩:=aC m
 refine zE 7 rfl (fK (c:=aO) 0 Z1 pN rfl rfl rfl t0 K0 rfl λtg1 t1 K1=>⟨⟨λ_=>aN 1 K1 rfl,trivial⟩, ?_⟩)
 refine zC 8 rfl (iJ (ow _ _ _) rfl) (zX (qk (f:=.c 6 _ (.c 28 _ (.c 25 _ (.c 27 _ (.c 26 _ (T5 24 _ _ _ _ _)))))) K1 rfl (v ?_)))
 obtain⟨_,X1,m⟩:=aC m
 refine bV (pG X1 jH rfl rfl rfl rfl) ?_
 obtain⟨z2,Z2,m⟩:=aC m
 refine ve λu=>fK (c:=aO) 0 Z2 pN rfl rfl rfl t1 u rfl λtg2 t2 K2=>qk K2 rfl (v ?_)
 obtain rfl:=eT m
 exact vr λu=>dW.of1 (.inl rfl) (gK _ _ (ow _ _ _) rfl) (aU (nil_sublist _) u).1 ((eB _ 0 t2 u rfl)) ⟨rfl,rfl⟩
theorem PC:aP prog 185=true:=by kernel_rfl
def uN (m:Nat) (p0:List aS) (p1:Int) (q0:List aS) (q1:Int):Option (Lp ((List aS)×Int) ((List aS))):=
 if decide (q1 < (p0.length:Int)) then ((ix p0 q1).bind λx0=>after (if (x0.Vol !=p1)then ((ix p0 q1).bind λx1=>(app q0 ([x1]:List aS)).bind λz0=>Bk z0) else Bk q0:Option (Lp ((List aS)) (Lp ((List aS)×Int) ((List aS))))) λj0=>Gk (j0,wrap .i64 (q1+1))) else Bk (q0,q1)
def HY (m:Nat) (p0:List aS) (p1:Int):Option ((List aS)):=
 after (aT (λs=>uN m p0 p1 s.1 s.2) m ([],0)) λ⟨r0,r1⟩=>some r0
theorem XG {w:Nat} {p0:List aS} {p1:Int} {o:(List aS)} (h:aF) (m:HY w p0 p1=some o):
 aM prog 157 [.sl none 4 (map aO p0),nZ p1] h (λr h'=>r= .sl none 4 (map aO o)/\h'=h):=by
 refine fM 28 [.tmp 4] Tryz.func157 rfl rfl rfl rfl ?_
 unfold HY at m
 refine v (v (v (pJ (BI (.tok 81 4 (([]:List aS).length*4)) 5 (ow none 4 (map aO [])) (iB _ _)) (nE m (σ:=(List aS)×Int) (τ:=Option bX) (λg s=>[(g,.tok 81 4 ((s.1:List aS).length*4))]) (λg s=>(g=none->s.1= [])) (λg s=>.c 0 (.sl none 4 (map aO p0)) (.c 1 (nZ p1) (.c 5 (ow g 4 (map aO s.1)) (.c 6 (nZ s.2) .nil)))) none (λ_=>rfl) (lx (.k4 .nil)) ?_ ?_))))
 rintro tg0 ⟨q0,q1⟩ x t0 m
 replace m:uN w p0 p1 q0 q1=some x:=m
 unfold uN at m
 refine v (dI kC rfl (v ?_))
 apply vi m<;>intro c0 m
 refine v (v (v (vx m jH rfl rfl λ_ _ m=>oA m (σ:=(List aS)) (τ:=Option bX) (λg s=>[(g,.tok 81 4 ((s:List aS).length*4))]) (λg s=>(g=none->s= [])) (λg s=>.c 0 (.sl none 4 (map aO p0)) (.c 1 (nZ p1) (.c 5 (ow g 4 (map aO s)) (.c 6 (nZ q1) .nil)))) (λx m=> ?_) ?_)))
 refine v ?_
 apply vi m<;>intro c1 m
 refine v (vx m jH rfl rfl λx0 _ m=>va (.agg (aO x0)) nM rfl rfl (bV (eJ (map aO ([x0]:List aS)) pN rfl rfl rfl rfl) ?_))
 obtain⟨z0,Z0,m⟩:=aC m
 exact ve λu=>fK (c:=aO) 0 Z0 pN rfl rfl rfl t0 u rfl λtg1 t1 K0=>qk K0 rfl (eF m tg1 t1 (lx (.k4 .nil)))
 exact v (eF m tg0 t0 (lx (.k4 .nil)))
 rintro tg2 j0 t2 m
 exact v (eF m tg2 t2 (lx (.k4 .nil)))
 exact v (lF m tg0 t0 (lx (.k4 .nil)))
 rintro tg3 ⟨r0,r1⟩ t3 m
 refine v (v ?_)
 obtain rfl:=eT m
 exact vr λu=>dW.of1 (.inl rfl) (gK _ _ (ow _ _ _) rfl) (aU (nil_sublist _) u).1 ((eB _ 0 t3 u rfl)) ⟨rfl,rfl⟩
theorem PD:aP prog 157=true:=by kernel_rfl
def M92 (m:Nat) (p0:aW):Option (aW):=
 (HJ m p0.Snap.Man).bind λy0=>(wX m p0.Snap.Locs).bind λy1=>(KT m ({ { p0 with Snap:={ p0.Snap with Man:=y0}} with Snap:={ { p0 with Snap:={ p0.Snap with Man:=y0}}.Snap with Locs:=y1}}.Chunks)).bind λy2=>(app ([]:List aE) ({ { p0 with Snap:={ p0.Snap with Man:=y0}} with Snap:={ { p0 with Snap:={ p0.Snap with Man:=y0}}.Snap with Locs:=y1}}.Items)).bind λz0=>some ({ Kind:={ { { p0 with Snap:={ p0.Snap with Man:=y0}} with Snap:={ { p0 with Snap:={ p0.Snap with Man:=y0}}.Snap with Locs:=y1}} with Chunks:=y2}.Kind,Snap:=({ Seq:=({ { { p0 with Snap:={ p0.Snap with Man:=y0}} with Snap:={ { p0 with Snap:={ p0.Snap with Man:=y0}}.Snap with Locs:=y1}} with Chunks:=y2}.Snap).Seq,Man:=({ Name:=(({ { { p0 with Snap:={ p0.Snap with Man:=y0}} with Snap:={ { p0 with Snap:={ p0.Snap with Man:=y0}}.Snap with Locs:=y1}} with Chunks:=y2}.Snap).Man).Name,Parts:=(({ { { p0 with Snap:={ p0.Snap with Man:=y0}} with Snap:={ { p0 with Snap:={ p0.Snap with Man:=y0}}.Snap with Locs:=y1}} with Chunks:=y2}.Snap).Man).Parts}:bG),Locs:=({ { { p0 with Snap:={ p0.Snap with Man:=y0}} with Snap:={ { p0 with Snap:={ p0.Snap with Man:=y0}}.Snap with Locs:=y1}} with Chunks:=y2}.Snap).Locs}:aI),Chunks:={ { { p0 with Snap:={ p0.Snap with Man:=y0}} with Snap:={ { p0 with Snap:={ p0.Snap with Man:=y0}}.Snap with Locs:=y1}} with Chunks:=y2}.Chunks,Seq:={ { { p0 with Snap:={ p0.Snap with Man:=y0}} with Snap:={ { p0 with Snap:={ p0.Snap with Man:=y0}}.Snap with Locs:=y1}} with Chunks:=y2}.Seq,Vol:={ { { p0 with Snap:={ p0.Snap with Man:=y0}} with Snap:={ { p0 with Snap:={ p0.Snap with Man:=y0}}.Snap with Locs:=y1}} with Chunks:=y2}.Vol,Items:=z0}:aW)
theorem W92 {w:Nat} {p0:aW} {o:aW} (h:aF) (m:M92 w p0=some o):
 aM prog 92 [.agg (aH p0)] h (λr h'=>r= .agg (aH o)/\h'=h):=by
 refine fM 26 [.cell 2 62] Tryz.func92 rfl rfl rfl rfl ?_
 unfold M92 at m
 refine v (gX rfl rfl λk2 K3=>ve λu=>bE (z6) u RU rfl rfl λk5 K6=>qk K6 rfl (v (vz [(10,some k2,.obj 62 (aH p0))] mixed (λu=>⟨λ_=>aN 1 u rfl,trivial⟩) λu=>zF 0 rfl p6 rfl (zF 1 rfl rQ rfl (zL 2 0 (.agg (bP p0.Snap.Man)) rfl p5 rfl rfl rfl ?_)))))
 obtain⟨y0,Y0,m⟩:=aC m
 refine zC 3 rfl (bW (aB3 _ Y0) rfl UQ rfl) (zF 4 rfl p6 rfl (zF 5 rfl kJ rfl (zL 6 0 (.sl none 4 (map aO p0.Snap.Locs)) rfl fO rfl rfl rfl ?_)))
 obtain⟨y1,Y1,m⟩:=aC m
 refine zC 7 rfl (bW (N3 _ Y1) rfl FC rfl) (zF 8 rfl p6 rfl (zF 9 rfl rQ rfl (zE 10 rfl (aL 1 (aH { p0 with Snap:={ p0.Snap with Man:=y0}}) u rfl rfl rfl rfl AI rfl rfl λK0=>⟨⟨λe=>absurd e (by decide),trivial⟩, ?_⟩))))
 refine zF 11 rfl p6 rfl (zF 12 rfl kJ rfl (zE 13 rfl (aL 1 (aH { { p0 with Snap:={ p0.Snap with Man:=y0}} with Snap:={ { p0 with Snap:={ p0.Snap with Man:=y0}}.Snap with Locs:=y1}}) K0 rfl rfl rfl rfl oD rfl rfl λK1=>⟨⟨λe=>absurd e (by decide),trivial⟩, ?_⟩)))
 refine zX (qk (f:=MW 15 _ _ _ _ _ _ _ _ _ _ _ _ _) K1 rfl (v (v (vz [(8,some k2,.obj 62 (aH { { p0 with Snap:={ p0.Snap with Man:=y0}} with Snap:={ { p0 with Snap:={ p0.Snap with Man:=y0}}.Snap with Locs:=y1}}))] mixed (λu=>⟨λ_=>aN 1 u rfl,trivial⟩) λu=>zF 0 rfl oX rfl (zL 1 0 (.sl none 35 (map aK ({ { p0 with Snap:={ p0.Snap with Man:=y0}} with Snap:={ { p0 with Snap:={ p0.Snap with Man:=y0}}.Snap with Locs:=y1}}.Chunks))) rfl fA rfl rfl rfl ?_)))))
 obtain⟨y2,Y2,m⟩:=aC m
 refine zC 2 rfl (bW (aH0 _ Y2) rfl N5 rfl) (zC 3 rfl (fC (.sc (.slice _ _ _)) rfl) (zF 4 rfl iE rfl (zL 5 0 (.sl none 37 (map aJ ({ { p0 with Snap:={ p0.Snap with Man:=y0}} with Snap:={ { p0 with Snap:={ p0.Snap with Man:=y0}}.Snap with Locs:=y1}}.Items))) rfl mM rfl rfl rfl (zF 7 rfl oX rfl ?_))))
 obtain⟨z0,Z0,m⟩:=aC m
 refine zE 6 rfl (oQ (c:=aJ) Z0 lM rfl rfl u nofun rfl λtg0 t0 K2=>⟨⟨λ_=>aN 2 K2 rfl,trivial⟩, ?_⟩)
 refine zE 8 rfl (aL 2 (aH { { { p0 with Snap:={ p0.Snap with Man:=y0}} with Snap:={ { p0 with Snap:={ p0.Snap with Man:=y0}}.Snap with Locs:=y1}} with Chunks:=y2}) K2 rfl rfl rfl rfl CU rfl rfl λK4=>⟨⟨λe=>absurd e (by decide),trivial⟩, ?_⟩)
 refine zF 9 rfl iE rfl (zE 10 rfl (aL 2 ([nZ ({ { { p0 with Snap:={ p0.Snap with Man:=y0}} with Snap:={ { p0 with Snap:={ p0.Snap with Man:=y0}}.Snap with Locs:=y1}} with Chunks:=y2}.Kind),nZ (({ { { p0 with Snap:={ p0.Snap with Man:=y0}} with Snap:={ { p0 with Snap:={ p0.Snap with Man:=y0}}.Snap with Locs:=y1}} with Chunks:=y2}.Snap).Seq),.sc (.string ((({ { { p0 with Snap:={ p0.Snap with Man:=y0}} with Snap:={ { p0 with Snap:={ p0.Snap with Man:=y0}}.Snap with Locs:=y1}} with Chunks:=y2}.Snap).Man).Name)),.sl none 3 (map cC ((({ { { p0 with Snap:={ p0.Snap with Man:=y0}} with Snap:={ { p0 with Snap:={ p0.Snap with Man:=y0}}.Snap with Locs:=y1}} with Chunks:=y2}.Snap).Man).Parts)),.sl none 4 (map aO (({ { { p0 with Snap:={ p0.Snap with Man:=y0}} with Snap:={ { p0 with Snap:={ p0.Snap with Man:=y0}}.Snap with Locs:=y1}} with Chunks:=y2}.Snap).Locs)),.sl none 35 (map aK ({ { { p0 with Snap:={ p0.Snap with Man:=y0}} with Snap:={ { p0 with Snap:={ p0.Snap with Man:=y0}}.Snap with Locs:=y1}} with Chunks:=y2}.Chunks)),nZ ({ { { p0 with Snap:={ p0.Snap with Man:=y0}} with Snap:={ { p0 with Snap:={ p0.Snap with Man:=y0}}.Snap with Locs:=y1}} with Chunks:=y2}.Seq),nZ ({ { { p0 with Snap:={ p0.Snap with Man:=y0}} with Snap:={ { p0 with Snap:={ p0.Snap with Man:=y0}}.Snap with Locs:=y1}} with Chunks:=y2}.Vol),ow tg0 37 (map aJ z0)]) K4 rfl rfl (jN rfl) (pW _ _ _) aF1 rfl rfl λK5=>⟨⟨λe=>absurd e (by decide),trivial⟩, ?_⟩))
 refine zX (qk (f:=.c 24 _ (.c 22 _ (.c 23 _ (fq6 21 _ _ _ _ _ _ _)))) K5 rfl (v (vl 2 (.agg ([nZ ({ { { p0 with Snap:={ p0.Snap with Man:=y0}} with Snap:={ { p0 with Snap:={ p0.Snap with Man:=y0}}.Snap with Locs:=y1}} with Chunks:=y2}.Kind),nZ (({ { { p0 with Snap:={ p0.Snap with Man:=y0}} with Snap:={ { p0 with Snap:={ p0.Snap with Man:=y0}}.Snap with Locs:=y1}} with Chunks:=y2}.Snap).Seq),.sc (.string ((({ { { p0 with Snap:={ p0.Snap with Man:=y0}} with Snap:={ { p0 with Snap:={ p0.Snap with Man:=y0}}.Snap with Locs:=y1}} with Chunks:=y2}.Snap).Man).Name)),.sl none 3 (map cC ((({ { { p0 with Snap:={ p0.Snap with Man:=y0}} with Snap:={ { p0 with Snap:={ p0.Snap with Man:=y0}}.Snap with Locs:=y1}} with Chunks:=y2}.Snap).Man).Parts)),.sl none 4 (map aO (({ { { p0 with Snap:={ p0.Snap with Man:=y0}} with Snap:={ { p0 with Snap:={ p0.Snap with Man:=y0}}.Snap with Locs:=y1}} with Chunks:=y2}.Snap).Locs)),.sl none 35 (map aK ({ { { p0 with Snap:={ p0.Snap with Man:=y0}} with Snap:={ { p0 with Snap:={ p0.Snap with Man:=y0}}.Snap with Locs:=y1}} with Chunks:=y2}.Chunks)),nZ ({ { { p0 with Snap:={ p0.Snap with Man:=y0}} with Snap:={ { p0 with Snap:={ p0.Snap with Man:=y0}}.Snap with Locs:=y1}} with Chunks:=y2}.Seq),nZ ({ { { p0 with Snap:={ p0.Snap with Man:=y0}} with Snap:={ { p0 with Snap:={ p0.Snap with Man:=y0}}.Snap with Locs:=y1}} with Chunks:=y2}.Vol),ow tg0 37 (map aJ z0)])) tC rfl rfl rfl ?_)))
 refine ve λu=>aL 1 ([nZ ({ { { p0 with Snap:={ p0.Snap with Man:=y0}} with Snap:={ { p0 with Snap:={ p0.Snap with Man:=y0}}.Snap with Locs:=y1}} with Chunks:=y2}.Kind),nZ (({ { { p0 with Snap:={ p0.Snap with Man:=y0}} with Snap:={ { p0 with Snap:={ p0.Snap with Man:=y0}}.Snap with Locs:=y1}} with Chunks:=y2}.Snap).Seq),.sc (.string ((({ { { p0 with Snap:={ p0.Snap with Man:=y0}} with Snap:={ { p0 with Snap:={ p0.Snap with Man:=y0}}.Snap with Locs:=y1}} with Chunks:=y2}.Snap).Man).Name)),.sl none 3 (map cC ((({ { { p0 with Snap:={ p0.Snap with Man:=y0}} with Snap:={ { p0 with Snap:={ p0.Snap with Man:=y0}}.Snap with Locs:=y1}} with Chunks:=y2}.Snap).Man).Parts)),.sl none 4 (map aO (({ { { p0 with Snap:={ p0.Snap with Man:=y0}} with Snap:={ { p0 with Snap:={ p0.Snap with Man:=y0}}.Snap with Locs:=y1}} with Chunks:=y2}.Snap).Locs)),.sl none 35 (map aK ({ { { p0 with Snap:={ p0.Snap with Man:=y0}} with Snap:={ { p0 with Snap:={ p0.Snap with Man:=y0}}.Snap with Locs:=y1}} with Chunks:=y2}.Chunks)),nZ ({ { { p0 with Snap:={ p0.Snap with Man:=y0}} with Snap:={ { p0 with Snap:={ p0.Snap with Man:=y0}}.Snap with Locs:=y1}} with Chunks:=y2}.Seq),nZ ({ { { p0 with Snap:={ p0.Snap with Man:=y0}} with Snap:={ { p0 with Snap:={ p0.Snap with Man:=y0}}.Snap with Locs:=y1}} with Chunks:=y2}.Vol),ow tg0 37 (map aJ z0)]) u rfl rfl rfl (by repeat (first | exact rfl | refine cI (jO _ _ _) ?_ | refine cI (bZ _ _ _) ?_ | refine cI (gY _ _ _ _) ?_ | refine cI rfl ?_)) yK rfl rfl λK7=>qk K7 rfl ?_
 refine v ?_
 cases m
 exact vr λu=>dW.of1 (.inl rfl) (sS (.agg ([nZ ({ { { p0 with Snap:={ p0.Snap with Man:=y0}} with Snap:={ { p0 with Snap:={ p0.Snap with Man:=y0}}.Snap with Locs:=y1}} with Chunks:=y2}.Kind),nZ (({ { { p0 with Snap:={ p0.Snap with Man:=y0}} with Snap:={ { p0 with Snap:={ p0.Snap with Man:=y0}}.Snap with Locs:=y1}} with Chunks:=y2}.Snap).Seq),.sc (.string ((({ { { p0 with Snap:={ p0.Snap with Man:=y0}} with Snap:={ { p0 with Snap:={ p0.Snap with Man:=y0}}.Snap with Locs:=y1}} with Chunks:=y2}.Snap).Man).Name)),.sl none 3 (map cC ((({ { { p0 with Snap:={ p0.Snap with Man:=y0}} with Snap:={ { p0 with Snap:={ p0.Snap with Man:=y0}}.Snap with Locs:=y1}} with Chunks:=y2}.Snap).Man).Parts)),.sl none 4 (map aO (({ { { p0 with Snap:={ p0.Snap with Man:=y0}} with Snap:={ { p0 with Snap:={ p0.Snap with Man:=y0}}.Snap with Locs:=y1}} with Chunks:=y2}.Snap).Locs)),.sl none 35 (map aK ({ { { p0 with Snap:={ p0.Snap with Man:=y0}} with Snap:={ { p0 with Snap:={ p0.Snap with Man:=y0}}.Snap with Locs:=y1}} with Chunks:=y2}.Chunks)),nZ ({ { { p0 with Snap:={ p0.Snap with Man:=y0}} with Snap:={ { p0 with Snap:={ p0.Snap with Man:=y0}}.Snap with Locs:=y1}} with Chunks:=y2}.Seq),nZ ({ { { p0 with Snap:={ p0.Snap with Man:=y0}} with Snap:={ { p0 with Snap:={ p0.Snap with Man:=y0}}.Snap with Locs:=y1}} with Chunks:=y2}.Vol),ow tg0 37 (map aJ z0)])) tC rfl (a9 1 u rfl) rfl) (aU (nil_sublist _) u).1 (bD.agg (.k8 (.cons ((eB _ 0 t0 u rfl)) .nil))) ⟨rfl,rfl⟩
theorem aI4:aP prog 92=true:=by kernel_rfl
def AT (m:Nat) (p0:aA) (p1:Int) (p2:Int) (p3:Int):Option (Bool):=
 after (if decide (0<=p1) then (if decide (p1 < (p0.Vols.length:Int)) then ((ix p0.Vols p1).bind λx0=>if (x0.State==p2)then Bk true else (ix p0.Vols p1).bind λx1=>Bk (x1.State==p3)) else Bk false) else Bk false:Option (Lp (Bool) (Bool))) λj0=>some j0
theorem XH {w:Nat} {p0:aA} {p1:Int} {p2:Int} {p3:Int} {o:Bool} (h:aF) {p0K:bX} {gS:cY} (ok_Snaps:bJ gS 4 p0.Snaps.length) {gC:cY} (oC:bJ gC 35 p0.Chunks.length) {gE:cY} (oE:bJ gE 3 p0.Exps.length) {gV:cY} (oV:bJ gV 4 p0.Vols.length) (K0:bT h (hC p0K p0 gS gC gE gV)) (m:AT w p0 p1 p2 p3=some o):
 aM prog 155 [.ptr p0K 0,nZ p1,nZ p2,nZ p3] (hp h (hC p0K p0 gS gC gE gV)) (λr h'=>bT h (hC p0K p0 gS gC gE gV)/\r= .sc (.bool o)/\h'=hp h (hC p0K p0 gS gC gE gV)):=by
 refine z9 K0 44 [.tmp 8] Tryz.func155 rfl rfl rfl rfl ?_
 unfold AT at m
 refine vs (v0 (vs (fP m (σ:=Bool) (λs=>(hC p0K p0 gS gC gE gV)) (λs=>.c 8 (.sc (.bool s)) .nil) (λx m=> ?_) ?_)))
 refine v0 ?_
 apply vi m<;>intro b0 m
 rw[b0]
 refine kX rfl (dY gW rfl rfl (vl 0 (aZ gV) gH rfl rfl rfl (bV (eC pM oV rfl) ?_)))
 apply vi m<;>intro b1 m
 rw[b1]
 refine kX rfl (dY gW rfl rfl (vl 0 (aZ gV) gH rfl rfl rfl ?_))
 obtain⟨x0,X0,m⟩:=aC m
 refine bV (cQ X0 kZ oV rfl rfl) (bV (cV (bJ.ne oV X0) oU rfl rfl) (vn (λu=>dX (fo:=2) (nZ x0.State) X0 eR oV cG rfl (aN 4 u rfl) (λ_=>rfl)) ?_))
 apply vi m<;>intro b2 m
 rw[b2]
 exact nI m
 rw[b2]
 refine kX rfl (dY gW rfl rfl (vl 0 (aZ gV) gH rfl rfl rfl ?_))
 obtain⟨x1,X1,m⟩:=aC m
 exact bV (cQ X1 kZ oV rfl rfl) (bV (cV (bJ.ne oV X1) oU rfl rfl) (vn (λu=>dX (fo:=2) (nZ x1.State) X1 eR oV cG rfl (aN 4 u rfl) (λ_=>rfl)) (nI m)))
 rw[b1]
 exact nI m
 rw[b0]
 exact nI m
 rintro _ j0 m
 refine v0 ?_
 obtain rfl:=eT m
 exact vr λu=>dW.of1 (.inl rfl) (gK _ _ (.sc (.bool _)) rfl) (bR u [0,1,2,3,4] rfl).2 (bD.refl _ _) ⟨(bR u [0,1,2,3,4] rfl).1,rfl,rfl⟩
theorem PE:aP prog 155=true:=by kernel_rfl
def qJ (m:Nat) (p0:List aB) (p1:aB) (q0:Int):Option (Lp (Int) ((List aB))):=
 after (if decide (q0 < (p0.length:Int)) then ((ix p0 q0).bind λx0=>(NS m x0.Id p1.Id).bind λy0=>Bk y0) else Bk false:Option (Lp (Bool) (Lp (Int) ((List aB))))) λj0=>if j0 then (Gk (wrap .i64 (q0+1))) else Bk q0
def FV (m:Nat) (p0:List aB) (p1:aB):Option ((List aB)):=
 after (aT (λs=>qJ m p0 p1 s) m 0) λr0=>after (if decide (r0 < (p0.length:Int)) then ((ix p0 r0).bind λx0=>Bk (decide (x0.Id=p1.Id))) else Bk false:Option (Lp (Bool) ((List aB)))) λj0=>if j0 then ((BT m p0).bind λy0=>(vZ m p1.Data).bind λy1=>(ix y0 r0).bind λx1=>(ix (y0.set r0.toNat ({ x1 with Staged:=true})) r0).bind λx2=>some ((y0.set r0.toNat ({ x1 with Staged:=true})).set r0.toNat ({ x2 with Data:=y1}))) else (slc p0 0 r0).bind λx3=>(app ([]:List aB) x3).bind λz0=>(app z0 ([p1]:List aB)).bind λz1=>(slc p0 r0 (p0).length).bind λx4=>(app z1 x4).bind λz2=>some z2
theorem aDL {w:Nat} {p0:List aB} {p1:aB} {o:(List aB)} (h:aF) (m:FV w p0 p1=some o):
 aM prog 153 [.sl none 35 (map aK p0),.agg (aK p1)] h (λr h'=>∃g:cY,bJ g 35 o.length/\bT h [(g.t,.obj 44 (fl aK o g.sp))]/\r=aZ g/\h'=hp h [(g.t,.obj 44 (fl aK o g.sp))]):=by
 refine fM 65 [.tmp 4] Tryz.func153 rfl rfl rfl rfl ?_
 unfold FV at m
 refine vs (v0 (gX rfl rfl λk2 K3=>vs (v0 (vs (jT m (σ:=Int) (λs=>[(some k2,.obj 44 (aK p1))]) (λs=>.c 0 (.sl none 35 (map aK p0)) (.c 3 (.ptr k2 0) (.c 5 (nZ s) .nil))) (lx (.k3 .nil)) ?_ ?_)))))
 rintro _ q0 x m
 replace m:qJ w p0 p1 q0=some x:=m
 unfold qJ at m
 refine vs (vs (fP m (σ:=Bool) (λs=>[(some k2,.obj 44 (aK p1))]) (λs=>.c 0 (.sl none 35 (map aK p0)) (.c 3 (.ptr k2 0) (.c 5 (nZ q0) (.c 21 (.sc (.bool s)) .nil)))) (λx m=> ?_) ?_))
 refine v0 (BL (by kernel_rfl) (dI kY rfl ?_))
 apply vi m<;>intro b0 m
 rw[b0]
 exact vx m fZ rfl rfl λx0 _ m=>bV (nG rP rfl rfl) (va (.agg (bF x0.Id)) fF rfl rfl (dY rP rfl rfl (vl 0 (.agg (bF p1.Id)) fF rfl rfl rfl (vk aBF UH m rfl rfl λ_ m=>fV m))))
 rw[b0]
 exact fV m
 rintro _ j0 m
 refine v0 ?_
 apply vi m<;>intro c0 m
 exact v0 (v0 (v0 (hX m)))
 exact v0 (G7 m)
 rintro _ r0 m
 refine vs (vs (fP m (σ:=Bool) (λs=>[(some k2,.obj 44 (aK p1))]) (λs=>.c 0 (.sl none 35 (map aK p0)) (.c 3 (.ptr k2 0) (.c 5 (nZ r0) (.c 37 (.sc (.bool s)) .nil)))) (λx m=> ?_) ?_))
 refine v0 (BL (by kernel_rfl) (dI kY rfl ?_))
 apply vi m<;>intro b1 m
 rw[b1]
 exact vx m fZ rfl rfl λx1 _ m=>bV (nG rP rfl rfl) (va (.agg (bF x1.Id)) fF rfl rfl (dY rP rfl rfl (vl 0 (.agg (bF p1.Id)) fF rfl rfl rfl (bV (BD EU T8 u5 ES rfl rfl) (fV m)))))
 rw[b1]
 exact fV m
 rintro _ j1 m
 refine v0 ?_
 apply vi m<;>intro c1 m
 refine vs (v0 ?_)
 obtain⟨y0,Y0,m⟩:=aC m
 refine ve λu=>dD (UR _ Y0) rfl N5 rfl ?_
 rintro x h' ⟨ag0,O0,K0,rfl,rfl⟩
 refine qk (bT.co u K0) (kW _ _ _) (vs (v0 (dY mC rfl rfl (vl 1 _ oB rfl rfl rfl (vk N4 FD m rfl rfl λy1 m=> ?_)))))
 obtain⟨x2,X0,m⟩:=aC m
 refine bV (cQ X0 fZ O0 rfl rfl) (bV (cV (bJ.ne O0 X0) pZ rfl rfl) (ve λu=>cO (fo:=32) ({ x2 with Staged:=true}:aB) 0 u X0 cX O0 rfl rfl rfl rfl (cW.refl _ _) sz4 rfl rfl λK1=>qk K1 rfl ?_))
 obtain⟨x3,X1,m⟩:=aC m
 refine bV (cQ X1 fZ (bJ.set O0) rfl rfl) (bV (cV (bJ.ne (bJ.set O0) X1) mC rfl rfl) (ve λu=>cO (fo:=33) ({ x3 with Data:=y1}:aB) 0 u X1 cX (bJ.set O0) rfl rfl rfl rfl (cW.refl _ _) EV rfl rfl λK2=>qk K2 rfl (vs (v0 (v0 ?_)))))
 cases m
 exact vr λu=>dW.one (.inl rfl) (aU (h0:=h) (L':=[(cD ag0 ((y0.set r0.toNat ({ x2 with Staged:=true})).set r0.toNat ({ x3 with Data:=y1})))]) (.cons_cons _ (.cons _ (.refl _))) u).1 (bD.refl _ _) ⟨ag0,(bJ.set (bJ.set O0)),(aU (h0:=h) (L':=[(cD ag0 ((y0.set r0.toNat ({ x2 with Staged:=true})).set r0.toNat ({ x3 with Data:=y1})))]) (.cons_cons _ (.cons _ (.refl _))) u).2,rfl,rfl⟩
 refine v0 (vs (v0 (vs (v0 (vz [(1000000,some k2,.obj 44 (aK p1))] mixed (λu=>⟨λ_=>aN 0 u rfl,trivial⟩) λu=>zC 0 rfl (fC (.sc (.slice _ _ _)) rfl) (zC 1 rfl (fC (.sl _ _ _) rfl) (zI 2 rfl rfl ?_)))))))
 obtain⟨_,X2,m⟩:=aC m
 refine zC 3 rfl (pG X2 fZ rfl rfl rfl rfl) (zL 5 0 (.agg (aK p1)) rfl nL rfl rfl rfl (zC 6 rfl (eJ (map aK ([p1]:List aB)) pK rfl rfl rfl rfl) ?_))
 obtain⟨z0,Z0,m⟩:=aC m
 refine zE 4 rfl (CM (c:=aK) Z0 pK rfl pO rfl cX rfl u rfl λag1 O1 K4=>⟨⟨λ_=>aN 1 K4 rfl,trivial⟩, ?_⟩)
 obtain⟨z1,Z1,m⟩:=aC m
 refine zE 7 rfl (gQ (c:=aK) 0 Z1 pK rfl pO rfl cX rfl rfl O1 K4 rfl λag2 O2 K5=>⟨⟨λ_=>aN 1 K5 rfl,trivial⟩, ?_⟩)
 refine zC 8 rfl (iJ (aw _ _ _) rfl) (zX (qk (f:=.c 7 _ (.c 59 _ (.c 56 _ (.c 58 _ (.c 57 _ (T5 55 _ _ _ _ _)))))) K5 rfl (vs (v0 ?_))))
 obtain⟨_,X3,m⟩:=aC m
 refine bV (pG X3 fZ rfl rfl rfl rfl) ?_
 obtain⟨z2,Z2,m⟩:=aC m
 refine ve λu=>gQ (c:=aK) 0 Z2 pK rfl pO rfl cX rfl rfl O2 u rfl λag3 O3 K6=>qk K6 rfl (v0 ?_)
 obtain rfl:=eT m
 exact vr λu=>dW.one (.inl rfl) (aU (h0:=h) (L':=[(cD ag3 z2)]) (.cons_cons _ (.cons _ (.refl _))) u).1 (bD.refl _ _) ⟨ag3,O3,(aU (h0:=h) (L':=[(cD ag3 z2)]) (.cons_cons _ (.cons _ (.refl _))) u).2,rfl,rfl⟩
theorem aDM:aP prog 153=true:=by kernel_rfl
theorem aI5 {F:Nat} {c:aA} (hF:1000<=F) (h:Sm c):ST F c=some c:=by
 rw[<- m14 (F:=F) hF h]
 rfl
theorem wru {n:Nat} (h:n < 1000000000):wrap .u64 (n:Int)=n:=by
 have e:wrap .u64 (n:Int)=(n:Int) % 18446744073709551616:=rfl
 rw[e]; omega
theorem SV (p:Int):0<=wrap .u64 p:=by
 have e:wrap .u64 p=p % 18446744073709551616:=rfl
 rw[e]; omega
theorem XI (p:Int) {n:Nat} (h0:0 < n) (hn:n < 1000000000):∃j:Nat,j < n/\wrap .i64 ((wrap .u64 p).tmod (n:Int))=(j:Int):=by
 have h1:=SV p
 generalize wrap .u64 p=a at h1
 rw[Int.tmod_eq_emod_of_nonneg h1]
 have h2:0<=a % (n:Int):=Int.emod_nonneg _ (by omega)
 have h3:a % (n:Int) < n:=Int.emod_lt_of_pos _ (by omega)
 refine⟨(a % (n:Int)).toNat,by omega, ?_⟩
 rw[wr (by omega) (by omega)]
 omega
def uO (m:Nat) (p0:aA) (p1:Int) (q0:List aI) (q1:Int):Option (Lp ((List aI)×Int) (Bool×(List aI)×(List aB))):=
 if decide (q1 < (p0.Snaps.length:Int)) then ((ix p0.Snaps q1).bind λx0=>after (if (x0.Seq !=p1)then ((ix p0.Snaps q1).bind λx1=>(app q0 ([x1]:List aI)).bind λz0=>Bk z0) else Bk q0:Option (Lp ((List aI)) (Lp ((List aI)×Int) (Bool×(List aI)×(List aB))))) λj0=>Gk (j0,wrap .i64 (q1+1))) else Bk (q0,q1)
def uP (m:Nat) (p0:aA) (r0:List aI) (q0:List aB) (q1:Int):Option (Lp ((List aB)×Int) (Bool×(List aI)×(List aB))):=
 if decide (q1 < (p0.Chunks.length:Int)) then (after ((ix p0.Chunks q1).bind λx0=>(WW m ({ Seq:=p0.Seq,Snaps:=r0,Chunks:=p0.Chunks,Exps:=p0.Exps,Vols:=p0.Vols}:aA) x0.Id).bind λy0=>after (if (!y0)then (if ((({ { x0 with Staged:=false} with Data:=([]:List Int)}.Locs).length:Int)==0)then (Rk (.brk q0)) else Bk { { x0 with Staged:=false} with Data:=([]:List Int)}) else Bk x0:Option (Lp (aB) (Lp ((List aB)) (Lp ((List aB)×Int) (Bool×(List aI)×(List aB)))))) λj0=>(app q0 ([j0]:List aB)).bind λz0=>Bk z0:Option (Lp ((List aB)) (Lp ((List aB)×Int) (Bool×(List aI)×(List aB))))) λj1=>Gk (j1,wrap .i64 (q1+1))) else Bk (q0,q1)
def DB (m:Nat) (p0:aA) (p1:Int):Option (Bool×(List aI)×(List aB)):=
 after (aT (λs=>uO m p0 p1 s.1 s.2) m ([],0)) λ⟨r0,r1⟩=>if ((r0.length:Int)==(p0.Snaps.length:Int))then (some (false,p0.Snaps,p0.Chunks)) else after (aT (λs=>uP m p0 r0 s.1 s.2) m ([],0)) λ⟨r2,r3⟩=>some (true,r0,r2)
theorem aDO {w:Nat} {p0:aA} {p1:Int} {o:Bool×(List aI)×(List aB)} (h:aF) {p0K:bX} {gS:cY} (ok_Snaps:bJ gS 4 p0.Snaps.length) {gC:cY} (oC:bJ gC 35 p0.Chunks.length) {gE:cY} (oE:bJ gE 3 p0.Exps.length) {gV:cY} (oV:bJ gV 4 p0.Vols.length) (K0:bT h (hC p0K p0 gS gC gE gV)) (m:DB w p0 p1=some o):
 aM prog 154 [.ptr p0K 0,nZ p1] (hp h (hC p0K p0 gS gC gE gV)) (λr h'=>∃g_Snaps':cY,bJ g_Snaps' 4 (o.2.1:List aI).length/\∃g_Chunks':cY,bJ g_Chunks' 35 (o.2.2:List aB).length/\bT h (hL p0K p0.Seq g_Snaps' g_Chunks' gE gV o.2.1 o.2.2 p0.Exps p0.Vols)/\r= .sc (.bool o.1)/\h'=hp h (hL p0K p0.Seq g_Snaps' g_Chunks' gE gV o.2.1 o.2.2 p0.Exps p0.Vols)):=by
 refine z9 K0 88 [.tmp 4] Tryz.func154 rfl rfl rfl rfl ?_
 unfold DB at m
 refine vs (v0 (vs (v0 (vs (vs (v0 (pJ (BI (.obj 60 (fl bQ ([]:List aI) g0.sp)) 5 (aZ g0) (fU _)) (nE m (σ:=(List aI)×Int) (τ:=cY) (λg s=>((dM g s.1)::(hC p0K p0 gS gC gE gV))) (λg s=>bJ g 4 (s.1:List aI).length) (λg s=>.c 0 (.ptr p0K 0) (.c 1 (nZ p1) (.c 5 (aZ g) (.c 6 (nZ s.2) .nil)))) g0 (bJ.g0 4) (lx (.k4 .nil)) ?_ ?_))))))))
 rintro ag0 ⟨q0,q1⟩ x O0 m
 replace m:uO w p0 p1 q0 q1=some x:=m
 unfold uO at m
 refine vs (vs (v0 (kX rfl (dY eG rfl rfl (vl 1 (aZ gS) fE rfl rfl rfl (bV (eC kN ok_Snaps rfl) (v0 ?_)))))))
 apply vi m<;>intro c0 m
 refine v0 (vs (v0 (vs (v0 (kX rfl (dY eG rfl rfl (vl 1 (aZ gS) fE rfl rfl rfl ?_)))))))
 obtain⟨x0,X0,m⟩:=aC m
 refine bV (cQ X0 jG ok_Snaps rfl rfl) (bV (cV (bJ.ne ok_Snaps X0) CW rfl rfl) (vn (λu=>dX (fo:=0) (nZ x0.Seq) X0 eV ok_Snaps cG rfl (aN 2 u rfl) (λ_=>rfl)) (oA m (σ:=(List aI)) (τ:=cY) (λg s=>((dM g s)::(hC p0K p0 gS gC gE gV))) (λg s=>bJ g 4 (s:List aI).length) (λg s=>.c 0 (.ptr p0K 0) (.c 1 (nZ p1) (.c 5 (aZ g) (.c 6 (nZ q1) .nil)))) (λx m=> ?_) ?_)))
 refine v0 ?_
 apply vi m<;>intro c1 m
 refine v0 (kX rfl (dY eG rfl rfl (vl 1 (aZ gS) fE rfl rfl rfl ?_)))
 obtain⟨x1,X1,m⟩:=aC m
 refine bV (cQ X1 jG ok_Snaps rfl rfl) (vn (λu=>dX (fo:=0) (.agg (bQ x1)) X1 eV ok_Snaps tB rfl (aN 2 u rfl) (λ_=>rfl)) (bV (eJ (map bQ ([x1]:List aI)) ET rfl rfl rfl rfl) ?_))
 obtain⟨z0,Z0,m⟩:=aC m
 exact ve λu=>gQ (c:=bQ) 0 Z0 ET rfl yJ rfl eV rfl rfl O0 u rfl λag1 O1 K1=>qk K1 rfl (eF m ag1 O1 (lx (.k4 .nil)))
 exact v0 (eF m ag0 O0 (lx (.k4 .nil)))
 rintro ag2 j0 O2 m
 exact v0 (eF m ag2 O2 (lx (.k4 .nil)))
 exact v0 (lF m ag0 O0 (lx (.k4 .nil)))
 rintro ag3 ⟨r0,r1⟩ t0 m
 refine vs (vs (v0 (bV (eC kN t0 rfl) (kX rfl (dY eG rfl rfl (vl 1 (aZ gS) fE rfl rfl rfl (bV (eC kN ok_Snaps rfl) (v0 ?_))))))))
 apply vi m<;>intro c2 m
 refine vs (v0 (v0 ?_))
 cases m
 exact vr λu=>dW.of1 (.inl rfl) (gK _ _ (.sc (.bool _)) rfl) (bR u [1,2,3,4,5] rfl).2 (bD.refl _ _) ⟨gS,ok_Snaps,gC,oC,(bR u [1,2,3,4,5] rfl).1,rfl,rfl⟩
 refine v0 (vs (v0 (kX rfl (dY eG rfl rfl (ve λu=>aL 1 ([nZ p0.Seq,aZ ag3,aZ gC,aZ gE,aZ gV]) u rfl rfl (cH rfl) (cI (bZ _ _ _) rfl) M0 rfl rfl λK2=>qk K2 rfl (vs (v0 (vs (vs (v0 (pJ (BI (.obj 44 (fl aK ([]:List aB) g0.sp)) 7 (aZ g0) (fU _)) (nE m (σ:=(List aB)×Int) (τ:=cY) (λg s=>[(cD g s.1),(dM ag3 r0),(hO p0K p0.Seq ag3 gC gE gV),(dM gS p0.Snaps),(cD gC p0.Chunks),(eW gE p0.Exps),(lO gV p0.Vols)]) (λg s=>bJ g 35 (s.1:List aB).length) (λg s=>.c 0 (.ptr p0K 0) (.c 7 (aZ g) (.c 8 (nZ s.2) .nil))) g0 (bJ.g0 35) (lx (.k3 .nil)) ?_ ?_))))))))))))
 rintro ag4 ⟨q2,q3⟩ x O3 m
 replace m:uP w p0 r0 q2 q3=some x:=m
 unfold uP at m
 refine vs (vs (v0 (kX rfl (dY eM rfl rfl (vl 2 (aZ gC) fA rfl rfl rfl (bV (eC kY oC rfl) (v0 ?_)))))))
 apply vi m<;>intro c3 m
 refine v0 (vs (oA m (σ:=(List aB)) (τ:=cY) (λg s=>[(cD g s),(dM ag3 r0),(hO p0K p0.Seq ag3 gC gE gV),(dM gS p0.Snaps),(cD gC p0.Chunks),(eW gE p0.Exps),(lO gV p0.Vols)]) (λg s=>bJ g 35 (s:List aB).length) (λg s=>.c 0 (.ptr p0K 0) (.c 7 (aZ g) (.c 8 (nZ q3) .nil))) (λx m=> ?_) ?_))
 refine v0 (vs (v0 (kX rfl (dY eM rfl rfl (vl 2 (aZ gC) fA rfl rfl rfl ?_)))))
 obtain⟨x2,X2,m⟩:=aC m
 refine bV (cQ X2 fZ oC rfl rfl) (vn (λu=>dX (fo:=0) (.agg (aK x2)) X2 cX oC nL rfl (aN 4 u rfl) (λ_=>rfl)) (ve λu=>bE (bF iC++(Q4:List AV)) u pO rfl rfl λk465 K3=>qk K3 rfl (ve λu=>aL 0 (aK x2) u rfl rfl rfl rfl AF rfl rfl λK4=>qk K4 rfl (vs (vs (v0 (BL (by kernel_rfl) (kX rfl (vl 3 (.agg ([nZ p0.Seq,aZ ag3,aZ gC,aZ gE,aZ gV])) dG rfl rfl rfl (dY rP rfl rfl (vl 0 (.agg (bF x2.Id)) fF rfl rfl rfl ?_)))))))))))
 obtain⟨_,Y0,m⟩:=aC m
 refine vn (λu=>bW (fL (.cons (Br.agg (.cons (Br.refl _ _) (.cons (Br.aw 2 eV t0 u rfl) (.cons (Br.aw 5 cX oC u rfl) (.cons (Br.aw 6 fN oE u rfl) (.cons (Br.aw 7 eR oV u rfl) .nil)))))) (.cons (Br.refl _ _) .nil)) rfl (W38 _ Y0)) rfl WX rfl) (fP m (σ:=aB) (λs=>[(some k465,.obj 44 (aK s)),(cD ag4 q2),(dM ag3 r0),(hO p0K p0.Seq ag3 gC gE gV),(dM gS p0.Snaps),(cD gC p0.Chunks),(eW gE p0.Exps),(lO gV p0.Vols)]) (λs=>.c 0 (.ptr p0K 0) (.c 7 (aZ ag4) (.c 8 (nZ q3) (.c 9 (.ptr k465 0) .nil)))) (λx m=> ?_) ?_)
 refine v0 ?_
 apply vi m<;>intro c4 m
 refine vs (v0 (dY pZ rfl rfl (ve λu=>aL 0 (aK { x2 with Staged:=false}) u rfl rfl rfl rfl sz4 rfl rfl λK5=>qk K5 rfl (dY mC rfl rfl (ve λu=>yB 0 (aK { { x2 with Staged:=false} with Data:=([]:List Int)}) u rfl rfl rfl rfl (.cons (bC _) .nil) EV rfl rfl λK6=>qk K6 rfl (vs (v0 (dY jA rfl rfl (vl 0 _ fO rfl rfl rfl (dI kC rfl (v0 ?_)))))))))))
 apply vi m<;>intro c5 m
 exact v0 (vxt m rfl λm=>eF m ag4 O3 (mG [1,2,3,4,5,6,7] rfl rfl (.k3 .nil)))
 exact v0 (fV m)
 exact v0 (fV m)
 rintro _ j1 m
 refine v0 (vl 0 (.agg (aK j1)) nL rfl rfl rfl (bV (eJ (map aK ([j1]:List aB)) pK rfl rfl rfl rfl) ?_))
 obtain⟨z1,Z1,m⟩:=aC m
 exact ve λu=>gQ (c:=aK) 1 Z1 pK rfl pO rfl cX rfl rfl O3 u rfl λag5 O4 K7=>qk K7 rfl (eF m ag5 O4 (mG [1,2,3,4,5,6,7] rfl rfl (.k3 .nil)))
 rintro ag6 j2 O5 m
 exact v0 (eF m ag6 O5 (lx (.k3 .nil)))
 exact v0 (lF m ag4 O3 (lx (.k3 .nil)))
 rintro ag7 ⟨r2,r3⟩ t1 m
 refine vs (v0 (kX rfl (dY eM rfl rfl (ve λu=>aL 2 ([nZ p0.Seq,aZ ag3,aZ ag7,aZ gE,aZ gV]) u rfl rfl (cH rfl) (cI (bZ _ _ _) rfl) CU rfl rfl λK8=>qk K8 rfl (vs (v0 (v0 ?_)))))))
 cases m
 exact vr λu=>dW.of1 (.inl rfl) (gK _ _ (.sc (.bool _)) rfl) (bR u [2,1,0,5,6] rfl).2 (bD.refl _ _) ⟨ag3,t0,ag7,t1,(bR u [2,1,0,5,6] rfl).1,rfl,rfl⟩
theorem US:aP prog 154=true:=by kernel_rfl
def mN (m:Nat) (p0:aA) (p1:aE) (p2:aS) (q0:Int):Option (Lp (Int) (Lp (Int×(List aB)×(List aQ)) (Bool×Int×BM))):=
 if decide (q0 < (p0.Snaps.length:Int)) then ((ix p0.Snaps q0).bind λx0=>if (x0.Seq==p1.Seq)then ((ix p0.Snaps q0).bind λx1=>(HX m x1.Locs p2).bind λy0=>(ix p0.Snaps q0).bind λx2=>Rk (.ret (true,p0.Seq,p0.Snaps.set q0.toNat ({ x2 with Locs:=y0}),p0.Chunks,p0.Exps))) else Gk (wrap .i64 (q0+1))) else Bk q0
def uQ (m:Nat) (p0:aA) (p1:aE) (q0:Int):Option (Lp (Int) (Lp (Int×(List aB)×(List aQ)) (Bool×Int×BM))):=
 after (if decide (q0 < (p0.Exps.length:Int)) then ((ix p0.Exps q0).bind λx0=>Bk (decide (x0.Seq < p1.Seq))) else Bk false:Option (Lp (Bool) (Lp (Int) (Lp (Int×(List aB)×(List aQ)) (Bool×Int×BM))))) λj0=>if j0 then (Gk (wrap .i64 (q0+1))) else Bk q0
def HZ (m:Nat) (p0:aA) (p1:aE) (p2:aS):Option (Bool×Int×BM):=
 after (if (p1.Kind==1)then ((LZ m ({ Seq:=p0.Seq,Snaps:=p0.Snaps,Chunks:=p0.Chunks,Exps:=p0.Exps,Vols:=p0.Vols}:aA) p1.Id).bind λy0=>if decide (y0 < 0) then (Rk (false,p0.Seq,p0.Snaps,p0.Chunks,p0.Exps)) else (ix p0.Chunks y0).bind λx0=>(HX m x0.Locs p2).bind λy1=>(ix p0.Chunks y0).bind λx1=>Bk (p0.Seq,p0.Chunks.set y0.toNat ({ x1 with Locs:=y1}),p0.Exps)) else if (p1.Kind==2)then (after (aT (λs=>mN m p0 p1 p2 s) m 0) λr0=>Rk (false,p0.Seq,p0.Snaps,p0.Chunks,p0.Exps)) else after (aT (λs=>uQ m p0 p1 s) m 0) λr1=>after (if decide (r1 < (p0.Exps.length:Int)) then ((ix p0.Exps r1).bind λx2=>Bk (x2.Seq==p1.Seq)) else Bk false:Option (Lp (Bool) (Lp (Int×(List aB)×(List aQ)) (Bool×Int×BM)))) λj0=>if j0 then ((ix p0.Exps r1).bind λx3=>(HX m x3.Locs p2).bind λy2=>(ix p0.Exps r1).bind λx4=>Rk (true,p0.Seq,p0.Snaps,p0.Chunks,p0.Exps.set r1.toNat ({ x4 with Locs:=y2}))) else (slc p0.Exps 0 r1).bind λx5=>(app ([]:List aQ) x5).bind λz0=>(app z0 ([({ Seq:=p1.Seq,Of:=p1.Of,Locs:=([p2]:List aS)}:aQ)]:List aQ)).bind λz1=>(slc p0.Exps r1 (p0.Exps).length).bind λx6=>(app z1 x6).bind λz2=>after (if decide (p0.Seq<=p1.Seq) then (Bk (decide (p1.Seq < 4611686018427387904))) else Bk false:Option (Lp (Bool) (Lp (Int×(List aB)×(List aQ)) (Bool×Int×BM)))) λj1=>after (if j1 then (Bk (wrap .i64 (p1.Seq+1))) else Bk p0.Seq:Option (Lp (Int) (Lp (Int×(List aB)×(List aQ)) (Bool×Int×BM)))) λj2=>Bk (j2,p0.Chunks,z2):Option (Lp (Int×(List aB)×(List aQ)) (Bool×Int×BM))) λ⟨j3,j4,j5⟩=>some (true,j3,p0.Snaps,j4,j5)
theorem aI6 {w:Nat} {p0:aA} {p1:aE} {p2:aS} {o:Bool×Int×BM} (h:aF) {p0K:bX} {gS:cY} (ok_Snaps:bJ gS 4 p0.Snaps.length) {gC:cY} (oC:bJ gC 35 p0.Chunks.length) {gE:cY} (oE:bJ gE 3 p0.Exps.length) {gV:cY} (oV:bJ gV 4 p0.Vols.length) (K0:bT h (hC p0K p0 gS gC gE gV)) (m:HZ w p0 p1 p2=some o):
 aM prog 156 [.ptr p0K 0,.agg (aJ p1),.agg (aO p2)] (hp h (hC p0K p0 gS gC gE gV)) (λr h'=>∃g_Snaps':cY,bJ g_Snaps' 4 (o.2.2.1:List aI).length/\∃g_Chunks':cY,bJ g_Chunks' 35 (o.2.2.2.1:List aB).length/\∃g_Exps':cY,bJ g_Exps' 3 (o.2.2.2.2:List aQ).length/\bT h (hL p0K o.2.1 g_Snaps' g_Chunks' g_Exps' gV o.2.2.1 o.2.2.2.1 o.2.2.2.2 p0.Vols)/\r= .sc (.bool o.1)/\h'=hp h (hL p0K o.2.1 g_Snaps' g_Chunks' g_Exps' gV o.2.2.1 o.2.2.2.1 o.2.2.2.2 p0.Vols)):=by
 refine z9 K0 184 [.tmp 6] Tryz.func156 rfl rfl rfl rfl ?_
 unfold HZ at m
 refine vs (v0 (gX rfl rfl λk2 K3=>gX rfl rfl λk5 K6=>vs (vs (v0 (dY m0 rfl rfl (vl 1 _ cG rfl rfl rfl (v0 (vs (v0 (oA m (σ:=Int×(List aB)×(List aQ)) (τ:=cY×cY) (λg s=>((some k5,.obj 81 (aO p2))::(some k2,.obj 38 (aJ p1))::(hL p0K s.1 gS g.1 g.2 gV p0.Snaps s.2.1 s.2.2 p0.Vols))) (λg s=>bJ g.1 35 (s.2.1:List aB).length/\bJ g.2 3 (s.2.2:List aQ).length) (λg s=>.nil) (λx m=> ?_) ?_))))))))))
 refine v0 ?_
 apply vi m<;>intro c0 m
 refine vs (v0 (BL (by kernel_rfl) (kX rfl (vl 2 (.agg ([nZ p0.Seq,aZ gS,aZ gC,aZ gE,aZ gV])) dG rfl rfl rfl (dY yF rfl rfl (vl 1 (.agg (bF p1.Id)) fF rfl rfl rfl ?_))))))
 obtain⟨_,Y0,m⟩:=aC m
 refine vn (λu=>bW (fL (.cons (Br.agg (.cons (Br.refl _ _) (.cons (Br.aw 3 eV ok_Snaps u rfl) (.cons (Br.aw 4 cX oC u rfl) (.cons (Br.aw 5 fN oE u rfl) (.cons (Br.aw 6 eR oV u rfl) .nil)))))) (.cons (Br.refl _ _) .nil)) rfl (W88 _ Y0)) rfl R0 rfl) (vs (vs (v0 (v0 ?_))))
 apply vi m<;>intro c1 m
 refine vs (v0 (v0 (gM m λm=> ?_)))
 cases m
 exact vr λu=>dW.of1 (.inl rfl) (gK _ _ (.sc (.bool _)) rfl) (bR u [2,3,4,5,6] rfl).2 (bD.refl _ _) ⟨gS,ok_Snaps,gC,oC,gE,oE,(bR u [2,3,4,5,6] rfl).1,rfl,rfl⟩
 refine v0 (v0 (vz [(1000000,some p0K,.obj 30 ([nZ p0.Seq,aZ gS,aZ gC,aZ gE,aZ gV])),(17,gC.t,.obj 44 (fl aK (p0.Chunks:List aB) gC.sp)),(1000000,some k5,.obj 81 (aO p2))] mixed (λu=>⟨λ_=>aN 2 u rfl,λ_=>aN 4 u rfl,λ_=>aN 0 u rfl,trivial⟩) λu=>zP 0 rfl rfl (zN 1 rfl rfl (zF 2 rfl eM rfl (zL 3 0 (aZ gC) rfl fA rfl rfl rfl (zI 4 rfl rfl (zP 5 rfl rfl (zN 6 rfl rfl (zF 7 rfl eM rfl (zL 8 0 (aZ gC) rfl fA rfl rfl rfl (zI 9 rfl rfl ?_)))))))))))
 obtain⟨x0,X0,m⟩:=aC m
 refine zC 10 rfl (cQ X0 fZ oC rfl rfl) (zC 11 rfl (cV (bJ.ne oC X0) jA rfl rfl) (w6 12 rfl (λ_ _ hi hB=>dX (fo:=34) (.sl none 4 (map aO x0.Locs)) X0 cX oC fO rfl (fS.get 1 hi rfl (hB 17 (by kernel_rfl))) (λ_=>rfl)) (zL 13 2 (.agg (aO p2)) rfl nM rfl rfl rfl ?_)))
 obtain⟨y0,Y1,m⟩:=aC m
 refine zC 14 rfl (bW (XF _ Y1) rfl PC rfl) ?_
 obtain⟨x1,X1,m⟩:=aC m
 refine zC 15 rfl (cQ X1 fZ oC rfl rfl) (zC 16 rfl (cV (bJ.ne oC X1) jA rfl rfl) (zE 17 rfl (cO (fo:=34) ({ x1 with Locs:=y0}:aB) 4 u X1 cX oC rfl rfl rfl rfl (cW.refl _ _) oD rfl rfl λK1=>⟨⟨λ_=>aN 2 K1 rfl,λe=>absurd e (by decide),λ_=>aN 0 K1 rfl,trivial⟩, ?_⟩)))
 exact zX (qk (f:=AE 144 _ _ _ _ _ _ _ _ _ _ _ _ _ _ _ _ _ _) K1 rfl (eF m (gC,gE) ⟨(bJ.set oC),oE⟩ (lx .nil)))
 refine vs (v0 (v0 ?_))
 apply vi m<;>intro c2 m
 refine vs (vs (v0 (jT m (σ:=Int) (λs=>((some k5,.obj 81 (aO p2))::(some k2,.obj 38 (aJ p1))::(hC p0K p0 gS gC gE gV))) (λs=>.c 0 (.ptr p0K 0) (.c 4 (.ptr k2 0) (.c 5 (.ptr k5 0) (.c 8 (nZ s) .nil)))) (lx (.k4 .nil)) ?_ ?_)))
 rintro _ q0 x m
 replace m:mN w p0 p1 p2 q0=some x:=m
 unfold mN at m
 refine vs (vs (v0 (kX rfl (dY eG rfl rfl (vl 2 (aZ gS) fE rfl rfl rfl (bV (eC kN ok_Snaps rfl) (v0 ?_)))))))
 apply vi m<;>intro c3 m
 refine v0 (vs (v0 (vs (v0 (BL (by kernel_rfl) (kX rfl (dY eG rfl rfl (vl 2 (aZ gS) fE rfl rfl rfl ?_))))))))
 obtain⟨x2,X2,m⟩:=aC m
 refine bV (cQ X2 jG ok_Snaps rfl rfl) (bV (cV (bJ.ne ok_Snaps X2) CW rfl rfl) (vn (λu=>dX (fo:=0) (nZ x2.Seq) X2 eV ok_Snaps cG rfl (aN 3 u rfl) (λ_=>rfl)) (dY mB rfl rfl (vl 1 _ cG rfl rfl rfl (v0 ?_)))))
 apply vi m<;>intro c4 m
 refine vs (v0 (vz [(1000000,some p0K,.obj 30 ([nZ p0.Seq,aZ gS,aZ gC,aZ gE,aZ gV])),(17,gS.t,.obj 60 (fl bQ (p0.Snaps:List aI) gS.sp)),(1000000,some k5,.obj 81 (aO p2))] mixed (λu=>⟨λ_=>aN 2 u rfl,λ_=>aN 3 u rfl,λ_=>aN 0 u rfl,trivial⟩) λu=>zP 0 rfl rfl (zN 1 rfl rfl (zF 2 rfl eG rfl (zL 3 0 (aZ gS) rfl fE rfl rfl rfl (zI 4 rfl rfl (zP 5 rfl rfl (zN 6 rfl rfl (zF 7 rfl eG rfl (zL 8 0 (aZ gS) rfl fE rfl rfl rfl (zI 9 rfl rfl ?_)))))))))))
 obtain⟨x3,X3,m⟩:=aC m
 refine zC 10 rfl (cQ X3 jG ok_Snaps rfl rfl) (zC 11 rfl (cV (bJ.ne ok_Snaps X3) kJ rfl rfl) (w6 12 rfl (λ_ _ hi hB=>dX (fo:=3) (.sl none 4 (map aO x3.Locs)) X3 eV ok_Snaps fO rfl (fS.get 1 hi rfl (hB 17 (by kernel_rfl))) (λ_=>rfl)) (zL 13 2 (.agg (aO p2)) rfl nM rfl rfl rfl ?_)))
 obtain⟨y1,Y2,m⟩:=aC m
 refine zC 14 rfl (bW (XF _ Y2) rfl PC rfl) ?_
 obtain⟨x4,X4,m⟩:=aC m
 refine zC 15 rfl (cQ X4 jG ok_Snaps rfl rfl) (zC 16 rfl (cV (bJ.ne ok_Snaps X4) kJ rfl rfl) (zE 17 rfl (cO (fo:=3) ({ x4 with Locs:=y1}:aI) 3 u X4 eV ok_Snaps rfl rfl rfl rfl (cW.refl _ _) oD rfl rfl λK2=>⟨⟨λ_=>aN 2 K2 rfl,λe=>absurd e (by decide),λ_=>aN 0 K2 rfl,trivial⟩, ?_⟩)))
 refine zX (qk (f:=AE 183 _ _ _ _ _ _ _ _ _ _ _ _ _ _ _ _ _ _) K2 rfl (vs (v0 (v0 (gM m λm=>gM m λm=> ?_)))))
 cases m
 exact vr λu=>dW.of1 (.inl rfl) (gK _ _ (.sc (.bool _)) rfl) (bR u [2,3,4,5,6] rfl).2 (bD.refl _ _) ⟨gS,(bJ.set ok_Snaps),gC,oC,gE,oE,(bR u [2,3,4,5,6] rfl).1,rfl,rfl⟩
 exact v0 (v0 (fV m))
 exact v0 (u0 m)
 rintro _ r0 m
 refine vs (v0 (v0 (gM m λm=> ?_)))
 cases m
 exact vr λu=>dW.of1 (.inl rfl) (gK _ _ (.sc (.bool _)) rfl) (bR u [2,3,4,5,6] rfl).2 (bD.refl _ _) ⟨gS,ok_Snaps,gC,oC,gE,oE,(bR u [2,3,4,5,6] rfl).1,rfl,rfl⟩
 refine vs (v0 (vs (jT m (σ:=Int) (λs=>((some k5,.obj 81 (aO p2))::(some k2,.obj 38 (aJ p1))::(hC p0K p0 gS gC gE gV))) (λs=>.c 0 (.ptr p0K 0) (.c 4 (.ptr k2 0) (.c 5 (.ptr k5 0) (.c 9 (nZ s) .nil)))) (lx (.k4 .nil)) ?_ ?_)))
 rintro _ q1 x m
 replace m:uQ w p0 p1 q1=some x:=m
 unfold uQ at m
 refine vs (vs (fP m (σ:=Bool) (λs=>((some k5,.obj 81 (aO p2))::(some k2,.obj 38 (aJ p1))::(hC p0K p0 gS gC gE gV))) (λs=>.c 0 (.ptr p0K 0) (.c 4 (.ptr k2 0) (.c 5 (.ptr k5 0) (.c 9 (nZ q1) (.c 32 (.sc (.bool s)) .nil))))) (λx m=> ?_) ?_))
 refine v0 (BL (by kernel_rfl) (kX rfl (dY eH rfl rfl (vl 2 (aZ gE) gN rfl rfl rfl (bV (eC nK oE rfl) ?_)))))
 apply vi m<;>intro b0 m
 rw[b0]
 refine kX rfl (dY eH rfl rfl (vl 2 (aZ gE) gN rfl rfl rfl ?_))
 obtain⟨x5,X5,m⟩:=aC m
 exact bV (cQ X5 gU oE rfl rfl) (bV (cV (bJ.ne oE X5) yM rfl rfl) (vn (λu=>dX (fo:=0) (nZ x5.Seq) X5 fN oE cG rfl (aN 5 u rfl) (λ_=>rfl)) (dY mB rfl rfl (vl 1 _ cG rfl rfl rfl (lE m)))))
 rw[b0]
 exact lE m
 rintro _ j0 m
 refine v0 ?_
 apply vi m<;>intro c5 m
 exact v0 (v0 (v0 (fV m)))
 exact v0 (u0 m)
 rintro _ r1 m
 refine vs (vs (fP m (σ:=Bool) (λs=>((some k5,.obj 81 (aO p2))::(some k2,.obj 38 (aJ p1))::(hC p0K p0 gS gC gE gV))) (λs=>.c 0 (.ptr p0K 0) (.c 4 (.ptr k2 0) (.c 5 (.ptr k5 0) (.c 9 (nZ r1) (.c 54 (.sc (.bool s)) .nil))))) (λx m=> ?_) ?_))
 refine v0 (BL (by kernel_rfl) (kX rfl (dY eH rfl rfl (vl 2 (aZ gE) gN rfl rfl rfl (bV (eC nK oE rfl) ?_)))))
 apply vi m<;>intro b1 m
 rw[b1]
 refine kX rfl (dY eH rfl rfl (vl 2 (aZ gE) gN rfl rfl rfl ?_))
 obtain⟨x6,X6,m⟩:=aC m
 exact bV (cQ X6 gU oE rfl rfl) (bV (cV (bJ.ne oE X6) yM rfl rfl) (vn (λu=>dX (fo:=0) (nZ x6.Seq) X6 fN oE cG rfl (aN 5 u rfl) (λ_=>rfl)) (dY mB rfl rfl (vl 1 _ cG rfl rfl rfl (lE m)))))
 rw[b1]
 exact lE m
 rintro _ j1 m
 refine v0 ?_
 apply vi m<;>intro c6 m
 refine vs (v0 (vz [(1000000,some p0K,.obj 30 ([nZ p0.Seq,aZ gS,aZ gC,aZ gE,aZ gV])),(17,gE.t,.obj 99 (fl cE (p0.Exps:List aQ) gE.sp)),(1000000,some k5,.obj 81 (aO p2))] mixed (λu=>⟨λ_=>aN 2 u rfl,λ_=>aN 5 u rfl,λ_=>aN 0 u rfl,trivial⟩) λu=>zP 0 rfl rfl (zN 1 rfl rfl (zF 2 rfl eH rfl (zL 3 0 (aZ gE) rfl gN rfl rfl rfl (zI 4 rfl rfl (zP 5 rfl rfl (zN 6 rfl rfl (zF 7 rfl eH rfl (zL 8 0 (aZ gE) rfl gN rfl rfl rfl (zI 9 rfl rfl ?_)))))))))))
 obtain⟨x7,X7,m⟩:=aC m
 refine zC 10 rfl (cQ X7 gU oE rfl rfl) (zC 11 rfl (cV (bJ.ne oE X7) lN rfl rfl) (w6 12 rfl (λ_ _ hi hB=>dX (fo:=2) (.sl none 4 (map aO x7.Locs)) X7 fN oE fO rfl (fS.get 1 hi rfl (hB 17 (by kernel_rfl))) (λ_=>rfl)) (zL 13 2 (.agg (aO p2)) rfl nM rfl rfl rfl ?_)))
 obtain⟨y2,Y3,m⟩:=aC m
 refine zC 14 rfl (bW (XF _ Y3) rfl PC rfl) ?_
 obtain⟨x8,X8,m⟩:=aC m
 refine zC 15 rfl (cQ X8 gU oE rfl rfl) (zC 16 rfl (cV (bJ.ne oE X8) lN rfl rfl) (zE 17 rfl (cO (fo:=2) ({ x8 with Locs:=y2}:aQ) 5 u X8 fN oE rfl rfl rfl rfl (cW.refl _ _) oD rfl rfl λK4=>⟨⟨λ_=>aN 2 K4 rfl,λe=>absurd e (by decide),λ_=>aN 0 K4 rfl,trivial⟩, ?_⟩)))
 refine zX (qk (f:=AE 71 _ _ _ _ _ _ _ _ _ _ _ _ _ _ _ _ _ _) K4 rfl (vs (v0 (v0 (gM m λm=> ?_)))))
 cases m
 exact vr λu=>dW.of1 (.inl rfl) (gK _ _ (.sc (.bool _)) rfl) (bR u [2,3,4,5,6] rfl).2 (bD.refl _ _) ⟨gS,ok_Snaps,gC,oC,gE,(bJ.set oE),(bR u [2,3,4,5,6] rfl).1,rfl,rfl⟩
 refine v0 (vs (v0 (vs (pJ (λu=>gP.fzO (n:=184) (f:=_) 5 2 ([nZ p0.Seq,aZ gS,aZ gC,.sl none 3 (map cE p0.Exps),aZ gV]) u rfl (.cons (Fz.refl _ _ _) (.cons (Fz.refl _ _ _) (.cons (Fz.refl _ _ _) (.cons (Fz.aw 5 fN oE u rfl (.refl _)) (.cons (Fz.refl _ _ _) .nil)))))) (v0 (vz [(1000000,some p0K,.obj 30 ([nZ p0.Seq,aZ gS,aZ gC,.sl none 3 (map cE p0.Exps),aZ gV])),(1000000,some k2,.obj 38 (aJ p1)),(1000000,some k5,.obj 81 (aO p2))] mixed (λu=>⟨λ_=>aN 2 u rfl,λ_=>aN 1 u rfl,λ_=>aN 0 u rfl,trivial⟩) λu=>zC 0 rfl (fC (.sc (.slice _ _ _)) rfl) (zP 1 rfl rfl (zN 2 rfl rfl (zF 3 rfl eH rfl (zL 4 0 (.sl none 3 (map cE p0.Exps)) rfl gN rfl rfl rfl (zI 5 rfl rfl ?_)))))))))))
 obtain⟨_,X9,m⟩:=aC m
 refine zC 6 rfl (pG X9 gU rfl rfl rfl rfl) (zF 8 rfl mB rfl (zL 9 1 (nZ p1.Seq) rfl cG rfl rfl rfl (zF 10 rfl yG rfl (zL 11 1 (nZ p1.Of) rfl cG rfl rfl rfl (zL 12 2 (.agg (aO p2)) rfl nM rfl rfl rfl (zC 13 rfl (eJ (map aO ([p2]:List aS)) pN rfl rfl rfl rfl) (zC 14 rfl (eQ (cE ({ Seq:=p1.Seq,Of:=p1.Of,Locs:=([p2]:List aS)}:aQ)) aAV rfl) (zC 15 rfl (eJ (map cE ([({ Seq:=p1.Seq,Of:=p1.Of,Locs:=([p2]:List aS)}:aQ)]:List aQ)) pL rfl rfl rfl rfl) ?_))))))))
 obtain⟨z0,Z0,m⟩:=aC m
 refine zE 7 rfl (CM (c:=cE) Z0 pL rfl qW rfl fN rfl u rfl λag0 O0 K5=>⟨⟨λ_=>aN 3 K5 rfl,λ_=>aN 2 K5 rfl,λ_=>aN 1 K5 rfl,trivial⟩, ?_⟩)
 obtain⟨z1,Z1,m⟩:=aC m
 refine zE 16 rfl (gQ (c:=cE) 0 Z1 pL rfl qW rfl fN rfl rfl O0 K5 rfl λag1 O1 K7=>⟨⟨λ_=>aN 3 K7 rfl,λ_=>aN 2 K7 rfl,λ_=>aN 1 K7 rfl,trivial⟩, ?_⟩)
 refine zC 17 rfl (iJ (aw _ _ _) rfl) (zX (qk (f:=.c 10 _ (.c 88 _ (.c 79 _ (T6 87 _ _ _ _ _ _ _ _ (fq7 78 _ _ _ _ _ _ _ _))))) K7 rfl (vs (v0 (kX rfl (dY eH rfl rfl (vl 3 _ gN rfl rfl rfl ?_)))))))
 obtain⟨_,X10,m⟩:=aC m
 refine bV (pG X10 gU rfl rfl rfl rfl) ?_
 obtain⟨z2,Z2,m⟩:=aC m
 refine ve λu=>gQ (c:=cE) 0 Z2 pL rfl qW rfl fN rfl rfl O1 u rfl λag2 O2 K8=>qk K8 rfl (kX rfl (dY eH rfl rfl (ve λu=>aL 3 ([nZ p0.Seq,aZ gS,aZ gC,aZ ag2,aZ gV]) u rfl rfl (cH rfl) (cI (bZ _ _ _) rfl) KH rfl rfl λK9=>qk K9 rfl (vs (fP m (σ:=Bool) (λs=>[(eW ag2 z2),(some k5,.obj 81 (aO p2)),(some k2,.obj 38 (aJ p1)),(hO p0K p0.Seq gS gC ag2 gV),(dM gS p0.Snaps),(cD gC p0.Chunks),(lO gV p0.Vols)]) (λs=>.c 0 (.ptr p0K 0) (.c 4 (.ptr k2 0) (.c 111 (.sc (.bool s)) .nil))) (λx m=> ?_) ?_)))))
 refine v0 (BL (by kernel_rfl) (dY mB rfl rfl (vl 2 _ cG rfl rfl rfl (kX rfl (dY rN rfl rfl (vl 3 _ cG rfl rfl rfl ?_))))))
 apply vi m<;>intro b2 m
 rw[b2]
 exact dY mB rfl rfl (vl 2 _ cG rfl rfl rfl (hX m))
 rw[b2]
 exact hX m
 rintro _ j2 m
 refine fP m (σ:=Int) (λs=>[(eW ag2 z2),(some k5,.obj 81 (aO p2)),(some k2,.obj 38 (aJ p1)),(hO p0K s gS gC ag2 gV),(dM gS p0.Snaps),(cD gC p0.Chunks),(lO gV p0.Vols)]) (λs=>.nil) (λx m=> ?_) ?_
 refine v0 ?_
 apply vi m<;>intro c7 m
 exact v0 (dY mB rfl rfl (vl 2 _ cG rfl rfl rfl (kX rfl (dY rN rfl rfl (ve λu=>aL 3 ([nZ (wrap .i64 (p1.Seq+1)),aZ gS,aZ gC,aZ ag2,aZ gV]) u rfl rfl rfl rfl AA rfl rfl λK10=>qk K10 rfl (gq0 m))))))
 exact v0 (gq0 m)
 rintro _ j3 m
 exact eF m (gC,ag2) ⟨oC,O2⟩ (mG [1,2,3,4,5,0,6] rfl rfl .nil)
 rintro⟨ag3,ag4⟩ ⟨j4,j5,j6⟩ ⟨O3,O4⟩ m
 refine vs (v0 (v0 ?_))
 cases m
 exact vr λu=>dW.of1 (.inl rfl) (gK _ _ (.sc (.bool _)) rfl) (bR u [2,3,4,5,6] rfl).2 (bD.refl _ _) ⟨gS,ok_Snaps,ag3,O3,ag4,O4,(bR u [2,3,4,5,6] rfl).1,rfl,rfl⟩
theorem aDP:aP prog 156=true:=by kernel_rfl
def rY (m:Nat) (p1:aW) (q0:Bool) (q1:Int):Option (Lp (Bool×Int) (Lp (Int×fD) (Int×Int×fD))):=
 if decide (q1 < (p1.Chunks.length:Int)) then (after (if q0 then ((ix p1.Chunks q1).bind λx0=>if x0.Staged then ((ix p1.Chunks q1).bind λx1=>Bk ((x1.Locs.length:Int)==0)) else Bk false) else Bk false:Option (Lp (Bool) (Lp (Bool×Int) (Lp (Int×fD) (Int×Int×fD))))) λj0=>Gk (j0,wrap .i64 (q1+1))) else Bk (q0,q1)
def wB (m:Nat) (p1:aW) (q0:List aB) (q1:Int):Option (Lp ((List aB)×Int) (Lp (Int×fD) (Int×Int×fD))):=
 if decide (q1 < (p1.Chunks.length:Int)) then ((ix p1.Chunks q1).bind λx0=>(FV m q0 x0).bind λy0=>Gk (y0,wrap .i64 (q1+1))) else Bk (q0,q1)
def rZ (m:Nat) (p1:aW) (q0:Bool) (q1:Int):Option (Lp (Bool×Int) (Lp (Int×fD) (Lp (Int×fD) (Lp (Int×fD) (Int×Int×fD))))):=
 if decide (q1 < (p1.Items.length:Int)) then (after (if q0 then ((ix p1.Items q1).bind λx0=>if decide (1<=x0.Kind) then ((ix p1.Items q1).bind λx1=>Bk (decide (x1.Kind<=3))) else Bk false) else Bk false:Option (Lp (Bool) (Lp (Bool×Int) (Lp (Int×fD) (Lp (Int×fD) (Lp (Int×fD) (Int×Int×fD))))))) λj0=>Gk (j0,wrap .i64 (q1+1))) else Bk (q0,q1)
def qK (m:Nat) (p0:aA) (p1:aW) (x0:aR) (q0:Int) (q1:List aI) (q2:List aB) (q3:List aQ) (q4:Int):Option (Lp (Int×(List aI)×(List aB)×(List aQ)×Int) (Lp (Int×fD) (Lp (Int×fD) (Lp (Int×fD) (Int×Int×fD))))):=
 if decide (q4 < (p1.Items.length:Int)) then ((ix p1.Items q4).bind λx1=>(ix p1.Items q4).bind λx2=>(ix p1.Items q4).bind λx3=>(HZ m ({ Seq:=q0,Snaps:=q1,Chunks:=q2,Exps:=q3,Vols:=(p0.Vols.set p1.Vol.toNat ({ x0 with State:=2})).set p1.Vol.toNat ({ ({ x0 with State:=2}:aR) with Files:=wrap .i64 (x0.Files+1)})}:aA) x1 ({ Vol:=p1.Vol,File:=({ ({ x0 with State:=2}:aR) with Files:=wrap .i64 (x0.Files+1)}:aR).Files,Off:=x2.Off,Len:=x3.Len}:aS)).bind λy0=>if (!y0.1)then (Rk (.ret (.ret (.ret (8,y0.2.1,y0.2.2.1,y0.2.2.2.1,y0.2.2.2.2,(p0.Vols.set p1.Vol.toNat ({ x0 with State:=2})).set p1.Vol.toNat ({ ({ x0 with State:=2}:aR) with Files:=wrap .i64 (x0.Files+1)})))))) else Gk (y0.2.1,y0.2.2.1,y0.2.2.2.1,y0.2.2.2.2,wrap .i64 (q4+1))) else Bk (q0,q1,q2,q3,q4)
def m9 (m:Nat) (p0:aA) (p1:aW) (x0:aR) (r0:Int) (r1:List aQ) (q0:List aI) (q1:List aB) (q2:Int):Option (Lp ((List aI)×(List aB)×Int) (Lp (Int×fD) (Lp (Int×fD) (Lp (Int×fD) (Int×Int×fD))))):=
 if decide (q2 < (p1.Items.length:Int)) then ((ix p1.Items q2).bind λx1=>after (if (x1.Kind==3)then ((ix p1.Items q2).bind λx2=>(DB m ({ Seq:=r0,Snaps:=q0,Chunks:=q1,Exps:=r1,Vols:=(p0.Vols.set p1.Vol.toNat ({ x0 with State:=2})).set p1.Vol.toNat ({ ({ x0 with State:=2}:aR) with Files:=wrap .i64 (x0.Files+1)})}:aA) x2.Of).bind λy0=>Bk (y0.2.1,y0.2.2)) else Bk (q0,q1):Option (Lp ((List aI)×(List aB)) (Lp ((List aI)×(List aB)×Int) (Lp (Int×fD) (Lp (Int×fD) (Lp (Int×fD) (Int×Int×fD))))))) λ⟨j0,j1⟩=>Gk (j0,j1,wrap .i64 (q2+1))) else Bk (q0,q1,q2)
def nT (m:Nat) (p0:aA) (p1:aW) (x0:aR) (r0:Int) (r1:List aQ) (r2:List aI) (q0:List aB) (q1:Int):Option (Lp ((List aB)×Int) (Lp ((List aB)) (Lp (Int×fD) (Lp (Int×fD) (Lp (Int×fD) (Int×Int×fD)))))):=
 if decide (q1 < (p1.Items.length:Int)) then ((ix p1.Items q1).bind λx1=>after (if (x1.Kind==1)then ((ix p1.Items q1).bind λx2=>(LZ m ({ Seq:=r0,Snaps:=r2,Chunks:=q0,Exps:=r1,Vols:=(p0.Vols.set p1.Vol.toNat ({ x0 with State:=2})).set p1.Vol.toNat ({ ({ x0 with State:=2}:aR) with Files:=wrap .i64 (x0.Files+1)})}:aA) x2.Id).bind λy0=>after (if decide (0<=y0) then ((ix q0 y0).bind λx3=>(ix (q0.set y0.toNat ({ x3 with Staged:=false})) y0).bind λx4=>Bk ((q0.set y0.toNat ({ x3 with Staged:=false})).set y0.toNat ({ x4 with Data:=([]:List Int)}))) else Bk q0:Option (Lp ((List aB)) (Lp ((List aB)) (Lp ((List aB)×Int) (Lp ((List aB)) (Lp (Int×fD) (Lp (Int×fD) (Lp (Int×fD) (Int×Int×fD))))))))) λj0=>Bk j0) else Bk q0:Option (Lp ((List aB)) (Lp ((List aB)×Int) (Lp ((List aB)) (Lp (Int×fD) (Lp (Int×fD) (Lp (Int×fD) (Int×Int×fD)))))))) λj1=>Gk (j1,wrap .i64 (q1+1))) else Bk (q0,q1)
def uR (m:Nat) (p0:aA) (p1:aW) (q0:List aB) (q1:Int):Option (Lp ((List aB)×Int) (Lp (fD) (Lp (Int×fD) (Lp (Int×fD) (Lp (Int×fD) (Int×Int×fD)))))):=
 if decide (q1 < (p0.Chunks.length:Int)) then ((ix p0.Chunks q1).bind λx0=>(HY m x0.Locs p1.Vol).bind λy0=>after (if ({ x0 with Locs:=y0}.Staged)then Bk true else Bk (decide (0 < (({ x0 with Locs:=y0}.Locs).length:Int))):Option (Lp (Bool) (Lp ((List aB)×Int) (Lp (fD) (Lp (Int×fD) (Lp (Int×fD) (Lp (Int×fD) (Int×Int×fD)))))))) λj0=>after (if j0 then ((app q0 ([{ x0 with Locs:=y0}]:List aB)).bind λz0=>Bk z0) else Bk q0:Option (Lp ((List aB)) (Lp ((List aB)×Int) (Lp (fD) (Lp (Int×fD) (Lp (Int×fD) (Lp (Int×fD) (Int×Int×fD)))))))) λj1=>Gk (j1,wrap .i64 (q1+1))) else Bk (q0,q1)
def uS (m:Nat) (p1:aW) (q0:List aI) (q1:Int):Option (Lp ((List aI)×Int) (Lp (fD) (Lp (Int×fD) (Lp (Int×fD) (Lp (Int×fD) (Int×Int×fD)))))):=
 if decide (q1 < (q0.length:Int)) then ((ix q0 q1).bind λx0=>(HY m x0.Locs p1.Vol).bind λy0=>(ix q0 q1).bind λx1=>Gk (q0.set q1.toNat ({ x1 with Locs:=y0}),wrap .i64 (q1+1))) else Bk (q0,q1)
def uT (m:Nat) (p0:aA) (p1:aW) (q0:List aQ) (q1:Int):Option (Lp ((List aQ)×Int) (Lp (fD) (Lp (Int×fD) (Lp (Int×fD) (Lp (Int×fD) (Int×Int×fD)))))):=
 if decide (q1 < (p0.Exps.length:Int)) then ((ix p0.Exps q1).bind λx0=>(HY m x0.Locs p1.Vol).bind λy0=>after (if decide (0 < (({ x0 with Locs:=y0}.Locs).length:Int)) then ((app q0 ([{ x0 with Locs:=y0}]:List aQ)).bind λz0=>Bk z0) else Bk q0:Option (Lp ((List aQ)) (Lp ((List aQ)×Int) (Lp (fD) (Lp (Int×fD) (Lp (Int×fD) (Lp (Int×fD) (Int×Int×fD)))))))) λj0=>Gk (j0,wrap .i64 (q1+1))) else Bk (q0,q1)
def sA (m:Nat) (p0:aA) (p1:aW):Option (Int×Int×fD):=
 after (if (p1.Kind==1)then (after (if (p1.Snap.Seq==p0.Seq)then (Bk ((p1.Snap.Locs.length:Int)==0)) else Bk false:Option (Lp (Bool) (Lp (Int×fD) (Int×Int×fD)))) λj0=>after (aT (λs=>rY m p1 s.1 s.2) m (j0,0)) λ⟨r0,r1⟩=>if (!r0)then (Rk (1,p0.Seq,p0.Snaps,p0.Chunks,p0.Exps,p0.Vols)) else (yT m ({ Seq:=p0.Seq,Snaps:=p0.Snaps,Chunks:=p0.Chunks,Exps:=p0.Exps,Vols:=p0.Vols}:aA) p1.Snap.Man.Name).bind λy0=>if decide (0<=y0) then (Rk (9,p0.Seq,p0.Snaps,p0.Chunks,p0.Exps,p0.Vols)) else (app p0.Snaps ([p1.Snap]:List aI)).bind λz0=>after (aT (λs=>wB m p1 s.1 s.2) m (p0.Chunks,0)) λ⟨r2,r3⟩=>Bk (wrap .i64 (p0.Seq+1),z0,r2,p0.Exps,p0.Vols)) else after (if (p1.Kind==2)then ((DB m ({ Seq:=p0.Seq,Snaps:=p0.Snaps,Chunks:=p0.Chunks,Exps:=p0.Exps,Vols:=p0.Vols}:aA) p1.Seq).bind λy1=>if (!y1.1)then (Rk (.ret (8,p0.Seq,y1.2.1,y1.2.2,p0.Exps,p0.Vols))) else Bk (p0.Seq,y1.2.1,y1.2.2,p0.Exps,p0.Vols)) else after (if (p1.Kind==3)then (after ((AT m ({ Seq:=p0.Seq,Snaps:=p0.Snaps,Chunks:=p0.Chunks,Exps:=p0.Exps,Vols:=p0.Vols}:aA) p1.Vol 1 2).bind λy2=>if y2 then (if decide (1<=(p1.Items.length:Int)) then (Bk (decide ((p1.Items.length:Int)<=64))) else Bk false) else Bk false:Option (Lp (Bool) (Lp (Int×fD) (Lp (Int×fD) (Lp (Int×fD) (Int×Int×fD)))))) λj1=>after (aT (λs=>rZ m p1 s.1 s.2) m (j1,0)) λ⟨r4,r5⟩=>if (!r4)then (Rk (.ret (.ret (1,p0.Seq,p0.Snaps,p0.Chunks,p0.Exps,p0.Vols)))) else (ix p0.Vols p1.Vol).bind λx0=>after (aT (λs=>qK m p0 p1 x0 s.1 s.2.1 s.2.2.1 s.2.2.2.1 s.2.2.2.2) m (p0.Seq,p0.Snaps,p0.Chunks,p0.Exps,0)) λ⟨r6,r7,r8,r9,r10⟩=>after (aT (λs=>m9 m p0 p1 x0 r6 r9 s.1 s.2.1 s.2.2) m (r7,r8,0)) λ⟨r11,r12,r13⟩=>after (if ((({ ({ x0 with State:=2}:aR) with Files:=wrap .i64 (x0.Files+1)}:aR).Pool)==0)then (after (aT (λs=>nT m p0 p1 x0 r6 r9 r11 s.1 s.2) m (r12,0)) λ⟨r14,r15⟩=>Bk r14) else Bk r12:Option (Lp ((List aB)) (Lp (Int×fD) (Lp (Int×fD) (Lp (Int×fD) (Int×Int×fD)))))) λj2=>Bk (r6,r11,j2,r9,(p0.Vols.set p1.Vol.toNat ({ x0 with State:=2})).set p1.Vol.toNat ({ ({ x0 with State:=2}:aR) with Files:=wrap .i64 (x0.Files+1)}))) else after (if (p1.Kind==4)then ((AT m ({ Seq:=p0.Seq,Snaps:=p0.Snaps,Chunks:=p0.Chunks,Exps:=p0.Exps,Vols:=p0.Vols}:aA) p1.Vol 2 2).bind λy3=>if (!y3)then (Rk (.ret (.ret (.ret (1,p0.Seq,p0.Snaps,p0.Chunks,p0.Exps,p0.Vols))))) else (ix p0.Vols p1.Vol).bind λx1=>(ix (p0.Vols.set p1.Vol.toNat ({ x1 with State:=3})) p1.Vol).bind λx2=>after (aT (λs=>uR m p0 p1 s.1 s.2) m ([],0)) λ⟨r16,r17⟩=>after (aT (λs=>uS m p1 s.1 s.2) m (p0.Snaps,0)) λ⟨r18,r19⟩=>after (aT (λs=>uT m p0 p1 s.1 s.2) m ([],0)) λ⟨r20,r21⟩=>Bk (r18,r16,r20,(p0.Vols.set p1.Vol.toNat ({ x1 with State:=3})).set p1.Vol.toNat ({ x2 with Files:=0}))) else after (if (p1.Kind==5)then ((AT m ({ Seq:=p0.Seq,Snaps:=p0.Snaps,Chunks:=p0.Chunks,Exps:=p0.Exps,Vols:=p0.Vols}:aA) p1.Vol 3 3).bind λy4=>if (!y4)then (Rk (.ret (.ret (.ret (.ret (1,p0.Seq,p0.Snaps,p0.Chunks,p0.Exps,p0.Vols)))))) else (ix p0.Vols p1.Vol).bind λx3=>(ix p0.Vols p1.Vol).bind λx4=>(ix (p0.Vols.set p1.Vol.toNat ({ x4 with State:=1})) p1.Vol).bind λx5=>Bk ((p0.Vols.set p1.Vol.toNat ({ x4 with State:=1})).set p1.Vol.toNat ({ x5 with Epoch:=wrap .i64 (x3.Epoch+1)}))) else Bk p0.Vols:Option (Lp ((List aR)) (Lp (fD) (Lp (Int×fD) (Lp (Int×fD) (Lp (Int×fD) (Int×Int×fD))))))) λj3=>Bk (p0.Snaps,p0.Chunks,p0.Exps,j3):Option (Lp (fD) (Lp (Int×fD) (Lp (Int×fD) (Lp (Int×fD) (Int×Int×fD)))))) λ⟨j4,j5,j6,j7⟩=>Bk (p0.Seq,j4,j5,j6,j7):Option (Lp (Int×fD) (Lp (Int×fD) (Lp (Int×fD) (Int×Int×fD))))) λ⟨j8,j9,j10,j11,j12⟩=>Bk (j8,j9,j10,j11,j12):Option (Lp (Int×fD) (Lp (Int×fD) (Int×Int×fD)))) λ⟨j13,j14,j15,j16,j17⟩=>Bk (j13,j14,j15,j16,j17):Option (Lp (Int×fD) (Int×Int×fD))) λ⟨j18,j19,j20,j21,j22⟩=>some (0,j18,j19,j20,j21,j22)
theorem W91 {w:Nat} {p0:aA} {p1:aW} {o:Int×Int×fD} (h:aF) {p0K:bX} {gS:cY} (ok_Snaps:bJ gS 4 p0.Snaps.length) {gC:cY} (oC:bJ gC 35 p0.Chunks.length) {gE:cY} (oE:bJ gE 3 p0.Exps.length) {gV:cY} (oV:bJ gV 4 p0.Vols.length) (K0:bT h (hC p0K p0 gS gC gE gV)) (m:sA w p0 p1=some o):
 aM prog 91 [.ptr p0K 0,.agg (aH p1)] (hp h (hC p0K p0 gS gC gE gV)) (λr h'=>∃g_Snaps':cY,bJ g_Snaps' 4 (o.2.2.1:List aI).length/\∃g_Chunks':cY,bJ g_Chunks' 35 (o.2.2.2.1:List aB).length/\∃g_Exps':cY,bJ g_Exps' 3 (o.2.2.2.2.1:List aQ).length/\∃g_Vols':cY,bJ g_Vols' 4 (o.2.2.2.2.2:List aR).length/\bT h (hL p0K o.2.1 g_Snaps' g_Chunks' g_Exps' g_Vols' o.2.2.1 o.2.2.2.1 o.2.2.2.2.1 o.2.2.2.2.2)/\r=nZ o.1/\h'=hp h (hL p0K o.2.1 g_Snaps' g_Chunks' g_Exps' g_Vols' o.2.2.1 o.2.2.2.1 o.2.2.2.2.1 o.2.2.2.2.2)):=by
 refine z9 K0 443 [.tmp 4] Tryz.func91 rfl rfl rfl rfl ?_
 unfold sA at m
 refine vs (v0 (gX rfl rfl λk2 K3=>vs (vs (v0 (dY CX rfl rfl (vl 0 _ cG rfl rfl rfl (v0 (vs (v0 (oA m (σ:=Int×fD) (τ:=cY×cY×cY×cY) (λg s=>((some k2,.obj 62 (aH p1))::(hL p0K s.1 g.1 g.2.1 g.2.2.1 g.2.2.2 s.2.1 s.2.2.1 s.2.2.2.1 s.2.2.2.2))) (λg s=>bJ g.1 4 (s.2.1:List aI).length/\bJ g.2.1 35 (s.2.2.1:List aB).length/\bJ g.2.2.1 3 (s.2.2.2.1:List aQ).length/\bJ g.2.2.2 4 (s.2.2.2.2:List aR).length) (λg s=>.nil) (λx m=> ?_) ?_))))))))))
 refine v0 ?_
 apply vi m<;>intro c0 m
 refine vs (fP m (σ:=Bool) (λs=>((some k2,.obj 62 (aH p1))::(hC p0K p0 gS gC gE gV))) (λs=>.c 0 (.ptr p0K 0) (.c 3 (.ptr k2 0) (.c 5 (.sc (.bool s)) .nil))) (λx m=> ?_) ?_)
 refine v0 (BL (by kernel_rfl) (dY p6 rfl rfl (dY CW rfl rfl (vl 0 _ cG rfl rfl rfl (kX rfl (dY rN rfl rfl (vl 1 _ cG rfl rfl rfl ?_)))))))
 apply vi m<;>intro b0 m
 rw[b0]
 exact dY p6 rfl rfl (dY kJ rfl rfl (vl 0 _ fO rfl rfl rfl (dI kC rfl (hX m))))
 rw[b0]
 exact hX m
 rintro _ j0 m
 refine vs (vs (v0 (jT m (σ:=Bool×Int) (λs=>((some k2,.obj 62 (aH p1))::(hC p0K p0 gS gC gE gV))) (λs=>.c 0 (.ptr p0K 0) (.c 3 (.ptr k2 0) (.c 5 (.sc (.bool s.1)) (.c 6 (nZ s.2) .nil)))) (lx (.k4 .nil)) ?_ ?_)))
 rintro _ ⟨q0,q1⟩ x m
 replace m:rY w p1 q0 q1=some x:=m
 unfold rY at m
 refine vs (vs (v0 (dY oX rfl rfl (vl 0 _ fA rfl rfl rfl (dI kY rfl (v0 ?_))))))
 apply vi m<;>intro c1 m
 refine v0 (vs (v0 (fP m (σ:=Bool) (λs=>((some k2,.obj 62 (aH p1))::(hC p0K p0 gS gC gE gV))) (λs=>.c 0 (.ptr p0K 0) (.c 3 (.ptr k2 0) (.c 5 (.sc (.bool s)) (.c 6 (nZ q1) .nil)))) (λx m=> ?_) ?_)))
 refine v0 ?_
 apply vi m<;>intro b1 m
 rw[b1]
 refine dY oX rfl rfl (vl 0 _ fA rfl rfl rfl (vx m fZ rfl rfl λx0 _ m=>bV (nG pZ rfl rfl) (va (.sc (.bool x0.Staged)) GH rfl rfl ?_)))
 apply vi m<;>intro b2 m
 rw[b2]
 exact dY oX rfl rfl (vl 0 _ fA rfl rfl rfl (vx m fZ rfl rfl λx1 _ m=>bV (nG jA rfl rfl) (va (.sl none 4 (map aO x1.Locs)) fO rfl rfl (dI kC rfl (fV m)))))
 rw[b2]
 exact fV m
 rw[b1]
 exact fV m
 rintro _ j1 m
 exact v0 (fV m)
 exact v0 (u0 m)
 rintro _ ⟨r0,r1⟩ m
 refine vs (vs (v0 (v0 ?_)))
 apply vi m<;>intro c2 m
 refine vs (v0 (v0 (gM m λm=> ?_)))
 cases m
 exact vr λu=>dW.of1 (.inl rfl) (gK _ _ (.sc (.int _ _)) rfl) (bR u [1,2,3,4,5] rfl).2 (bD.refl _ _) ⟨gS,ok_Snaps,gC,oC,gE,oE,gV,oV,(bR u [1,2,3,4,5] rfl).1,rfl,rfl⟩
 refine v0 (vs (vs (v0 (BL (by kernel_rfl) (kX rfl (vl 1 (.agg ([nZ p0.Seq,aZ gS,aZ gC,aZ gE,aZ gV])) dG rfl rfl rfl (dY p6 rfl rfl (dY rQ rfl rfl (dY VX rfl rfl (vl 0 _ IT rfl rfl rfl ?_))))))))))
 obtain⟨_,Y0,m⟩:=aC m
 refine vn (λu=>bW (fL (.cons (Br.agg (.cons (Br.refl _ _) (.cons (Br.aw 2 eV ok_Snaps u rfl) (.cons (Br.aw 3 cX oC u rfl) (.cons (Br.aw 4 fN oE u rfl) (.cons (Br.aw 5 eR oV u rfl) .nil)))))) (.cons (Br.refl _ _) .nil)) rfl (WD _ Y0)) rfl NU rfl) (v0 ?_)
 apply vi m<;>intro c3 m
 refine vs (v0 (v0 (gM m λm=> ?_)))
 cases m
 exact vr λu=>dW.of1 (.inl rfl) (gK _ _ (.sc (.int _ _)) rfl) (bR u [1,2,3,4,5] rfl).2 (bD.refl _ _) ⟨gS,ok_Snaps,gC,oC,gE,oE,gV,oV,(bR u [1,2,3,4,5] rfl).1,rfl,rfl⟩
 refine v0 (vs (v0 (kX rfl (dY rN rfl rfl (vl 1 _ cG rfl rfl rfl (kX rfl (dY rN rfl rfl (ve λu=>aL 1 ([nZ (wrap .i64 (p0.Seq+1)),aZ gS,aZ gC,aZ gE,aZ gV]) u rfl rfl rfl rfl AA rfl rfl λK1=>qk K1 rfl (vs (v0 (vz [(11,some p0K,.obj 30 ([nZ (wrap .i64 (p0.Seq+1)),aZ gS,aZ gC,aZ gE,aZ gV])),(1000000,some k2,.obj 62 (aH p1))] mixed (λu=>⟨λ_=>aN 1 u rfl,λ_=>aN 0 u rfl,trivial⟩) λu=>zP 0 rfl rfl (zP 1 rfl rfl (zN 2 rfl rfl (zF 3 rfl eG rfl (zL 4 0 (aZ gS) rfl fE rfl rfl rfl (zF 5 rfl p6 rfl (zL 6 1 (.agg (bQ p1.Snap)) rfl tB rfl rfl rfl (zC 7 rfl (eJ (map bQ ([p1.Snap]:List aI)) ET rfl rfl rfl rfl) ?_))))))))))))))))))
 obtain⟨z0,Z0,m⟩:=aC m
 refine zE 8 rfl (gQ (c:=bQ) 2 Z0 ET rfl yJ rfl eV rfl rfl ok_Snaps u rfl λag0 O0 K2=>⟨⟨λ_=>aN 1 K2 rfl,λ_=>aN 0 K2 rfl,trivial⟩, ?_⟩)
 refine zN 9 rfl rfl (zF 10 rfl eG rfl (zE 11 rfl (aL 1 ([nZ (wrap .i64 (p0.Seq+1)),aZ ag0,aZ gC,aZ gE,aZ gV]) K2 rfl rfl (cH rfl) (cI (bZ _ _ _) rfl) M0 rfl rfl λK4=>⟨⟨λe=>absurd e (by decide),λ_=>aN 0 K4 rfl,trivial⟩, ?_⟩)))
 refine zX (qk (f:=VP 95 _ _ _ _ _ _ _ _ _ _ _ _) K4 rfl (vs (v0 (nE m (σ:=(List aB)×Int) (τ:=cY) (λg s=>((some k2,.obj 62 (aH p1))::(hL p0K (wrap .i64 (p0.Seq+1)) ag0 g gE gV z0 s.1 p0.Exps p0.Vols))) (λg s=>bJ g 35 (s.1:List aB).length) (λg s=>.c 0 (.ptr p0K 0) (.c 3 (.ptr k2 0) (.c 7 (nZ s.2) .nil))) gC oC (lx (.k3 .nil)) ?_ ?_))))
 rintro ag1 ⟨q2,q3⟩ x O1 m
 replace m:wB w p1 q2 q3=some x:=m
 unfold wB at m
 refine vs (vs (v0 (dY oX rfl rfl (vl 0 _ fA rfl rfl rfl (dI kY rfl (v0 ?_))))))
 apply vi m<;>intro c4 m
 refine v0 (vs (v0 (v0 (vz [(13,some p0K,.obj 30 ([nZ (wrap .i64 (p0.Seq+1)),aZ ag0,aZ ag1,aZ gE,aZ gV])),(1000000,some k2,.obj 62 (aH p1))] mixed (λu=>⟨λ_=>aN 1 u rfl,λ_=>aN 0 u rfl,trivial⟩) λu=>zP 0 rfl rfl (zP 1 rfl rfl (zN 2 rfl rfl (zF 3 rfl eM rfl (zL 4 0 (aZ ag1) rfl fA rfl rfl rfl (zF 5 rfl oX rfl (zL 6 1 (.sl none 35 (map aK p1.Chunks)) rfl fA rfl rfl rfl (zI 7 rfl rfl ?_)))))))))))
 obtain⟨x2,X0,m⟩:=aC m
 refine zC 8 rfl (l4 X0 fZ rfl rfl) (zC 9 rfl (mJ (.agg (aK x2)) nL rfl rfl) ?_)
 obtain⟨_,Y1,m⟩:=aC m
 refine zE 10 rfl (G1 (s:=107) (.sl none 35 (map aK q2)) (aU (.cons_cons _ (.cons_cons _ (.cons_cons _ (.cons _ (.refl _))))) u).1 (Fz.aw 3 cX O1 u rfl (.refl _)) (dD (aDL _ Y1) rfl aDM rfl ?_))
 rintro x h' ⟨ag2,O2,K5,rfl,rfl⟩
 rw[kW]
 refine⟨⟨λ_=>aN 2 (bT.co ((aU (.cons_cons _ (.cons_cons _ (.cons_cons _ (.cons _ (.refl _))))) u).2) K5) rfl,λ_=>aN 1 (bT.co ((aU (.cons_cons _ (.cons_cons _ (.cons_cons _ (.cons _ (.refl _))))) u).2) K5) rfl,trivial⟩, ?_⟩
 refine zN 11 rfl rfl (zF 12 rfl eM rfl (zE 13 rfl (aL 2 ([nZ (wrap .i64 (p0.Seq+1)),aZ ag0,aZ ag2,aZ gE,aZ gV]) (bT.co ((aU (.cons_cons _ (.cons_cons _ (.cons_cons _ (.cons _ (.refl _))))) u).2) K5) rfl rfl (cH rfl) (cI (bZ _ _ _) rfl) CU rfl rfl λK6=>⟨⟨λe=>absurd e (by decide),λ_=>aN 1 K6 rfl,trivial⟩, ?_⟩)))
 exact zX (qk (f:=aAI 115 _ _ _ _ _ _ _ _ _ _ _ _ _ _) K6 rfl (v0 (eF m ag2 O2 (mG [1,2,3,0,4,5] rfl rfl (.k3 .nil)))))
 exact v0 (lF m ag1 O1 (lx (.k3 .nil)))
 rintro ag3 ⟨r2,r3⟩ t0 m
 exact eF m (ag0,ag3,gE,gV) ⟨O0,t0,oE,oV⟩ (lx .nil)
 refine vs (v0 (oA m (σ:=Int×fD) (τ:=cY×cY×cY×cY) (λg s=>((some k2,.obj 62 (aH p1))::(hL p0K s.1 g.1 g.2.1 g.2.2.1 g.2.2.2 s.2.1 s.2.2.1 s.2.2.2.1 s.2.2.2.2))) (λg s=>bJ g.1 4 (s.2.1:List aI).length/\bJ g.2.1 35 (s.2.2.1:List aB).length/\bJ g.2.2.1 3 (s.2.2.2.1:List aQ).length/\bJ g.2.2.2 4 (s.2.2.2.2:List aR).length) (λg s=>.nil) (λx m=> ?_) ?_))
 refine v0 ?_
 apply vi m<;>intro c5 m
 refine vs (v0 (dY VZ rfl rfl (vl 0 _ cG rfl rfl rfl ?_)))
 obtain⟨y0,Y2,m⟩:=aC m
 refine ve λu=>eA ((bB u [1,2,3,4,5,0] rfl rfl).1.trans (cM h (hC p0K p0 gS gC gE gV) [(some k2,.obj 62 (aH p1))]).symm) (dD (aDO (hp h [(some k2,.obj 62 (aH p1))]) ok_Snaps oC oE oV (cJ (hC p0K p0 gS gC gE gV) [(some k2,.obj 62 (aH p1))] (bB u [1,2,3,4,5,0] rfl rfl).2).2 Y2) rfl US rfl ?_)
 rintro x h' ⟨ag4,O3,ag5,O4,K7,rfl,rfl⟩
 have K8:=bB (L':=((some k2,.obj 62 (aH p1))::(hL p0K p0.Seq ag4 ag5 gE gV y0.2.1 y0.2.2 p0.Exps p0.Vols))) (cZ (cJ (hC p0K p0 gS gC gE gV) [(some k2,.obj 62 (aH p1))] (bB u [1,2,3,4,5,0] rfl rfl).2).1 K7) [5,0,1,2,3,4] rfl rfl
 refine qk K8.2 ((cM h (hL p0K p0.Seq ag4 ag5 gE gV y0.2.1 y0.2.2 p0.Exps p0.Vols) [(some k2,.obj 62 (aH p1))]).trans K8.1) (v0 ?_)
 apply vi m<;>intro c6 m
 refine vs (v0 (v0 (gM m λm=>gM m λm=> ?_)))
 cases m
 exact vr λu=>dW.of1 (.inl rfl) (gK _ _ (.sc (.int _ _)) rfl) (bR u [1,2,3,4,5] rfl).2 (bD.refl _ _) ⟨ag4,O3,ag5,O4,gE,oE,gV,oV,(bR u [1,2,3,4,5] rfl).1,rfl,rfl⟩
 exact v0 (eF m (ag4,ag5,gE,gV) ⟨O3,O4,oE,oV⟩ (lx .nil))
 refine vs (v0 (oA m (σ:=Int×fD) (τ:=cY×cY×cY×cY) (λg s=>((some k2,.obj 62 (aH p1))::(hL p0K s.1 g.1 g.2.1 g.2.2.1 g.2.2.2 s.2.1 s.2.2.1 s.2.2.2.1 s.2.2.2.2))) (λg s=>bJ g.1 4 (s.2.1:List aI).length/\bJ g.2.1 35 (s.2.2.1:List aB).length/\bJ g.2.2.1 3 (s.2.2.2.1:List aQ).length/\bJ g.2.2.2 4 (s.2.2.2.2:List aR).length) (λg s=>.nil) (λx m=> ?_) ?_))
 refine v0 ?_
 apply vi m<;>intro c7 m
 refine vs (fP m (σ:=Bool) (λs=>((some k2,.obj 62 (aH p1))::(hC p0K p0 gS gC gE gV))) (λs=>.c 0 (.ptr p0K 0) (.c 3 (.ptr k2 0) (.c 8 (.sc (.bool s)) .nil))) (λx m=> ?_) ?_)
 refine v0 (dY gJ rfl rfl (vl 0 _ cG rfl rfl rfl ?_))
 obtain⟨_,Y3,m⟩:=aC m
 refine ve λu=>eA ((bB u [1,2,3,4,5,0] rfl rfl).1.trans (cM h (hC p0K p0 gS gC gE gV) [(some k2,.obj 62 (aH p1))]).symm) (dD (XH (hp h [(some k2,.obj 62 (aH p1))]) ok_Snaps oC oE oV (cJ (hC p0K p0 gS gC gE gV) [(some k2,.obj 62 (aH p1))] (bB u [1,2,3,4,5,0] rfl rfl).2).2 Y3) rfl PE rfl ?_)
 rintro x h' ⟨K9,rfl,rfl⟩
 have K10:=bB (L':=((some k2,.obj 62 (aH p1))::(hC p0K p0 gS gC gE gV))) (cZ (cJ (hC p0K p0 gS gC gE gV) [(some k2,.obj 62 (aH p1))] (bB u [1,2,3,4,5,0] rfl rfl).2).1 K9) [5,0,1,2,3,4] rfl rfl
 refine qk K10.2 ((cM h (hC p0K p0 gS gC gE gV) [(some k2,.obj 62 (aH p1))]).trans K10.1) ?_
 apply vi m<;>intro b3 m
 rw[b3]
 refine dY iE rfl rfl (vl 0 _ mM rfl rfl rfl (dI mA rfl ?_))
 apply vi m<;>intro b4 m
 rw[b4]
 exact dY iE rfl rfl (vl 0 _ mM rfl rfl rfl (dI mA rfl (hX m)))
 rw[b4]
 exact hX m
 rw[b3]
 exact hX m
 rintro _ j2 m
 refine vs (vs (v0 (jT m (σ:=Bool×Int) (λs=>((some k2,.obj 62 (aH p1))::(hC p0K p0 gS gC gE gV))) (λs=>.c 0 (.ptr p0K 0) (.c 3 (.ptr k2 0) (.c 8 (.sc (.bool s.1)) (.c 9 (nZ s.2) .nil)))) (lx (.k4 .nil)) ?_ ?_)))
 rintro _ ⟨q4,q5⟩ x m
 replace m:rZ w p1 q4 q5=some x:=m
 unfold rZ at m
 refine vs (vs (v0 (dY iE rfl rfl (vl 0 _ mM rfl rfl rfl (dI mA rfl (v0 ?_))))))
 apply vi m<;>intro c8 m
 refine v0 (vs (v0 (fP m (σ:=Bool) (λs=>((some k2,.obj 62 (aH p1))::(hC p0K p0 gS gC gE gV))) (λs=>.c 0 (.ptr p0K 0) (.c 3 (.ptr k2 0) (.c 8 (.sc (.bool s)) (.c 9 (nZ q5) .nil)))) (λx m=> ?_) ?_)))
 refine v0 ?_
 apply vi m<;>intro b5 m
 rw[b5]
 refine dY iE rfl rfl (vl 0 _ mM rfl rfl rfl (vx m n3 rfl rfl λx3 _ m=>bV (nG m0 rfl rfl) (va (nZ x3.Kind) cG rfl rfl ?_)))
 apply vi m<;>intro b6 m
 rw[b6]
 exact dY iE rfl rfl (vl 0 _ mM rfl rfl rfl (vx m n3 rfl rfl λx4 _ m=>bV (nG m0 rfl rfl) (va (nZ x4.Kind) cG rfl rfl (fV m))))
 rw[b6]
 exact fV m
 rw[b5]
 exact fV m
 rintro _ j3 m
 exact v0 (fV m)
 exact v0 (u0 m)
 rintro _ ⟨r4,r5⟩ m
 refine vs (vs (v0 (v0 ?_)))
 apply vi m<;>intro c9 m
 refine vs (v0 (v0 (gM m λm=>gM m λm=>gM m λm=> ?_)))
 cases m
 exact vr λu=>dW.of1 (.inl rfl) (gK _ _ (.sc (.int _ _)) rfl) (bR u [1,2,3,4,5] rfl).2 (bD.refl _ _) ⟨gS,ok_Snaps,gC,oC,gE,oE,gV,oV,(bR u [1,2,3,4,5] rfl).1,rfl,rfl⟩
 refine v0 (vs (v0 (BL (by kernel_rfl) (kX rfl (dY gW rfl rfl (vl 1 (aZ gV) gH rfl rfl rfl (dY gJ rfl rfl (vl 0 _ cG rfl rfl rfl ?_))))))))
 obtain⟨x5,X1,m⟩:=aC m
 refine bV (cQ X1 kZ oV rfl rfl) (vs (v0 (bV (i9 (bJ.ne oV X1) rfl) (bV (cV (bJ.ne oV X1) p4 rfl rfl) (vn (λu=>dX (fo:=3) (nZ x5.Files) X1 eR oV cG rfl (aN 5 u rfl) (λ_=>rfl)) (bV (i9 (bJ.ne oV X1) rfl) (bV (cV (bJ.ne oV X1) oU rfl rfl) (ve λu=>cO (fo:=2) ({ x5 with State:=2}:aR) 5 u X1 eR oV rfl rfl rfl rfl (cW.refl _ _) AA rfl rfl λK11=>qk K11 rfl (bV (i9 (bJ.ne (bJ.set oV) (dB (x':=({ x5 with State:=2}:aR)) X1)) rfl) (bV (cV (bJ.ne (bJ.set oV) (dB (x':=({ x5 with State:=2}:aR)) X1)) p4 rfl rfl) (ve λu=>cO (fo:=3) ({ ({ x5 with State:=2}:aR) with Files:=wrap .i64 (x5.Files+1)}:aR) 5 u (dB (x':=({ x5 with State:=2}:aR)) X1) eR (bJ.set oV) rfl rfl rfl rfl (cW.refl _ _) AA rfl rfl λK12=>qk K12 rfl (vs (vs (v0 (nE m (σ:=Int×(List aI)×(List aB)×(List aQ)×Int) (τ:=cY×cY×cY) (λg s=>((some k2,.obj 62 (aH p1))::(hL p0K s.1 g.1 g.2.1 g.2.2 gV s.2.1 s.2.2.1 s.2.2.2.1 ((p0.Vols.set p1.Vol.toNat ({ x5 with State:=2})).set p1.Vol.toNat ({ ({ x5 with State:=2}:aR) with Files:=wrap .i64 (x5.Files+1)}))))) (λg s=>bJ g.1 4 (s.2.1:List aI).length/\bJ g.2.1 35 (s.2.2.1:List aB).length/\bJ g.2.2 3 (s.2.2.2.1:List aQ).length) (λg s=>.c 0 (.ptr p0K 0) (.c 3 (.ptr k2 0) (.c 10 (wW gV.t (p1.Vol.toNat*4+0)) (.c 11 (nZ s.2.2.2.2) .nil)))) (gS,gC,gE) (⟨ok_Snaps,oC,oE⟩) (lx (.k4 .nil)) ?_ ?_)))))))))))))))
 rintro⟨ag6,ag7,ag8⟩ ⟨q6,q7,q8,q9,q10⟩ x ⟨O5,O6,O7⟩ m
 replace m:qK w p0 p1 x5 q6 q7 q8 q9 q10=some x:=m
 unfold qK at m
 refine vs (vs (v0 (dY iE rfl rfl (vl 0 _ mM rfl rfl rfl (dI mA rfl (v0 ?_))))))
 apply vi m<;>intro c10 m
 refine v0 (vs (v0 (vs (v0 (vz [(1000000,some k2,.obj 62 (aH p1)),(1000000,gV.t,.obj 49 (fl dN ((p0.Vols.set p1.Vol.toNat ({ x5 with State:=2})).set p1.Vol.toNat ({ ({ x5 with State:=2}:aR) with Files:=wrap .i64 (x5.Files+1)}):List aR) gV.sp))] mixed (λu=>⟨λ_=>aN 0 u rfl,λ_=>aN 5 u rfl,trivial⟩) λu=>zP 0 rfl rfl (zF 1 rfl iE rfl (zL 2 0 (.sl none 37 (map aJ p1.Items)) rfl mM rfl rfl rfl (zI 3 rfl rfl ?_))))))))
 obtain⟨x6,X2,m⟩:=aC m
 refine zC 4 rfl (l4 X2 n3 rfl rfl) (zC 5 rfl (mJ (.agg (aJ x6)) CV rfl rfl) (zF 6 rfl gJ rfl (zL 7 0 (nZ p1.Vol) rfl cG rfl rfl rfl (zC 8 rfl (fC (wW _ _) rfl) (zC 9 rfl (i9 (bJ.ne (bJ.set (bJ.set oV)) (dB (x':=({ ({ x5 with State:=2}:aR) with Files:=wrap .i64 (x5.Files+1)}:aR)) (dB (x':=({ x5 with State:=2}:aR)) X1))) rfl) (zC 10 rfl (cV (bJ.ne (bJ.set (bJ.set oV)) (dB (x':=({ ({ x5 with State:=2}:aR) with Files:=wrap .i64 (x5.Files+1)}:aR)) (dB (x':=({ x5 with State:=2}:aR)) X1))) p4 rfl rfl) (w6 11 rfl (λ_ _ hi hB=>dX (fo:=3) (nZ (({ ({ x5 with State:=2}:aR) with Files:=wrap .i64 (x5.Files+1)}:aR).Files)) (dB (x':=({ ({ x5 with State:=2}:aR) with Files:=wrap .i64 (x5.Files+1)}:aR)) (dB (x':=({ x5 with State:=2}:aR)) X1)) eR (bJ.set (bJ.set oV)) cG rfl (fS.get 1 hi rfl (hB 1000000 (by kernel_rfl))) (λ_=>rfl)) (zF 12 rfl iE rfl (zL 13 0 (.sl none 37 (map aJ p1.Items)) rfl mM rfl rfl rfl (zI 14 rfl rfl ?_))))))))))
 obtain⟨x7,X3,m⟩:=aC m
 refine zC 15 rfl (l4 X3 n3 rfl rfl) (zC 16 rfl (nG M5 rfl rfl) (zC 17 rfl (mJ (nZ x7.Off) cG rfl rfl) (zF 18 rfl iE rfl (zL 19 0 (.sl none 37 (map aJ p1.Items)) rfl mM rfl rfl rfl (zI 20 rfl rfl ?_)))))
 obtain⟨x8,X4,m⟩:=aC m
 refine zC 21 rfl (l4 X4 n3 rfl rfl) (zC 22 rfl (nG M7 rfl rfl) (zC 23 rfl (mJ (nZ x8.Len) cG rfl rfl) (zC 24 rfl (eQ (aO ({ Vol:=p1.Vol,File:=({ ({ x5 with State:=2}:aR) with Files:=wrap .i64 (x5.Files+1)}:aR).Files,Off:=x7.Off,Len:=x8.Len}:aS)) aAU rfl) ?_)))
 obtain⟨y1,Y4,m⟩:=aC m
 refine zE 25 rfl (eA ((bB u [1,2,3,4,5,0] rfl rfl).1.trans (cM h (hL p0K q6 ag6 ag7 ag8 gV q7 q8 q9 ((p0.Vols.set p1.Vol.toNat ({ x5 with State:=2})).set p1.Vol.toNat ({ ({ x5 with State:=2}:aR) with Files:=wrap .i64 (x5.Files+1)}))) [(some k2,.obj 62 (aH p1))]).symm) (dD (aI6 (hp h [(some k2,.obj 62 (aH p1))]) O5 O6 O7 (bJ.set (bJ.set oV)) (cJ (hL p0K q6 ag6 ag7 ag8 gV q7 q8 q9 ((p0.Vols.set p1.Vol.toNat ({ x5 with State:=2})).set p1.Vol.toNat ({ ({ x5 with State:=2}:aR) with Files:=wrap .i64 (x5.Files+1)}))) [(some k2,.obj 62 (aH p1))] (bB u [1,2,3,4,5,0] rfl rfl).2).2 Y4) rfl aDP rfl ?_))
 rintro x h' ⟨ag9,O8,ag10,O9,ag11,O10,K13,rfl,rfl⟩
 have K14:=bB (L':=((some k2,.obj 62 (aH p1))::(hL p0K y1.2.1 ag9 ag10 ag11 gV y1.2.2.1 y1.2.2.2.1 y1.2.2.2.2 ((p0.Vols.set p1.Vol.toNat ({ x5 with State:=2})).set p1.Vol.toNat ({ ({ x5 with State:=2}:aR) with Files:=wrap .i64 (x5.Files+1)}))))) (cZ (cJ (hL p0K q6 ag6 ag7 ag8 gV q7 q8 q9 ((p0.Vols.set p1.Vol.toNat ({ x5 with State:=2})).set p1.Vol.toNat ({ ({ x5 with State:=2}:aR) with Files:=wrap .i64 (x5.Files+1)}))) [(some k2,.obj 62 (aH p1))] (bB u [1,2,3,4,5,0] rfl rfl).2).1 K13) [5,0,1,2,3,4] rfl rfl
 refine nH ((cM h (hL p0K y1.2.1 ag9 ag10 ag11 gV y1.2.2.1 y1.2.2.2.1 y1.2.2.2.2 ((p0.Vols.set p1.Vol.toNat ({ x5 with State:=2})).set p1.Vol.toNat ({ ({ x5 with State:=2}:aR) with Files:=wrap .i64 (x5.Files+1)}))) [(some k2,.obj 62 (aH p1))]).trans K14.1) (⟨⟨λ_=>aN 0 K14.2 rfl,λ_=>aN 5 K14.2 rfl,trivial⟩, ?_⟩)
 refine zC 26 rfl (ZV rfl) (zX (qk (f:=aFQ 220 _ _ _ _ _ _ _ _ _ _ _ _ _ _ _ _ _ _ _ _ _ _ _ _ _ _ _ _) K14.2 rfl (v0 ?_)))
 apply vi m<;>intro c11 m
 refine vs (v0 (v0 (gM m λm=>gM m λm=>gM m λm=>gM m λm=> ?_)))
 cases m
 exact vr λu=>dW.of1 (.inl rfl) (gK _ _ (.sc (.int _ _)) rfl) (bR u [1,2,3,4,5] rfl).2 (bD.refl _ _) ⟨ag9,O8,ag10,O9,ag11,O10,gV,(bJ.set (bJ.set oV)),(bR u [1,2,3,4,5] rfl).1,rfl,rfl⟩
 exact v0 (v0 (eF m (ag9,ag10,ag11) ⟨O8,O9,O10⟩ (lx (.k4 .nil))))
 exact v0 (lF m (ag6,ag7,ag8) ⟨O5,O6,O7⟩ (lx (.k4 .nil)))
 rintro⟨ag12,ag13,ag14⟩ ⟨r6,r7,r8,r9,r10⟩ ⟨t1,t2,t3⟩ m
 refine vs (vs (v0 (nE m (σ:=(List aI)×(List aB)×Int) (τ:=cY×cY) (λg s=>((some k2,.obj 62 (aH p1))::(hL p0K r6 g.1 g.2 ag14 gV s.1 s.2.1 r9 ((p0.Vols.set p1.Vol.toNat ({ x5 with State:=2})).set p1.Vol.toNat ({ ({ x5 with State:=2}:aR) with Files:=wrap .i64 (x5.Files+1)}))))) (λg s=>bJ g.1 4 (s.1:List aI).length/\bJ g.2 35 (s.2.1:List aB).length) (λg s=>.c 0 (.ptr p0K 0) (.c 3 (.ptr k2 0) (.c 10 (wW gV.t (p1.Vol.toNat*4+0)) (.c 12 (nZ s.2.2) .nil)))) (ag12,ag13) (⟨t1,t2⟩) (lx (.k4 .nil)) ?_ ?_)))
 rintro⟨ag15,ag16⟩ ⟨q11,q12,q13⟩ x ⟨O11,O12⟩ m
 replace m:m9 w p0 p1 x5 r6 r9 q11 q12 q13=some x:=m
 unfold m9 at m
 refine vs (vs (v0 (dY iE rfl rfl (vl 0 _ mM rfl rfl rfl (dI mA rfl (v0 ?_))))))
 apply vi m<;>intro c12 m
 refine v0 (vs (v0 (vs (v0 (dY iE rfl rfl (vl 0 _ mM rfl rfl rfl (vx m n3 rfl rfl λx9 _ m=>bV (nG m0 rfl rfl) (va (nZ x9.Kind) cG rfl rfl (oA m (σ:=(List aI)×(List aB)) (τ:=cY×cY) (λg s=>((some k2,.obj 62 (aH p1))::(hL p0K r6 g.1 g.2 ag14 gV s.1 s.2 r9 ((p0.Vols.set p1.Vol.toNat ({ x5 with State:=2})).set p1.Vol.toNat ({ ({ x5 with State:=2}:aR) with Files:=wrap .i64 (x5.Files+1)}))))) (λg s=>bJ g.1 4 (s.1:List aI).length/\bJ g.2 35 (s.2:List aB).length) (λg s=>.c 0 (.ptr p0K 0) (.c 3 (.ptr k2 0) (.c 10 (wW gV.t (p1.Vol.toNat*4+0)) (.c 12 (nZ q13) .nil)))) (λx m=> ?_) ?_)))))))))
 refine v0 ?_
 apply vi m<;>intro c13 m
 refine v0 (dY iE rfl rfl (vl 0 _ mM rfl rfl rfl (vx m n3 rfl rfl λx10 _ m=>bV (nG yG rfl rfl) (va (nZ x10.Of) cG rfl rfl ?_))))
 obtain⟨y2,Y5,m⟩:=aC m
 refine ve λu=>eA ((bB u [1,2,3,4,5,0] rfl rfl).1.trans (cM h (hL p0K r6 ag15 ag16 ag14 gV q11 q12 r9 ((p0.Vols.set p1.Vol.toNat ({ x5 with State:=2})).set p1.Vol.toNat ({ ({ x5 with State:=2}:aR) with Files:=wrap .i64 (x5.Files+1)}))) [(some k2,.obj 62 (aH p1))]).symm) (dD (aDO (hp h [(some k2,.obj 62 (aH p1))]) O11 O12 t3 (bJ.set (bJ.set oV)) (cJ (hL p0K r6 ag15 ag16 ag14 gV q11 q12 r9 ((p0.Vols.set p1.Vol.toNat ({ x5 with State:=2})).set p1.Vol.toNat ({ ({ x5 with State:=2}:aR) with Files:=wrap .i64 (x5.Files+1)}))) [(some k2,.obj 62 (aH p1))] (bB u [1,2,3,4,5,0] rfl rfl).2).2 Y5) rfl US rfl ?_)
 rintro x h' ⟨ag17,O13,ag18,O14,K15,rfl,rfl⟩
 have K16:=bB (L':=((some k2,.obj 62 (aH p1))::(hL p0K r6 ag17 ag18 ag14 gV y2.2.1 y2.2.2 r9 ((p0.Vols.set p1.Vol.toNat ({ x5 with State:=2})).set p1.Vol.toNat ({ ({ x5 with State:=2}:aR) with Files:=wrap .i64 (x5.Files+1)}))))) (cZ (cJ (hL p0K r6 ag15 ag16 ag14 gV q11 q12 r9 ((p0.Vols.set p1.Vol.toNat ({ x5 with State:=2})).set p1.Vol.toNat ({ ({ x5 with State:=2}:aR) with Files:=wrap .i64 (x5.Files+1)}))) [(some k2,.obj 62 (aH p1))] (bB u [1,2,3,4,5,0] rfl rfl).2).1 K15) [5,0,1,2,3,4] rfl rfl
 exact qk K16.2 ((cM h (hL p0K r6 ag17 ag18 ag14 gV y2.2.1 y2.2.2 r9 ((p0.Vols.set p1.Vol.toNat ({ x5 with State:=2})).set p1.Vol.toNat ({ ({ x5 with State:=2}:aR) with Files:=wrap .i64 (x5.Files+1)}))) [(some k2,.obj 62 (aH p1))]).trans K16.1) (eF m (ag17,ag18) ⟨O13,O14⟩ (lx (.k4 .nil)))
 exact v0 (eF m (ag15,ag16) ⟨O11,O12⟩ (lx (.k4 .nil)))
 rintro⟨ag19,ag20⟩ ⟨j4,j5⟩ ⟨O15,O16⟩ m
 exact v0 (eF m (ag19,ag20) ⟨O15,O16⟩ (lx (.k4 .nil)))
 exact v0 (lF m (ag15,ag16) ⟨O11,O12⟩ (lx (.k4 .nil)))
 rintro⟨ag21,ag22⟩ ⟨r11,r12,r13⟩ ⟨t4,t5⟩ m
 refine vs (v0 (bV (i9 (bJ.ne (bJ.set (bJ.set oV)) (dB (x':=({ ({ x5 with State:=2}:aR) with Files:=wrap .i64 (x5.Files+1)}:aR)) (dB (x':=({ x5 with State:=2}:aR)) X1))) rfl) (bV (cV (bJ.ne (bJ.set (bJ.set oV)) (dB (x':=({ ({ x5 with State:=2}:aR) with Files:=wrap .i64 (x5.Files+1)}:aR)) (dB (x':=({ x5 with State:=2}:aR)) X1))) M9 rfl rfl) (vn (λu=>dX (fo:=0) (nZ (({ ({ x5 with State:=2}:aR) with Files:=wrap .i64 (x5.Files+1)}:aR).Pool)) (dB (x':=({ ({ x5 with State:=2}:aR) with Files:=wrap .i64 (x5.Files+1)}:aR)) (dB (x':=({ x5 with State:=2}:aR)) X1)) eR (bJ.set (bJ.set oV)) cG rfl (aN 5 u rfl) (λ_=>rfl)) (oA m (σ:=(List aB)) (τ:=cY) (λg s=>((some k2,.obj 62 (aH p1))::(hL p0K r6 ag21 g ag14 gV r11 s r9 ((p0.Vols.set p1.Vol.toNat ({ x5 with State:=2})).set p1.Vol.toNat ({ ({ x5 with State:=2}:aR) with Files:=wrap .i64 (x5.Files+1)}))))) (λg s=>bJ g 35 (s:List aB).length) (λg s=>.nil) (λx m=> ?_) ?_)))))
 refine v0 ?_
 apply vi m<;>intro c14 m
 refine vs (v0 (nE m (σ:=(List aB)×Int) (τ:=cY) (λg s=>((some k2,.obj 62 (aH p1))::(hL p0K r6 ag21 g ag14 gV r11 s.1 r9 ((p0.Vols.set p1.Vol.toNat ({ x5 with State:=2})).set p1.Vol.toNat ({ ({ x5 with State:=2}:aR) with Files:=wrap .i64 (x5.Files+1)}))))) (λg s=>bJ g 35 (s.1:List aB).length) (λg s=>.c 0 (.ptr p0K 0) (.c 3 (.ptr k2 0) (.c 13 (nZ s.2) .nil))) ag22 t5 (lx (.k3 .nil)) ?_ ?_))
 rintro ag23 ⟨q14,q15⟩ x O17 m
 replace m:nT w p0 p1 x5 r6 r9 r11 q14 q15=some x:=m
 unfold nT at m
 refine vs (vs (v0 (dY iE rfl rfl (vl 0 _ mM rfl rfl rfl (dI mA rfl (v0 ?_))))))
 apply vi m<;>intro c15 m
 refine v0 (vs (v0 (vs (v0 (dY iE rfl rfl (vl 0 _ mM rfl rfl rfl (vx m n3 rfl rfl λx11 _ m=>bV (nG m0 rfl rfl) (va (nZ x11.Kind) cG rfl rfl (oA m (σ:=(List aB)) (τ:=cY) (λg s=>((some k2,.obj 62 (aH p1))::(hL p0K r6 ag21 g ag14 gV r11 s r9 ((p0.Vols.set p1.Vol.toNat ({ x5 with State:=2})).set p1.Vol.toNat ({ ({ x5 with State:=2}:aR) with Files:=wrap .i64 (x5.Files+1)}))))) (λg s=>bJ g 35 (s:List aB).length) (λg s=>.c 0 (.ptr p0K 0) (.c 3 (.ptr k2 0) (.c 13 (nZ q15) .nil))) (λx m=> ?_) ?_)))))))))
 refine v0 ?_
 apply vi m<;>intro c16 m
 refine vs (v0 (BL (by kernel_rfl) (kX rfl (vl 1 (.agg ([nZ r6,aZ ag21,aZ ag23,aZ ag14,aZ gV])) dG rfl rfl rfl (dY iE rfl rfl (vl 0 _ mM rfl rfl rfl (vx m n3 rfl rfl λx12 _ m=>bV (nG yF rfl rfl) (va (.agg (bF x12.Id)) fF rfl rfl ?_))))))))
 obtain⟨_,Y6,m⟩:=aC m
 refine vn (λu=>bW (fL (.cons (Br.agg (.cons (Br.refl _ _) (.cons (Br.aw 2 eV t4 u rfl) (.cons (Br.aw 3 cX O17 u rfl) (.cons (Br.aw 4 fN t3 u rfl) (.cons (Br.aw 5 eR (bJ.set (bJ.set oV)) u rfl) .nil)))))) (.cons (Br.refl _ _) .nil)) rfl (W88 _ Y6)) rfl R0 rfl) (vs (v0 (oA m (σ:=(List aB)) (τ:=cY) (λg s=>((some k2,.obj 62 (aH p1))::(hL p0K r6 ag21 g ag14 gV r11 s r9 ((p0.Vols.set p1.Vol.toNat ({ x5 with State:=2})).set p1.Vol.toNat ({ ({ x5 with State:=2}:aR) with Files:=wrap .i64 (x5.Files+1)}))))) (λg s=>bJ g 35 (s:List aB).length) (λg s=>.c 0 (.ptr p0K 0) (.c 3 (.ptr k2 0) (.c 13 (nZ q15) .nil))) (λx m=> ?_) ?_)))
 refine v0 ?_
 apply vi m<;>intro c17 m
 refine v0 (vz [(1000000,some p0K,.obj 30 ([nZ r6,aZ ag21,aZ ag23,aZ ag14,aZ gV]))] mixed (λu=>⟨λ_=>aN 1 u rfl,trivial⟩) λu=>zP 0 rfl rfl (zN 1 rfl rfl (zF 2 rfl eM rfl (zL 3 0 (aZ ag23) rfl fA rfl rfl rfl (zI 4 rfl rfl (zP 5 rfl rfl (zN 6 rfl rfl (zF 7 rfl eM rfl (zL 8 0 (aZ ag23) rfl fA rfl rfl rfl (zI 9 rfl rfl ?_))))))))))
 obtain⟨x13,X5,m⟩:=aC m
 refine zC 10 rfl (cQ X5 fZ O17 rfl rfl) (zC 11 rfl (cV (bJ.ne O17 X5) pZ rfl rfl) (zE 12 rfl (cO (fo:=32) ({ x13 with Staged:=false}:aB) 3 u X5 cX O17 rfl rfl rfl rfl (cW.refl _ _) sz4 rfl rfl λK17=>⟨⟨λ_=>aN 1 K17 rfl,trivial⟩, ?_⟩)))
 obtain⟨x14,X6,m⟩:=aC m
 refine zC 13 rfl (cQ X6 fZ (bJ.set O17) rfl rfl) (zC 14 rfl (cV (bJ.ne (bJ.set O17) X6) mC rfl rfl) (zE 15 rfl (cO (fo:=33) ({ x14 with Data:=([]:List Int)}:aB) 3 K17 X6 cX (bJ.set O17) rfl rfl rfl rfl (.cons (bC _) .nil) EV rfl rfl λK18=>⟨⟨λ_=>aN 1 K18 rfl,trivial⟩, ?_⟩)))
 exact zX (qk (f:=VQ 287 _ _ _ _ _ _ _ _ _ _ _ _ _ _ _) K18 rfl (eF m ag23 (bJ.set (bJ.set O17)) (lx (.k3 .nil))))
 exact v0 (eF m ag23 O17 (lx (.k3 .nil)))
 rintro ag24 j6 O18 m
 exact eF m ag24 O18 (lx (.k3 .nil))
 exact v0 (eF m ag23 O17 (lx (.k3 .nil)))
 rintro ag25 j7 O19 m
 exact v0 (eF m ag25 O19 (lx (.k3 .nil)))
 exact v0 (lF m ag23 O17 (lx (.k3 .nil)))
 rintro ag26 ⟨r14,r15⟩ t6 m
 exact eF m ag26 t6 (lx .nil)
 exact v0 (eF m ag22 t5 (lx .nil))
 rintro ag27 j8 O20 m
 exact eF m (ag21,ag27,ag14,gV) ⟨t4,O20,t3,(bJ.set (bJ.set oV))⟩ (lx .nil)
 refine vs (v0 (oA m (σ:=fD) (τ:=cY×cY×cY×cY) (λg s=>((some k2,.obj 62 (aH p1))::(hL p0K p0.Seq g.1 g.2.1 g.2.2.1 g.2.2.2 s.1 s.2.1 s.2.2.1 s.2.2.2))) (λg s=>bJ g.1 4 (s.1:List aI).length/\bJ g.2.1 35 (s.2.1:List aB).length/\bJ g.2.2.1 3 (s.2.2.1:List aQ).length/\bJ g.2.2.2 4 (s.2.2.2:List aR).length) (λg s=>.nil) (λx m=> ?_) ?_))
 refine v0 ?_
 apply vi m<;>intro c18 m
 refine vs (vs (v0 (dY gJ rfl rfl (vl 0 _ cG rfl rfl rfl ?_))))
 obtain⟨_,Y7,m⟩:=aC m
 refine ve λu=>eA ((bB u [1,2,3,4,5,0] rfl rfl).1.trans (cM h (hC p0K p0 gS gC gE gV) [(some k2,.obj 62 (aH p1))]).symm) (dD (XH (hp h [(some k2,.obj 62 (aH p1))]) ok_Snaps oC oE oV (cJ (hC p0K p0 gS gC gE gV) [(some k2,.obj 62 (aH p1))] (bB u [1,2,3,4,5,0] rfl rfl).2).2 Y7) rfl PE rfl ?_)
 rintro x h' ⟨K19,rfl,rfl⟩
 have K20:=bB (L':=((some k2,.obj 62 (aH p1))::(hC p0K p0 gS gC gE gV))) (cZ (cJ (hC p0K p0 gS gC gE gV) [(some k2,.obj 62 (aH p1))] (bB u [1,2,3,4,5,0] rfl rfl).2).1 K19) [5,0,1,2,3,4] rfl rfl
 refine qk K20.2 ((cM h (hC p0K p0 gS gC gE gV) [(some k2,.obj 62 (aH p1))]).trans K20.1) (v0 ?_)
 apply vi m<;>intro c19 m
 refine vs (v0 (v0 (gM m λm=>gM m λm=>gM m λm=>gM m λm=> ?_)))
 cases m
 exact vr λu=>dW.of1 (.inl rfl) (gK _ _ (.sc (.int _ _)) rfl) (bR u [1,2,3,4,5] rfl).2 (bD.refl _ _) ⟨gS,ok_Snaps,gC,oC,gE,oE,gV,oV,(bR u [1,2,3,4,5] rfl).1,rfl,rfl⟩
 refine v0 (vs (v0 (vz [(1000000,some p0K,.obj 30 ([nZ p0.Seq,aZ gS,aZ gC,aZ gE,aZ gV])),(1000000,some k2,.obj 62 (aH p1))] mixed (λu=>⟨λ_=>aN 1 u rfl,λ_=>aN 0 u rfl,trivial⟩) λu=>zP 0 rfl rfl (zN 1 rfl rfl (zF 2 rfl gW rfl (zL 3 0 (aZ gV) rfl gH rfl rfl rfl (zF 4 rfl gJ rfl (zL 5 1 (nZ p1.Vol) rfl cG rfl rfl rfl (zP 6 rfl rfl (zN 7 rfl rfl (zF 8 rfl gW rfl (zL 9 0 (aZ gV) rfl gH rfl rfl rfl (zF 10 rfl gJ rfl (zL 11 1 (nZ p1.Vol) rfl cG rfl rfl rfl ?_))))))))))))))
 obtain⟨x15,X7,m⟩:=aC m
 refine zC 12 rfl (cQ X7 kZ oV rfl rfl) (zC 13 rfl (cV (bJ.ne oV X7) oU rfl rfl) (zE 14 rfl (cO (fo:=2) ({ x15 with State:=3}:aR) 5 u X7 eR oV rfl rfl rfl rfl (cW.refl _ _) AA rfl rfl λK21=>⟨⟨λ_=>aN 1 K21 rfl,λ_=>aN 0 K21 rfl,trivial⟩, ?_⟩)))
 obtain⟨x16,X8,m⟩:=aC m
 refine zC 15 rfl (cQ X8 kZ (bJ.set oV) rfl rfl) (zC 16 rfl (cV (bJ.ne (bJ.set oV) X8) p4 rfl rfl) (zE 17 rfl (cO (fo:=3) ({ x16 with Files:=0}:aR) 5 K21 X8 eR (bJ.set oV) rfl rfl rfl rfl (cW.refl _ _) AA rfl rfl λK22=>⟨⟨λ_=>aN 1 K22 rfl,λ_=>aN 0 K22 rfl,trivial⟩, ?_⟩)))
 refine zX (qk (f:=MX 310 _ _ _ _ _ _ _ _ _ _ _ _ _ _ _ _ _) K22 rfl (vs (v0 (vs (vs (v0 (pJ (BI (.obj 44 (fl aK ([]:List aB) g0.sp)) 15 (aZ g0) (fU _)) (nE m (σ:=(List aB)×Int) (τ:=cY) (λg s=>((cD g s.1)::(some k2,.obj 62 (aH p1))::(hL p0K p0.Seq gS gC gE gV p0.Snaps p0.Chunks p0.Exps ((p0.Vols.set p1.Vol.toNat ({ x15 with State:=3})).set p1.Vol.toNat ({ x16 with Files:=0}))))) (λg s=>bJ g 35 (s.1:List aB).length) (λg s=>.c 0 (.ptr p0K 0) (.c 3 (.ptr k2 0) (.c 15 (aZ g) (.c 16 (nZ s.2) .nil)))) g0 (bJ.g0 35) (lx (.k4 .nil)) ?_ ?_))))))))
 rintro ag28 ⟨q16,q17⟩ x O21 m
 replace m:uR w p0 p1 q16 q17=some x:=m
 unfold uR at m
 refine vs (vs (v0 (kX rfl (dY eM rfl rfl (vl 2 (aZ gC) fA rfl rfl rfl (bV (eC kY oC rfl) (v0 ?_)))))))
 apply vi m<;>intro c20 m
 refine v0 (vs (v0 (vs (v0 (kX rfl (dY eM rfl rfl (vl 2 (aZ gC) fA rfl rfl rfl ?_)))))))
 obtain⟨x17,X9,m⟩:=aC m
 refine bV (cQ X9 fZ oC rfl rfl) (vn (λu=>dX (fo:=0) (.agg (aK x17)) X9 cX oC nL rfl (aN 4 u rfl) (λ_=>rfl)) (ve λu=>bE (bF iC++(Q4:List AV)) u pO rfl rfl λk15855 K23=>qk K23 rfl (ve λu=>aL 0 (aK x17) u rfl rfl rfl rfl AF rfl rfl λK24=>qk K24 rfl (vs (v0 (dY jA rfl rfl (vl 0 _ fO rfl rfl rfl (dY gJ rfl rfl (vl 2 _ cG rfl rfl rfl (vk XG PD m rfl rfl λy3 m=>dY jA rfl rfl (ve λu=>aL 0 (aK { x17 with Locs:=y3}) u rfl rfl rfl rfl oD rfl rfl λK25=>qk K25 rfl (vs (fP m (σ:=Bool) (λs=>((some k15855,.obj 44 (aK { x17 with Locs:=y3}))::(cD ag28 q16)::(some k2,.obj 62 (aH p1))::(hL p0K p0.Seq gS gC gE gV p0.Snaps p0.Chunks p0.Exps ((p0.Vols.set p1.Vol.toNat ({ x15 with State:=3})).set p1.Vol.toNat ({ x16 with Files:=0}))))) (λs=>.c 0 (.ptr p0K 0) (.c 3 (.ptr k2 0) (.c 15 (aZ ag28) (.c 16 (nZ q17) (.c 17 (.ptr k15855 0) (.c 340 (.sc (.bool s)) .nil)))))) (λx m=> ?_) ?_)))))))))))))
 refine v0 (dY pZ rfl rfl (vl 0 _ GH rfl rfl rfl ?_))
 apply vi m<;>intro b7 m
 rw[b7]
 exact nF m
 rw[b7]
 exact dY jA rfl rfl (vl 0 _ fO rfl rfl rfl (dI kC rfl (nF m)))
 rintro _ j9 m
 refine oA m (σ:=(List aB)) (τ:=cY) (λg s=>((some k15855,.obj 44 (aK { x17 with Locs:=y3}))::(cD g s)::(some k2,.obj 62 (aH p1))::(hL p0K p0.Seq gS gC gE gV p0.Snaps p0.Chunks p0.Exps ((p0.Vols.set p1.Vol.toNat ({ x15 with State:=3})).set p1.Vol.toNat ({ x16 with Files:=0}))))) (λg s=>bJ g 35 (s:List aB).length) (λg s=>.c 0 (.ptr p0K 0) (.c 3 (.ptr k2 0) (.c 15 (aZ g) (.c 16 (nZ q17) .nil)))) (λx m=> ?_) ?_
 refine v0 ?_
 apply vi m<;>intro c21 m
 refine v0 (vl 0 (.agg (aK { x17 with Locs:=y3})) nL rfl rfl rfl (bV (eJ (map aK ([{ x17 with Locs:=y3}]:List aB)) pK rfl rfl rfl rfl) ?_))
 obtain⟨z1,Z1,m⟩:=aC m
 exact ve λu=>gQ (c:=aK) 1 Z1 pK rfl pO rfl cX rfl rfl O21 u rfl λag29 O22 K26=>qk K26 rfl (eF m ag29 O22 (lx (.k4 .nil)))
 exact v0 (eF m ag28 O21 (lx (.k4 .nil)))
 rintro ag30 j10 O23 m
 exact v0 (eF m ag30 O23 (mG [1,2,3,4,5,6,7] rfl rfl (.k4 .nil)))
 exact v0 (lF m ag28 O21 (lx (.k4 .nil)))
 rintro ag31 ⟨r16,r17⟩ t7 m
 refine vs (v0 (kX rfl (dY eM rfl rfl (ve λu=>aL 2 ([nZ p0.Seq,aZ gS,aZ ag31,aZ gE,aZ gV]) u rfl rfl (cH rfl) (cI (bZ _ _ _) rfl) CU rfl rfl λK27=>qk K27 rfl (vs (vs (v0 (nE m (σ:=(List aI)×Int) (τ:=cY) (λg s=>[(cD ag31 r16),(some k2,.obj 62 (aH p1)),(hO p0K p0.Seq g ag31 gE gV),(dM g s.1),(cD gC p0.Chunks),(eW gE p0.Exps),(lO gV ((p0.Vols.set p1.Vol.toNat ({ x15 with State:=3})).set p1.Vol.toNat ({ x16 with Files:=0})))]) (λg s=>bJ g 4 (s.1:List aI).length) (λg s=>.c 0 (.ptr p0K 0) (.c 3 (.ptr k2 0) (.c 18 (nZ s.2) .nil))) gS ok_Snaps (lx (.k3 .nil)) ?_ ?_))))))))
 rintro ag32 ⟨q18,q19⟩ x O24 m
 replace m:uS w p1 q18 q19=some x:=m
 unfold uS at m
 refine vs (vs (v0 (kX rfl (dY eG rfl rfl (vl 2 (aZ ag32) fE rfl rfl rfl (bV (eC kN O24 rfl) (v0 ?_)))))))
 apply vi m<;>intro c22 m
 refine v0 (vs (v0 (v0 (vz [(1000000,some p0K,.obj 30 ([nZ p0.Seq,aZ ag32,aZ ag31,aZ gE,aZ gV])),(18,ag32.t,.obj 60 (fl bQ (q18:List aI) ag32.sp)),(1000000,some k2,.obj 62 (aH p1))] mixed (λu=>⟨λ_=>aN 2 u rfl,λ_=>aN 3 u rfl,λ_=>aN 1 u rfl,trivial⟩) λu=>zP 0 rfl rfl (zN 1 rfl rfl (zF 2 rfl eG rfl (zL 3 0 (aZ ag32) rfl fE rfl rfl rfl (zI 4 rfl rfl (zP 5 rfl rfl (zN 6 rfl rfl (zF 7 rfl eG rfl (zL 8 0 (aZ ag32) rfl fE rfl rfl rfl (zI 9 rfl rfl ?_)))))))))))))
 obtain⟨x18,X10,m⟩:=aC m
 refine zC 10 rfl (cQ X10 jG O24 rfl rfl) (zC 11 rfl (cV (bJ.ne O24 X10) kJ rfl rfl) (w6 12 rfl (λ_ _ hi hB=>dX (fo:=3) (.sl none 4 (map aO x18.Locs)) X10 eV O24 fO rfl (fS.get 1 hi rfl (hB 18 (by kernel_rfl))) (λ_=>rfl)) (zF 13 rfl gJ rfl (zL 14 2 (nZ p1.Vol) rfl cG rfl rfl rfl ?_))))
 obtain⟨y4,Y8,m⟩:=aC m
 refine zC 15 rfl (bW (XG _ Y8) rfl PD rfl) ?_
 obtain⟨x19,X11,m⟩:=aC m
 refine zC 16 rfl (cQ X11 jG O24 rfl rfl) (zC 17 rfl (cV (bJ.ne O24 X11) kJ rfl rfl) (zE 18 rfl (cO (fo:=3) ({ x19 with Locs:=y4}:aI) 3 u X11 eV O24 rfl rfl rfl rfl (cW.refl _ _) oD rfl rfl λK28=>⟨⟨λ_=>aN 2 K28 rfl,λe=>absurd e (by decide),λ_=>aN 1 K28 rfl,trivial⟩, ?_⟩)))
 exact zX (qk (f:=aFO 375 _ _ _ _ _ _ _ _ _ _ _ _ _ _ _ _ _ _ _) K28 rfl (v0 (eF m ag32 (bJ.set O24) (lx (.k3 .nil)))))
 exact v0 (lF m ag32 O24 (lx (.k3 .nil)))
 rintro ag33 ⟨r18,r19⟩ t8 m
 refine vs (v0 (vs (vs (v0 (pJ (BI (.obj 99 (fl cE ([]:List aQ) g0.sp)) 19 (aZ g0) (fU _)) (nE m (σ:=(List aQ)×Int) (τ:=cY) (λg s=>[(eW g s.1),(cD ag31 r16),(some k2,.obj 62 (aH p1)),(hO p0K p0.Seq ag33 ag31 gE gV),(dM ag33 r18),(cD gC p0.Chunks),(eW gE p0.Exps),(lO gV ((p0.Vols.set p1.Vol.toNat ({ x15 with State:=3})).set p1.Vol.toNat ({ x16 with Files:=0})))]) (λg s=>bJ g 3 (s.1:List aQ).length) (λg s=>.c 0 (.ptr p0K 0) (.c 3 (.ptr k2 0) (.c 19 (aZ g) (.c 20 (nZ s.2) .nil)))) g0 (bJ.g0 3) (lx (.k4 .nil)) ?_ ?_))))))
 rintro ag34 ⟨q20,q21⟩ x O25 m
 replace m:uT w p0 p1 q20 q21=some x:=m
 unfold uT at m
 refine vs (vs (v0 (kX rfl (dY eH rfl rfl (vl 3 (aZ gE) gN rfl rfl rfl (bV (eC nK oE rfl) (v0 ?_)))))))
 apply vi m<;>intro c23 m
 refine v0 (vs (v0 (vs (v0 (kX rfl (dY eH rfl rfl (vl 3 (aZ gE) gN rfl rfl rfl ?_)))))))
 obtain⟨x20,X12,m⟩:=aC m
 refine bV (cQ X12 gU oE rfl rfl) (vn (λu=>dX (fo:=0) (.agg (cE x20)) X12 fN oE tD rfl (aN 6 u rfl) (λ_=>rfl)) (ve λu=>bE ([nZ 0,nZ 0,sZ]) u qW rfl rfl λk16100 K29=>qk K29 rfl (ve λu=>aL 0 (cE x20) u rfl rfl rfl rfl EY rfl rfl λK30=>qk K30 rfl (vs (v0 (dY lN rfl rfl (vl 0 _ fO rfl rfl rfl (dY gJ rfl rfl (vl 3 _ cG rfl rfl rfl (vk XG PD m rfl rfl λy5 m=>dY lN rfl rfl (ve λu=>aL 0 (cE { x20 with Locs:=y5}) u rfl rfl rfl rfl oD rfl rfl λK31=>qk K31 rfl (vs (v0 (dY lN rfl rfl (vl 0 _ fO rfl rfl rfl (dI kC rfl (oA m (σ:=(List aQ)) (τ:=cY) (λg s=>[(some k16100,.obj 99 (cE { x20 with Locs:=y5})),(eW g s),(cD ag31 r16),(some k2,.obj 62 (aH p1)),(hO p0K p0.Seq ag33 ag31 gE gV),(dM ag33 r18),(cD gC p0.Chunks),(eW gE p0.Exps),(lO gV ((p0.Vols.set p1.Vol.toNat ({ x15 with State:=3})).set p1.Vol.toNat ({ x16 with Files:=0})))]) (λg s=>bJ g 3 (s:List aQ).length) (λg s=>.c 0 (.ptr p0K 0) (.c 3 (.ptr k2 0) (.c 19 (aZ g) (.c 20 (nZ q21) .nil)))) (λx m=> ?_) ?_)))))))))))))))))
 refine v0 ?_
 apply vi m<;>intro c24 m
 refine v0 (vl 0 (.agg (cE { x20 with Locs:=y5})) tD rfl rfl rfl (bV (eJ (map cE ([{ x20 with Locs:=y5}]:List aQ)) pL rfl rfl rfl rfl) ?_))
 obtain⟨z2,Z2,m⟩:=aC m
 exact ve λu=>gQ (c:=cE) 1 Z2 pL rfl qW rfl fN rfl rfl O25 u rfl λag35 O26 K32=>qk K32 rfl (eF m ag35 O26 (lx (.k4 .nil)))
 exact v0 (eF m ag34 O25 (lx (.k4 .nil)))
 rintro ag36 j11 O27 m
 exact v0 (eF m ag36 O27 (mG [1,2,3,4,5,6,7,8] rfl rfl (.k4 .nil)))
 exact v0 (lF m ag34 O25 (lx (.k4 .nil)))
 rintro ag37 ⟨r20,r21⟩ t9 m
 exact v0 (kX rfl (dY eH rfl rfl (ve λu=>aL 3 ([nZ p0.Seq,aZ ag33,aZ ag31,aZ ag37,aZ gV]) u rfl rfl (cH rfl) (cI (bZ _ _ _) rfl) KH rfl rfl λK33=>qk K33 rfl (eF m (ag33,ag31,ag37,gV) ⟨t8,t7,t9,(bJ.set (bJ.set oV))⟩ (mG [2,3,4,1,0,7] rfl rfl .nil)))))
 refine vs (v0 (oA m (σ:=(List aR)) (τ:=cY) (λg s=>((some k2,.obj 62 (aH p1))::(hL p0K p0.Seq gS gC gE g p0.Snaps p0.Chunks p0.Exps s))) (λg s=>bJ g 4 (s:List aR).length) (λg s=>.nil) (λx m=> ?_) ?_))
 refine v0 ?_
 apply vi m<;>intro c25 m
 refine vs (vs (v0 (dY gJ rfl rfl (vl 0 _ cG rfl rfl rfl ?_))))
 obtain⟨_,Y9,m⟩:=aC m
 refine ve λu=>eA ((bB u [1,2,3,4,5,0] rfl rfl).1.trans (cM h (hC p0K p0 gS gC gE gV) [(some k2,.obj 62 (aH p1))]).symm) (dD (XH (hp h [(some k2,.obj 62 (aH p1))]) ok_Snaps oC oE oV (cJ (hC p0K p0 gS gC gE gV) [(some k2,.obj 62 (aH p1))] (bB u [1,2,3,4,5,0] rfl rfl).2).2 Y9) rfl PE rfl ?_)
 rintro x h' ⟨K34,rfl,rfl⟩
 have K35:=bB (L':=((some k2,.obj 62 (aH p1))::(hC p0K p0 gS gC gE gV))) (cZ (cJ (hC p0K p0 gS gC gE gV) [(some k2,.obj 62 (aH p1))] (bB u [1,2,3,4,5,0] rfl rfl).2).1 K34) [5,0,1,2,3,4] rfl rfl
 refine qk K35.2 ((cM h (hC p0K p0 gS gC gE gV) [(some k2,.obj 62 (aH p1))]).trans K35.1) (v0 ?_)
 apply vi m<;>intro c26 m
 refine vs (v0 (v0 (gM m λm=>gM m λm=>gM m λm=>gM m λm=>gM m λm=> ?_)))
 cases m
 exact vr λu=>dW.of1 (.inl rfl) (gK _ _ (.sc (.int _ _)) rfl) (bR u [1,2,3,4,5] rfl).2 (bD.refl _ _) ⟨gS,ok_Snaps,gC,oC,gE,oE,gV,oV,(bR u [1,2,3,4,5] rfl).1,rfl,rfl⟩
 refine v0 (v0 (vz [(1000000,some p0K,.obj 30 ([nZ p0.Seq,aZ gS,aZ gC,aZ gE,aZ gV])),(1000000,some k2,.obj 62 (aH p1)),(24,gV.t,.obj 49 (fl dN (p0.Vols:List aR) gV.sp))] mixed (λu=>⟨λ_=>aN 1 u rfl,λ_=>aN 0 u rfl,λ_=>aN 5 u rfl,trivial⟩) λu=>zP 0 rfl rfl (zN 1 rfl rfl (zF 2 rfl gW rfl (zL 3 0 (aZ gV) rfl gH rfl rfl rfl (zF 4 rfl gJ rfl (zL 5 1 (nZ p1.Vol) rfl cG rfl rfl rfl (zP 6 rfl rfl (zN 7 rfl rfl (zF 8 rfl gW rfl (zL 9 0 (aZ gV) rfl gH rfl rfl rfl (zF 10 rfl gJ rfl (zL 11 1 (nZ p1.Vol) rfl cG rfl rfl rfl (zP 12 rfl rfl (zN 13 rfl rfl (zF 14 rfl gW rfl (zL 15 0 (aZ gV) rfl gH rfl rfl rfl (zF 16 rfl gJ rfl (zL 17 1 (nZ p1.Vol) rfl cG rfl rfl rfl ?_)))))))))))))))))))
 obtain⟨x21,X13,m⟩:=aC m
 refine zC 18 rfl (cQ X13 kZ oV rfl rfl) (zC 19 rfl (cV (bJ.ne oV X13) NA rfl rfl) (w6 20 rfl (λ_ _ hi hB=>dX (fo:=1) (nZ x21.Epoch) X13 eR oV cG rfl (fS.get 2 hi rfl (hB 24 (by kernel_rfl))) (λ_=>rfl)) (zC 21 rfl (mW rfl rfl rfl trivial) ?_)))
 obtain⟨x22,X14,m⟩:=aC m
 refine zC 22 rfl (cQ X14 kZ oV rfl rfl) (zC 23 rfl (cV (bJ.ne oV X14) oU rfl rfl) (zE 24 rfl (cO (fo:=2) ({ x22 with State:=1}:aR) 5 u X14 eR oV rfl rfl rfl rfl (cW.refl _ _) AA rfl rfl λK36=>⟨⟨λ_=>aN 1 K36 rfl,λ_=>aN 0 K36 rfl,λe=>absurd e (by decide),trivial⟩, ?_⟩)))
 obtain⟨x23,X15,m⟩:=aC m
 refine zC 25 rfl (cQ X15 kZ (bJ.set oV) rfl rfl) (zC 26 rfl (cV (bJ.ne (bJ.set oV) X15) NA rfl rfl) (zE 27 rfl (cO (fo:=1) ({ x23 with Epoch:=wrap .i64 (x21.Epoch+1)}:aR) 5 K36 X15 eR (bJ.set oV) rfl rfl rfl rfl (cW.refl _ _) AA rfl rfl λK37=>⟨⟨λ_=>aN 1 K37 rfl,λ_=>aN 0 K37 rfl,λe=>absurd e (by decide),trivial⟩, ?_⟩)))
 exact zX (qk (f:=aFP 442 _ _ _ _ _ _ _ _ _ _ _ _ _ _ _ _ _ _ _ _ _ _ _ _ _ _ _) K37 rfl (eF m gV (bJ.set (bJ.set oV)) (lx .nil)))
 exact v0 (eF m gV oV (lx .nil))
 rintro ag38 j12 O28 m
 exact eF m (gS,gC,gE,ag38) ⟨ok_Snaps,oC,oE,O28⟩ (lx .nil)
 rintro⟨ag39,ag40,ag41,ag42⟩ ⟨j13,j14,j15,j16⟩ ⟨O29,O30,O31,O32⟩ m
 exact eF m (ag39,ag40,ag41,ag42) ⟨O29,O30,O31,O32⟩ (lx .nil)
 rintro⟨ag43,ag44,ag45,ag46⟩ ⟨j17,j18,j19,j20,j21⟩ ⟨O33,O34,O35,O36⟩ m
 exact eF m (ag43,ag44,ag45,ag46) ⟨O33,O34,O35,O36⟩ (lx .nil)
 rintro⟨ag47,ag48,ag49,ag50⟩ ⟨j22,j23,j24,j25,j26⟩ ⟨O37,O38,O39,O40⟩ m
 exact eF m (ag47,ag48,ag49,ag50) ⟨O37,O38,O39,O40⟩ (lx .nil)
 rintro⟨ag51,ag52,ag53,ag54⟩ ⟨j27,j28,j29,j30,j31⟩ ⟨O41,O42,O43,O44⟩ m
 refine vs (v0 (v0 ?_))
 cases m
 exact vr λu=>dW.of1 (.inl rfl) (gK _ _ (.sc (.int _ _)) rfl) (bR u [1,2,3,4,5] rfl).2 (bD.refl _ _) ⟨ag51,O41,ag52,O42,ag53,O43,ag54,O44,(bR u [1,2,3,4,5] rfl).1,rfl,rfl⟩
theorem aI7:aP prog 91=true:=by kernel_rfl
def FW (m:Nat) (p0:aA) (p1:aW):Option (aA×Int):=
 after ((WE m p0).bind λy0=>if (!y0)then Bk true else if decide (p1.Kind < 1) then Bk true else Bk (decide (5 < p1.Kind)):Option (Lp (Bool) (aA×Int))) λj0=>if j0 then (some (({ Seq:=0,Snaps:=[],Chunks:=[],Exps:=[],Vols:=[]}:aA),1)) else (ST m p0).bind λy1=>(M92 m p1).bind λy2=>(sA m ({ Seq:=y1.Seq,Snaps:=y1.Snaps,Chunks:=y1.Chunks,Exps:=y1.Exps,Vols:=y1.Vols}:aA) y2).bind λy3=>if (y3.1 !=0)then (some (({ Seq:=0,Snaps:=[],Chunks:=[],Exps:=[],Vols:=[]}:aA),y3.1)) else (WE m ({ Seq:=y3.2.1,Snaps:=y3.2.2.1,Chunks:=y3.2.2.2.1,Exps:=y3.2.2.2.2.1,Vols:=y3.2.2.2.2.2}:aA)).bind λy4=>if (!y4)then (some (({ Seq:=0,Snaps:=[],Chunks:=[],Exps:=[],Vols:=[]}:aA),1)) else some (({ Seq:=y3.2.1,Snaps:=y3.2.2.1,Chunks:=y3.2.2.2.1,Exps:=y3.2.2.2.2.1,Vols:=y3.2.2.2.2.2}:aA),0)
theorem W36 {w:Nat} {p0:aA} {p1:aW} {o:aA×Int} (h:aF) (m:FW w p0 p1=some o):
 aM prog 36 [.agg (aD p0),.agg (aH p1)] h (λr h'=>r= .tup [.agg (aD o.1),nZ o.2]/\h'=h):=by
 refine fM 36 [.cell 4 30,.tmp 5] Tryz.func36 rfl rfl rfl rfl ?_
 unfold FW at m
 refine vs (v0 (gX rfl rfl λk2 K3=>gX rfl rfl λk5 K6=>ve λu=>bE (jB) u rO rfl rfl λk8 K9=>qk K9 rfl (vs (vs (fP m (σ:=Bool) (λs=>[(some k8,.obj 30 (jB)),(some k5,.obj 62 (aH p1)),(some k2,.obj 30 (aD p0))]) (λs=>.c 2 (.ptr k2 0) (.c 3 (.ptr k5 0) (.c 4 (.ptr k8 0) (.c 20 (.sc (.bool s)) .nil)))) (λx m=> ?_) ?_)))))
 refine v0 (vl 2 (.agg (aD p0)) dG rfl rfl rfl (vk W89 aBK m rfl rfl λ_ m=> ?_))
 apply vi m<;>intro b0 m
 rw[b0]
 exact fV m
 rw[b0]
 refine dY CX rfl rfl (vl 1 _ cG rfl rfl rfl ?_)
 apply vi m<;>intro b1 m
 rw[b1]
 exact fV m
 rw[b1]
 exact dY CX rfl rfl (vl 1 _ cG rfl rfl rfl (fV m))
 rintro _ j0 m
 refine v0 ?_
 apply vi m<;>intro c0 m
 refine vs (v0 (bV (eQ (jB) G9 rfl) (ve λu=>aL 0 (jB) u rfl rfl rfl rfl mZ rfl rfl λK0=>qk K0 rfl (v0 ?_))))
 cases m
 exact vr λu=>dW.of2 (.inl rfl) (sS (.agg (jB)) dG rfl (a9 0 u rfl) rfl) (gK _ _ (.sc (.int _ _)) rfl) (aU (nil_sublist _) u).1 (bD.agg (.cons (bD.refl _ _) (.cons (bC _) (.cons (bC _) (.cons (bC _) (.cons (bC _) .nil)))))) (bD.refl _ _) ⟨rfl,rfl⟩
 refine v0 (vs (v0 (vl 2 (.agg (aD p0)) dG rfl rfl rfl ?_)))
 obtain⟨y0,Y0,m⟩:=aC m
 refine ve λu=>dD (aI2 _ Y0) rfl aH1 rfl ?_
 rintro x h' ⟨ag0,O0,ag1,O1,ag2,O2,ag3,O3,K1,rfl,rfl⟩
 refine qk (cZ u K1) (cM h [(dM ag0 y0.Snaps),(cD ag1 y0.Chunks),(eW ag2 y0.Exps),(lO ag3 y0.Vols)] [(some k8,.obj 30 (jB)),(some k5,.obj 62 (aH p1)),(some k2,.obj 30 (aD p0))]) (ve λu=>bE (jB) u rO rfl rfl λk42 K2=>qk K2 rfl (ve λu=>aL 0 ([nZ y0.Seq,aZ ag0,aZ ag1,aZ ag2,aZ ag3]) u rfl rfl rfl (by repeat (first | exact rfl | refine cI (jO _ _ _) ?_ | refine cI (bZ _ _ _) ?_ | refine cI (gY _ _ _ _) ?_ | refine cI rfl ?_)) mZ rfl rfl λK4=>qk K4 rfl ?_))
 refine vs (v0 (vl 6 (.agg (aH p1)) tC rfl rfl rfl (vk W92 aI4 m rfl rfl λ_ m=> ?_)))
 obtain⟨y1,Y1,m⟩:=aC m
 refine ve λu=>eA ((bB u [0,1,2,3,4,5,6,7] rfl rfl).1.trans (cM h (hC k42 y0 ag0 ag1 ag2 ag3) [(some k8,.obj 30 (jB)),(some k5,.obj 62 (aH p1)),(some k2,.obj 30 (aD p0))]).symm) (dD (W91 (hp h [(some k8,.obj 30 (jB)),(some k5,.obj 62 (aH p1)),(some k2,.obj 30 (aD p0))]) O0 O1 O2 O3 (cJ (hC k42 y0 ag0 ag1 ag2 ag3) [(some k8,.obj 30 (jB)),(some k5,.obj 62 (aH p1)),(some k2,.obj 30 (aD p0))] (bB u [0,1,2,3,4,5,6,7] rfl rfl).2).2 Y1) rfl aI7 rfl ?_)
 rintro x h' ⟨ag4,O4,ag5,O5,ag6,O6,ag7,O7,K5,rfl,rfl⟩
 have K7:=bB (L':=[(hO k42 y1.2.1 ag4 ag5 ag6 ag7),(dM ag4 y1.2.2.1),(cD ag5 y1.2.2.2.1),(eW ag6 y1.2.2.2.2.1),(lO ag7 y1.2.2.2.2.2),(some k8,.obj 30 (jB)),(some k5,.obj 62 (aH p1)),(some k2,.obj 30 (aD p0))]) (cZ (cJ (hC k42 y0 ag0 ag1 ag2 ag3) [(some k8,.obj 30 (jB)),(some k5,.obj 62 (aH p1)),(some k2,.obj 30 (aD p0))] (bB u [0,1,2,3,4,5,6,7] rfl rfl).2).1 K5) [0,1,2,3,4,5,6,7] rfl rfl
 refine qk K7.2 ((cM h (hL k42 y1.2.1 ag4 ag5 ag6 ag7 y1.2.2.1 y1.2.2.2.1 y1.2.2.2.2.1 y1.2.2.2.2.2) [(some k8,.obj 30 (jB)),(some k5,.obj 62 (aH p1)),(some k2,.obj 30 (aD p0))]).trans K7.1) (vs (vs (v0 (v0 ?_))))
 apply vi m<;>intro c1 m
 refine vs (v0 (bV (eQ (jB) G9 rfl) (ve λu=>aL 5 (jB) u rfl rfl rfl rfl mZ rfl rfl λK8=>qk K8 rfl (v0 ?_))))
 cases m
 exact vr λu=>dW.of2 (.inl rfl) (sS (.agg (jB)) dG rfl (a9 5 u rfl) rfl) (gK _ _ (.sc (.int _ _)) rfl) (aU (nil_sublist _) u).1 (bD.agg (.cons (bD.refl _ _) (.cons (bC _) (.cons (bC _) (.cons (bC _) (.cons (bC _) .nil)))))) (bD.refl _ _) ⟨rfl,rfl⟩
 refine v0 (vs (vs (v0 (vl 0 (.agg ([nZ y1.2.1,aZ ag4,aZ ag5,aZ ag6,aZ ag7])) dG rfl rfl rfl ?_))))
 obtain⟨_,Y2,m⟩:=aC m
 refine vn (λu=>bW (fL (.cons (Br.agg (.cons (Br.refl _ _) (.cons (Br.aw 1 eV O4 u rfl) (.cons (Br.aw 2 cX O5 u rfl) (.cons (Br.aw 3 fN O6 u rfl) (.cons (Br.aw 4 eR O7 u rfl) .nil)))))) .nil) rfl (W89 _ Y2)) rfl aBK rfl) (v0 ?_)
 apply vi m<;>intro c2 m
 refine vs (v0 (bV (eQ (jB) G9 rfl) (ve λu=>aL 5 (jB) u rfl rfl rfl rfl mZ rfl rfl λK73=>qk K73 rfl (v0 ?_))))
 cases m
 exact vr λu=>dW.of2 (.inl rfl) (sS (.agg (jB)) dG rfl (a9 5 u rfl) rfl) (gK _ _ (.sc (.int _ _)) rfl) (aU (nil_sublist _) u).1 (bD.agg (.cons (bD.refl _ _) (.cons (bC _) (.cons (bC _) (.cons (bC _) (.cons (bC _) .nil)))))) (bD.refl _ _) ⟨rfl,rfl⟩
 refine v0 (vs (v0 (vl 0 (.agg ([nZ y1.2.1,aZ ag4,aZ ag5,aZ ag6,aZ ag7])) dG rfl rfl rfl (ve λu=>aL 5 ([nZ y1.2.1,aZ ag4,aZ ag5,aZ ag6,aZ ag7]) u rfl rfl rfl (by repeat (first | exact rfl | refine cI (jO _ _ _) ?_ | refine cI (bZ _ _ _) ?_ | refine cI (gY _ _ _ _) ?_ | refine cI rfl ?_)) mZ rfl rfl λK75=>qk K75 rfl ?_))))
 refine v0 ?_
 cases m
 refine vrl λu=> ?_
 obtain⟨K76,le0⟩:=gP.fzO (n:=36) (f:=_) 1 4 ([nZ y1.2.1,.sl none 4 (map bQ y1.2.2.1),aZ ag5,aZ ag6,aZ ag7]) u rfl (.cons (Fz.refl _ _ _) (.cons (Fz.aw 1 eV O4 u rfl (.refl _)) (.cons (Fz.refl _ _ _) (.cons (Fz.refl _ _ _) (.cons (Fz.refl _ _ _) .nil)))))
 obtain⟨K78,le1⟩:=gP.fzO (n:=36) (f:=_) 1 3 ([nZ y1.2.1,.sl none 4 (map bQ y1.2.2.1),.sl none 35 (map aK y1.2.2.2.1),aZ ag6,aZ ag7]) K76 rfl (.cons (Fz.refl _ _ _) (.cons (Fz.refl _ _ _) (.cons (Fz.aw 1 cX O5 K76 rfl (.refl _)) (.cons (Fz.refl _ _ _) (.cons (Fz.refl _ _ _) .nil)))))
 obtain⟨K80,le2⟩:=gP.fzO (n:=36) (f:=_) 1 2 ([nZ y1.2.1,.sl none 4 (map bQ y1.2.2.1),.sl none 35 (map aK y1.2.2.2.1),.sl none 3 (map cE y1.2.2.2.2.1),aZ ag7]) K78 rfl (.cons (Fz.refl _ _ _) (.cons (Fz.refl _ _ _) (.cons (Fz.refl _ _ _) (.cons (Fz.aw 1 fN O6 K78 rfl (.refl _)) (.cons (Fz.refl _ _ _) .nil)))))
 obtain⟨K82,le3⟩:=gP.fzO (n:=36) (f:=_) 1 1 ([nZ y1.2.1,.sl none 4 (map bQ y1.2.2.1),.sl none 35 (map aK y1.2.2.2.1),.sl none 3 (map cE y1.2.2.2.2.1),.sl none 4 (map dN y1.2.2.2.2.2)]) K80 rfl (.cons (Fz.refl _ _ _) (.cons (Fz.refl _ _ _) (.cons (Fz.refl _ _ _) (.cons (Fz.refl _ _ _) (.cons (Fz.aw 1 eR O7 K80 rfl (.refl _)) .nil)))))
 exact QX.mk (gP.trans (gP.trans (gP.trans le0 le1) le2) le3) (dW.of2 (.inl rfl) (sS (.agg (aD ({ Seq:=y1.2.1,Snaps:=y1.2.2.1,Chunks:=y1.2.2.2.1,Exps:=y1.2.2.2.2.1,Vols:=y1.2.2.2.2.2}:aA))) dG rfl (a9 1 K82 rfl) rfl) (gK _ _ (.sc (.int _ _)) rfl) (aU (nil_sublist _) K82).1 (bD.refl _ _) (bD.refl _ _) ⟨rfl,rfl⟩)
theorem aI8:aP prog 36=true:=by kernel_rfl
end Go.Proofs.YtbbifdfldpfphaaGreat
