import Derived.Test.YtbbifdfldpfphaaGreatK1P4
import Derived.Test.YtbbifdfldpfphaaGreatK1P5
set_option linter.unusedSimpArgs false
set_option linter.unusedVariables false
set_option maxHeartbeats 4000000
set_option maxRecDepth 100000
namespace Go.Proofs.YtbbifdfldpfphaaGreat
open Go.Vm
def xI (m:Nat) (p0:List aA) (q0:List aA) (q1:Int):Option (Lp ((List aA)×Int) ((List aA))):=
 if (decide (q1 < (p0.length:Int)))=true then ((ix p0 q1).bind λx0=>(yJ m x0.Data).bind λy0=>(w5 m x0.Locs).bind λy1=>(app q0 ([{ { x0 with Data:=y0} with Locs:=y1}]:List aA)).bind λz0=>some (.go (z0,IntKind.wrap .i64 (q1+1)))) else some (.brk (q0,q1))
def D8 (m:Nat) (p0:List aA):Option ((List aA)):=
 after (aW (λs=>xI m p0 s.1 s.2) m ([],0)) λ⟨r0,r1⟩=>some r0
theorem QY {w:Nat} {p0:List aA} {o:(List aA)} (h:aE) (m:D8 w p0=some o):
 aL Tryz.prog 152 [.sl none 35 (List.map aH p0)] h (λr h'=>∃g:cQ,bG g 35 o.length∧bT h [(g.t,.obj 44 (fl aH o g.sp))]∧r=aZ g∧h'=hp h [(g.t,.obj 44 (fl aH o g.sp))]):=by
 refine fY 29 [.tmp 2] Tryz.func152 rfl rfl rfl rfl ?_
 unfold D8 at m
 refine vs (v0 (vs (v0 (vs (vs (v0 (pJ (EN (.obj 44 (fl aH ([]:List aA) g0.sp)) 3 (aZ g0) (fU _)) (m5 m (σ:=(List aA)×Int) (τ:=cQ) (λg s=> [(cD g s.1)]) (λg s=>bG g 35 (s.1:List aA).length) (λg s=>.c 0 (.sl none 35 (List.map aH p0)) (.c 3 (aZ g) (.c 4 (nZ s.2) .nil))) g0 (bG.g0 35) (lx (.k3 .nil)) ?_ ?_))))))))
 rintro ag0 ⟨q0,q1⟩ x O0 m
 replace m:xI w p0 q0 q1=some x:=m
 unfold xI at m
 refine vs (vs (v0 (dL jE rfl (v0 ?_))))
 apply vi m <;> intro c0 m
 refine v0 (vs (v0 (vs (v0 (vx m fI rfl rfl λx0 _ m=>va (.agg (aH x0)) mH rfl rfl (ve λu=>bI (bM jR++(JK:List AV)) u m7 rfl rfl λk115 K0=>qk K0 rfl (ve λu=>aJ 0 (aH x0) u rfl rfl rfl rfl wN rfl rfl λK1=>qk K1 rfl (vs (v0 (vz [(7,some k115,.obj 44 (aH x0))] mixed (λu=>⟨λ_=>aI 0 u rfl,trivial⟩) λu=>zF 0 rfl jK rfl (zL 1 0 (.sl none 1 (List.map dG x0.Data)) rfl lV rfl rfl rfl ?_)))))))))))
 obtain⟨y0,Y0,m⟩:=aC m
 refine zC 2 rfl (bY (LK _ Y0) rfl DT rfl) (zF 3 rfl iO rfl (zL 4 0 (.sl none 4 (List.map aQ x0.Locs)) rfl fJ rfl rfl rfl ?_))
 obtain⟨y1,Y1,m⟩:=aC m
 refine zC 5 rfl (bY (LJ _ Y1) rfl DS rfl) (zF 6 rfl jK rfl (zE 7 rfl (aJ 0 (aH { x0 with Data:=y0}) u rfl rfl rfl rfl BA rfl rfl λK2=>⟨⟨λe=>absurd e (by decide),trivial⟩, ?_⟩)))
 refine zF 8 rfl iO rfl (zE 9 rfl (aJ 0 (aH { { x0 with Data:=y0} with Locs:=y1}) K2 rfl rfl rfl rfl nE rfl rfl λK3=>⟨⟨λe=>absurd e (by decide),trivial⟩, ?_⟩))
 refine zX (qk (f:=RO 23 _ _ _ _ _ _ _ _ _) K3 rfl (v0 (vl 0 (.agg (aH { { x0 with Data:=y0} with Locs:=y1})) mH rfl rfl rfl (bU (eI (List.map aH ([{ { x0 with Data:=y0} with Locs:=y1}]:List aA)) kY rfl rfl rfl rfl) ?_))))
 obtain⟨z0,Z0,m⟩:=aC m
 exact ve λu=>fX (c:=aH) 1 Z0 kY rfl m7 rfl cK rfl rfl O0 u rfl λag1 O1 K4=>qk K4 rfl (v0 (eR m ag1 O1 (l4 [1] rfl rfl (.k3 .nil))))
 exact v0 (kT m ag0 O0 (lx (.k3 .nil)))
 rintro ag2 ⟨r0,r1⟩ t0 m
 refine vs (v0 (v0 ?_))
 obtain rfl:=eY m
 exact vr λu=>dV.one (.inl rfl) (aR (h0:=h) (L':= [(cD ag2 r0)]) (.refl _) u).1 (bE.refl _ _) ⟨ag2,t0,(aR (h0:=h) (L':= [(cD ag2 r0)]) (.refl _) u).2,rfl,rfl⟩
def BS (m:Nat) (p0:aB) (q0:List aG) (q1:Int):Option (Lp ((List aG)×Int) (aB)):=
 if (decide (q1 < (p0.Snaps.length:Int)))=true then ((ix p0.Snaps q1).bind λx0=>(FZ m x0.Man).bind λy0=>(w5 m x0.Locs).bind λy1=>(app q0 ([{ { x0 with Man:=y0} with Locs:=y1}]:List aG)).bind λz0=>some (.go (z0,IntKind.wrap .i64 (q1+1)))) else some (.brk (q0,q1))
def BT (m:Nat) (p0:aB) (q0:List aN) (q1:Int):Option (Lp ((List aN)×Int) (aB)):=
 if (decide (q1 < (p0.Exps.length:Int)))=true then ((ix p0.Exps q1).bind λx0=>(w5 m x0.Locs).bind λy0=>(app q0 ([{ x0 with Locs:=y0}]:List aN)).bind λz0=>some (.go (z0,IntKind.wrap .i64 (q1+1)))) else some (.brk (q0,q1))
def MJ (m:Nat) (p0:aB):Option (aB):=
 after (aW (λs=>BS m p0 s.1 s.2) m ([],0)) λ⟨r0,r1⟩=>after (aW (λs=>BT m p0 s.1 s.2) m ([],0)) λ⟨r2,r3⟩=>(D8 m p0.Chunks).bind λy0=>(app ([]:List aP) p0.Vols).bind λz0=>some ({ Seq:=p0.Seq,Snaps:=r0,Chunks:=y0,Exps:=r2,Vols:=z0}:aB)
theorem aD2 {w:Nat} {p0:aB} {o:aB} (h:aE) (m:MJ w p0=some o):
 aL Tryz.prog 90 [.agg (aF p0)] h (λr h'=>∃gS:cQ,bG gS 4 o.Snaps.length∧∃gC:cQ,bG gC 35 o.Chunks.length∧∃gE:cQ,bG gE 3 o.Exps.length∧∃gV:cQ,bG gV 4 o.Vols.length∧bT h [(dN gS o.Snaps),(cD gC o.Chunks),(eX gE o.Exps),(kO gV o.Vols)]∧r= .agg ([nZ o.Seq,aZ gS,aZ gC,aZ gE,aZ gV])∧h'=hp h [(dN gS o.Snaps),(cD gC o.Chunks),(eX gE o.Exps),(kO gV o.Vols)]):=by
 refine fY 68 [.cell 2 30] Tryz.func90 rfl rfl rfl rfl ?_
 unfold MJ at m
 refine vs (v0 (gZ rfl rfl λk2 K3=>ve λu=>bI (gQ) u oM rfl rfl λk5 K6=>qk K6 rfl (vs (v0 (vs (vs (v0 (pJ (EN (.obj 60 (fl bR ([]:List aG) g0.sp)) 3 (aZ g0) (fU _)) (m5 m (σ:=(List aG)×Int) (τ:=cQ) (λg s=> [(dN g s.1),(some k5,.obj 30 (gQ)),(some k2,.obj 30 (aF p0))]) (λg s=>bG g 4 (s.1:List aG).length) (λg s=>.c 1 (.ptr k2 0) (.c 2 (.ptr k5 0) (.c 3 (aZ g) (.c 4 (nZ s.2) .nil)))) g0 (bG.g0 4) (lx (.k4 .nil)) ?_ ?_)))))))))
 rintro ag0 ⟨q0,q1⟩ x O0 m
 replace m:BS w p0 q0 q1=some x:=m
 unfold BS at m
 refine vs (vs (v0 (dM dU rfl rfl (vl 2 _ fM rfl rfl rfl (dL jU rfl (v0 ?_))))))
 apply vi m <;> intro c0 m
 refine v0 (vs (v0 (vs (v0 (dM dU rfl rfl (vl 2 _ fM rfl rfl rfl (vx m iN rfl rfl λx0 _ m=>va (.agg (bR x0)) tH rfl rfl (ve λu=>bI (UJ) u tJ rfl rfl λk121 K0=>qk K0 rfl (ve λu=>aJ 0 (bR x0) u rfl rfl rfl rfl IM rfl rfl λK1=>qk K1 rfl (vs (v0 (vz [(7,some k121,.obj 60 (bR x0))] mixed (λu=>⟨λ_=>aI 0 u rfl,trivial⟩) λu=>zF 0 rfl nW rfl (zL 1 0 (.agg (bH x0.Man)) rfl m8 rfl rfl rfl ?_)))))))))))))
 obtain⟨y0,Y0,m⟩:=aC m
 refine zC 2 rfl (bY (W1 _ Y0) rfl QO rfl) (zF 3 rfl jL rfl (zL 4 0 (.sl none 4 (List.map aQ x0.Locs)) rfl fJ rfl rfl rfl ?_))
 obtain⟨y1,Y1,m⟩:=aC m
 refine zC 5 rfl (bY (LJ _ Y1) rfl DS rfl) (zF 6 rfl nW rfl (zE 7 rfl (aJ 0 (bR { x0 with Man:=y0}) u rfl rfl rfl rfl yB rfl rfl λK2=>⟨⟨λe=>absurd e (by decide),trivial⟩, ?_⟩)))
 refine zF 8 rfl jL rfl (zE 9 rfl (aJ 0 (bR { { x0 with Man:=y0} with Locs:=y1}) K2 rfl rfl rfl rfl nE rfl rfl λK4=>⟨⟨λe=>absurd e (by decide),trivial⟩, ?_⟩))
 refine zX (qk (f:=RO 29 _ _ _ _ _ _ _ _ _) K4 rfl (v0 (vl 0 (.agg (bR { { x0 with Man:=y0} with Locs:=y1})) tH rfl rfl rfl (bU (eI (List.map bR ([{ { x0 with Man:=y0} with Locs:=y1}]:List aG)) uU rfl rfl rfl rfl) ?_))))
 obtain⟨z0,Z0,m⟩:=aC m
 exact ve λu=>fX (c:=bR) 1 Z0 uU rfl tJ rfl eH rfl rfl O0 u rfl λag1 O1 K5=>qk K5 rfl (v0 (eR m ag1 O1 (l4 [1,2,3] rfl rfl (.k4 .nil))))
 exact v0 (kT m ag0 O0 (lx (.k4 .nil)))
 rintro ag2 ⟨r0,r1⟩ t0 m
 refine vs (v0 (vs (vs (v0 (pJ (EN (.obj 99 (fl cL ([]:List aN) g0.sp)) 6 (aZ g0) (fU _)) (m5 m (σ:=(List aN)×Int) (τ:=cQ) (λg s=> [(eX g s.1),(dN ag2 r0),(some k5,.obj 30 (gQ)),(some k2,.obj 30 (aF p0))]) (λg s=>bG g 3 (s.1:List aN).length) (λg s=>.c 1 (.ptr k2 0) (.c 2 (.ptr k5 0) (.c 3 (aZ ag2) (.c 6 (aZ g) (.c 7 (nZ s.2) .nil))))) g0 (bG.g0 3) (lx (.k5 .nil)) ?_ ?_))))))
 rintro ag3 ⟨q2,q3⟩ x O2 m
 replace m:BT w p0 q2 q3=some x:=m
 unfold BT at m
 refine vs (vs (v0 (dM eW rfl rfl (vl 3 _ i8 rfl rfl rfl (dL o5 rfl (v0 ?_))))))
 apply vi m <;> intro c1 m
 refine v0 (vs (v0 (vs (v0 (dM eW rfl rfl (vl 3 _ i8 rfl rfl rfl (vx m iE rfl rfl λx1 _ m=>va (.agg (cL x1)) tM rfl rfl (ve λu=>bI ([nZ 0,nZ 0,sZ]) u qE rfl rfl λk235 K7=>qk K7 rfl (ve λu=>aJ 0 (cL x1) u rfl rfl rfl rfl FO rfl rfl λK8=>qk K8 rfl (vs (v0 (dM kN rfl rfl (vl 0 _ fJ rfl rfl rfl (vk LJ DS m rfl rfl λy2 m=>dM kN rfl rfl (ve λu=>aJ 0 (cL { x1 with Locs:=y2}) u rfl rfl rfl rfl nE rfl rfl λK9=>qk K9 rfl (v0 (vl 0 (.agg (cL { x1 with Locs:=y2})) tM rfl rfl rfl (bU (eI (List.map cL ([{ x1 with Locs:=y2}]:List aN)) oL rfl rfl rfl rfl) ?_))))))))))))))))))
 obtain⟨z1,Z1,m⟩:=aC m
 exact ve λu=>fX (c:=cL) 1 Z1 oL rfl qE rfl fH rfl rfl O2 u rfl λag4 O3 K10=>qk K10 rfl (v0 (eR m ag4 O3 (l4 [1,2,3,4] rfl rfl (.k5 .nil))))
 exact v0 (kT m ag3 O2 (lx (.k5 .nil)))
 rintro ag5 ⟨r2,r3⟩ t1 m
 refine vs (v0 (vs (v0 (vz [(10,some k2,.obj 30 (aF p0))] mixed (λu=>⟨λ_=>aI 3 u rfl,trivial⟩) λu=>zC 0 rfl (eT (aw _ _ _) rfl) (zF 1 rfl dX rfl (zL 2 0 (.sl none 35 (List.map aH p0.Chunks)) rfl eU rfl rfl rfl (zC 4 rfl (eT (aw _ _ _) rfl) (zC 5 rfl (eT (.sc (.slice _ _ _)) rfl) (zF 6 rfl fN rfl (zL 7 0 (.sl none 4 (List.map cZ p0.Vols)) rfl gH rfl rfl rfl (zF 9 rfl dU rfl ?_)))))))))))
 obtain⟨_,Y2,m⟩:=aC m
 refine zE 3 rfl (cI (QY _ Y2) rfl LL rfl ?_)
 rintro x h' ⟨ag6,O4,K11,rfl,rfl⟩
 rw[iL]
 refine⟨⟨λ_=>aI 4 (bT.co u K11) rfl,trivial⟩, ?_⟩
 obtain⟨z2,Z2,m⟩:=aC m
 refine zE 8 rfl (AT (c:=cZ) Z2 FI rfl ON rfl dY rfl (bT.co u K11) rfl λag7 O5 K12=>⟨⟨λ_=>aI 5 K12 rfl,trivial⟩, ?_⟩)
 refine zE 10 rfl (aJ 5 ([nZ p0.Seq,aZ ag2,.sl none 35 (List.map aH p0.Chunks),.sl none 3 (List.map cL p0.Exps),.sl none 4 (List.map cZ p0.Vols)]) K12 rfl rfl (bZ rfl) (cC (bW _ _ _) rfl) FH rfl rfl λK13=>⟨⟨λe=>absurd e (by decide),trivial⟩, ?_⟩)
 refine zF 11 rfl dX rfl (zE 12 rfl (aJ 5 ([nZ p0.Seq,aZ ag2,aZ ag6,.sl none 3 (List.map cL p0.Exps),.sl none 4 (List.map cZ p0.Vols)]) K13 rfl rfl (bZ rfl) (cC (bW _ _ _) rfl) yA rfl rfl λK14=>⟨⟨λe=>absurd e (by decide),trivial⟩, ?_⟩))
 refine zF 13 rfl eW rfl (zE 14 rfl (aJ 5 ([nZ p0.Seq,aZ ag2,aZ ag6,aZ ag5,.sl none 4 (List.map cZ p0.Vols)]) K14 rfl rfl (bZ rfl) (cC (bW _ _ _) rfl) II rfl rfl λK15=>⟨⟨λe=>absurd e (by decide),trivial⟩, ?_⟩))
 refine zF 15 rfl fN rfl (zE 16 rfl (aJ 5 ([nZ p0.Seq,aZ ag2,aZ ag6,aZ ag5,aZ ag7]) K15 rfl rfl (bZ rfl) (cC (bW _ _ _) rfl) OL rfl rfl λK16=>⟨⟨λe=>absurd e (by decide),trivial⟩, ?_⟩))
 refine zX (qk (f:=.c 66 _ (.c 65 _ (.c 64 _ (.c 62 _ (.c 57 _ (.c 63 _ (OE 61 _ _ _ _ (.c 56 _ (.c 55 _ (.c 54 _ _)))))))))) K16 rfl (vs (v0 (vl 5 (.agg ([nZ p0.Seq,aZ ag2,aZ ag6,aZ ag5,aZ ag7])) eV rfl rfl rfl (ve λu=>aJ 4 ([nZ p0.Seq,aZ ag2,aZ ag6,aZ ag5,aZ ag7]) u rfl rfl rfl (by repeat (first | exact rfl | refine cC (iC _ _ _) ?_ | refine cC (bW _ _ _) ?_ | refine cC (f0 _ _ _ _) ?_ | refine cC rfl ?_)) lA rfl rfl λK17=>qk K17 rfl ?_)))))
 refine v0 ?_
 cases m
 exact vr λu=>dV.of1 (.inl rfl) (pU (.agg ([nZ p0.Seq,aZ ag2,aZ ag6,aZ ag5,aZ ag7])) eV rfl (a8 4 u rfl) rfl) (bD u [3,1,2,0] rfl).2 (bE.refl _ _) ⟨ag2,t0,ag6,O4,ag5,t1,ag7,O5,(bD u [3,1,2,0] rfl).1,rfl,rfl⟩
def MK (m:Nat) (p0:bK) (p1:bK):Option (Bool):=
 if (p0.Vol !=p1.Vol)=true then (some (decide (p0.Vol < p1.Vol))) else if (p0.File !=p1.File)=true then (some (decide (p0.File < p1.File))) else if (p0.Off !=p1.Off)=true then (some (decide (p0.Off < p1.Off))) else some (decide (p0.Len < p1.Len))
theorem aD3 {u:Nat} {p0:bK} {p1:bK} {o:Bool} (h:aE) (m:MK u p0 p1=some o):
 aL Tryz.prog 191 [.agg (aQ p0),.agg (aQ p1)] h (λr h'=>r= .sc (.bool o)∧h'=h):=by
 refine fY 40 [.tmp 4] Tryz.func191 rfl rfl rfl rfl ?_
 unfold MK at m
 refine v (gZ rfl rfl λk2 K3=>gZ rfl rfl λk5 K6=>v (vl 1 _ cE rfl rfl rfl (vl 0 _ cE rfl rfl rfl (v ?_))))
 apply vi m <;> intro c0 m
 refine v (vl 1 _ cE rfl rfl rfl (vl 0 _ cE rfl rfl rfl (v ?_)))
 cases m
 exact eK rfl
 refine v (v (vl 1 _ cE rfl rfl rfl (vl 0 _ cE rfl rfl rfl (v ?_))))
 apply vi m <;> intro c1 m
 refine v (vl 1 _ cE rfl rfl rfl (vl 0 _ cE rfl rfl rfl (v ?_)))
 cases m
 exact eK rfl
 refine v (v (vl 1 _ cE rfl rfl rfl (vl 0 _ cE rfl rfl rfl (v ?_))))
 apply vi m <;> intro c2 m
 refine v (vl 1 _ cE rfl rfl rfl (vl 0 _ cE rfl rfl rfl (v ?_)))
 cases m
 exact eK rfl
 refine v (v (vl 1 _ cE rfl rfl rfl (vl 0 _ cE rfl rfl rfl (v ?_))))
 cases m
 exact eK rfl
theorem YU:aO Tryz.prog 191=true:=by kernel_rfl
def BU (m:Nat) (p0:List bK) (p1:bK) (q0:Int):Option (Lp (Int) ((List bK))):=
 after (if (decide (q0 < (p0.length:Int)))=true then ((ix p0 q0).bind λx0=>(MK m x0 p1).bind λy0=>some (.brk y0)) else some (.brk false):Option (Lp (Bool) (Lp (Int) ((List bK))))) λj0=>if j0=true then (some (.go (IntKind.wrap .i64 (q0+1)))) else some (.brk q0)
def GF (m:Nat) (p0:List bK) (p1:bK):Option ((List bK)):=
 after (aW (λs=>BU m p0 p1 s) m 0) λr0=>(slc p0 0 r0).bind λx0=>(app ([]:List bK) x0).bind λz0=>(app z0 ([p1]:List bK)).bind λz1=>(slc p0 r0 (p0).length).bind λx1=>(app z1 x1).bind λz2=>some z2
theorem TG {w:Nat} {p0:List bK} {p1:bK} {o:(List bK)} (h:aE) (m:GF w p0 p1=some o):
 aL Tryz.prog 185 [.sl none 4 (List.map aQ p0),.agg (aQ p1)] h (λr h'=>r= .sl none 4 (List.map aQ o)∧h'=h):=by
 refine fY 34 [.tmp 4] Tryz.func185 rfl rfl rfl rfl ?_
 unfold GF at m
 refine v (gZ rfl rfl λk2 K3=>v (vs (jT m (σ:=Int) (λs=> [(some k2,.obj 81 (aQ p1))]) (λs=>.c 0 (.sl none 4 (List.map aQ p0)) (.c 3 (.ptr k2 0) (.c 5 (nZ s) .nil))) (lx (.k3 .nil)) ?_ ?_)))
 rintro _ q0 x m
 replace m:BU w p0 p1 q0=some x:=m
 unfold BU at m
 refine vs (vs (fR m (σ:=Bool) (λs=> [(some k2,.obj 81 (aQ p1))]) (λs=>.c 0 (.sl none 4 (List.map aQ p0)) (.c 3 (.ptr k2 0) (.c 5 (nZ q0) (.c 18 (.sc (.bool s)) .nil)))) (λx m=> ?_) ?_))
 refine v (vq (by kernel_rfl) (dL jJ rfl ?_))
 apply vi m <;> intro b0 m
 rw[b0]
 exact vx m jV rfl rfl λx0 _ m=>va (.agg (aQ x0)) m9 rfl rfl (vl 0 (.agg (aQ p1)) m9 rfl rfl rfl (vk aD3 YU m rfl rfl λ_ m=>hD m))
 rw[b0]
 exact hD m
 rintro _ j0 m
 refine v ?_
 apply vi m <;> intro c0 m
 exact v (v (v (gW m)))
 exact v (G4 m)
 rintro _ r0 m
 refine v (v (vz [(1000000,some k2,.obj 81 (aQ p1))] mixed (λu=>⟨λ_=>aI 0 u rfl,trivial⟩) λu=>zC 0 rfl (eT (.sc (.slice _ _ _)) rfl) (zC 1 rfl (eT (.sl _ _ _) rfl) (zI 2 rfl rfl ?_))))
 obtain⟨_,X0,m⟩:=aC m
 refine zC 3 rfl (o0 X0 jV rfl rfl rfl rfl) (zL 5 0 (.agg (aQ p1)) rfl m9 rfl rfl rfl (zC 6 rfl (eI (List.map aQ ([p1]:List bK)) oO rfl rfl rfl rfl) ?_))
 obtain⟨z0,Z0,m⟩:=aC m
 refine zE 4 rfl (nS (c:=aQ) Z0 oO rfl rfl u nofun rfl λtg0 t0 K0=>⟨⟨λ_=>aI 1 K0 rfl,trivial⟩, ?_⟩)
 obtain⟨z1,Z1,m⟩:=aC m
 refine zE 7 rfl (fB (c:=aQ) 0 Z1 oO rfl rfl rfl t0 K0 rfl λtg1 t1 K1=>⟨⟨λ_=>aI 1 K1 rfl,trivial⟩, ?_⟩)
 refine zC 8 rfl (hU (ow _ _ _) rfl) (zX (qk (f:=.c 6 _ (.c 28 _ (.c 25 _ (.c 27 _ (.c 26 _ (OE 24 _ _ _ _ _)))))) K1 rfl (v ?_)))
 obtain⟨_,X1,m⟩:=aC m
 refine bU (o0 X1 jV rfl rfl rfl rfl) ?_
 obtain⟨z2,Z2,m⟩:=aC m
 refine ve λu=>fB (c:=aQ) 0 Z2 oO rfl rfl rfl t1 u rfl λtg2 t2 K2=>qk K2 rfl (v ?_)
 obtain rfl:=eY m
 exact vr λu=>dV.of1 (.inl rfl) (fP _ _ (ow _ _ _) rfl) (aR (List.nil_sublist _) u).1 ((eS _ 0 t2 u rfl)) ⟨rfl,rfl⟩
theorem ML:aO Tryz.prog 185=true:=by kernel_rfl
def vF (m:Nat) (p0:List bK) (p1:Int) (q0:List bK) (q1:Int):Option (Lp ((List bK)×Int) ((List bK))):=
 if (decide (q1 < (p0.length:Int)))=true then ((ix p0 q1).bind λx0=>after (if (x0.Vol !=p1)=true then ((ix p0 q1).bind λx1=>(app q0 ([x1]:List bK)).bind λz0=>some (.brk z0)) else some (.brk q0):Option (Lp ((List bK)) (Lp ((List bK)×Int) ((List bK))))) λj0=>some (.go (j0,IntKind.wrap .i64 (q1+1)))) else some (.brk (q0,q1))
def GG (m:Nat) (p0:List bK) (p1:Int):Option ((List bK)):=
 after (aW (λs=>vF m p0 p1 s.1 s.2) m ([],0)) λ⟨r0,r1⟩=>some r0
theorem TH {w:Nat} {p0:List bK} {p1:Int} {o:(List bK)} (h:aE) (m:GG w p0 p1=some o):
 aL Tryz.prog 157 [.sl none 4 (List.map aQ p0),nZ p1] h (λr h'=>r= .sl none 4 (List.map aQ o)∧h'=h):=by
 refine fY 28 [.tmp 4] Tryz.func157 rfl rfl rfl rfl ?_
 unfold GG at m
 refine v (v (v (pJ (EN (.tok 81 4 (([]:List bK).length*4)) 5 (ow none 4 (List.map aQ [])) (iZ _ _)) (m5 m (σ:=(List bK)×Int) (τ:=Option cB) (λg s=> [(g,.tok 81 4 ((s.1:List bK).length*4))]) (λg s=>(g=none→s.1= [])) (λg s=>.c 0 (.sl none 4 (List.map aQ p0)) (.c 1 (nZ p1) (.c 5 (ow g 4 (List.map aQ s.1)) (.c 6 (nZ s.2) .nil)))) none (λ_=>rfl) (lx (.k4 .nil)) ?_ ?_))))
 rintro tg0 ⟨q0,q1⟩ x t0 m
 replace m:vF w p0 p1 q0 q1=some x:=m
 unfold vF at m
 refine v (dL jJ rfl (v ?_))
 apply vi m <;> intro c0 m
 refine v (v (v (vx m jV rfl rfl λ_ _ m=>oU m (σ:=(List bK)) (τ:=Option cB) (λg s=> [(g,.tok 81 4 ((s:List bK).length*4))]) (λg s=>(g=none→s= [])) (λg s=>.c 0 (.sl none 4 (List.map aQ p0)) (.c 1 (nZ p1) (.c 5 (ow g 4 (List.map aQ s)) (.c 6 (nZ q1) .nil)))) (λx m=> ?_) ?_)))
 refine v ?_
 apply vi m <;> intro c1 m
 refine v (vx m jV rfl rfl λx0 _ m=>va (.agg (aQ x0)) m9 rfl rfl (bU (eI (List.map aQ ([x0]:List bK)) oO rfl rfl rfl rfl) ?_))
 obtain⟨z0,Z0,m⟩:=aC m
 exact ve λu=>fB (c:=aQ) 0 Z0 oO rfl rfl rfl t0 u rfl λtg1 t1 K0=>qk K0 rfl (eR m tg1 t1 (lx (.k4 .nil)))
 exact v (eR m tg0 t0 (lx (.k4 .nil)))
 rintro tg2 j0 t2 m
 exact v (eR m tg2 t2 (lx (.k4 .nil)))
 exact v (kT m tg0 t0 (lx (.k4 .nil)))
 rintro tg3 ⟨r0,r1⟩ t3 m
 refine v (v ?_)
 obtain rfl:=eY m
 exact vr λu=>dV.of1 (.inl rfl) (fP _ _ (ow _ _ _) rfl) (aR (List.nil_sublist _) u).1 ((eS _ 0 t3 u rfl)) ⟨rfl,rfl⟩
theorem MM:aO Tryz.prog 157=true:=by kernel_rfl
def UD (m:Nat) (p0:aS):Option (aS):=
 (FZ m p0.Snap.Man).bind λy0=>(w5 m p0.Snap.Locs).bind λy1=>(F0 m ({ { p0 with Snap:= { p0.Snap with Man:=y0}} with Snap:= { { p0 with Snap:= { p0.Snap with Man:=y0}}.Snap with Locs:=y1}}.Chunks)).bind λy2=>(app ([]:List bC) ({ { p0 with Snap:= { p0.Snap with Man:=y0}} with Snap:= { { p0 with Snap:= { p0.Snap with Man:=y0}}.Snap with Locs:=y1}}.Items)).bind λz0=>some ({ Kind:= { { { p0 with Snap:= { p0.Snap with Man:=y0}} with Snap:= { { p0 with Snap:= { p0.Snap with Man:=y0}}.Snap with Locs:=y1}} with Chunks:=y2}.Kind,Snap:=({ Seq:=({ { { p0 with Snap:= { p0.Snap with Man:=y0}} with Snap:= { { p0 with Snap:= { p0.Snap with Man:=y0}}.Snap with Locs:=y1}} with Chunks:=y2}.Snap).Seq,Man:=({ Name:=(({ { { p0 with Snap:= { p0.Snap with Man:=y0}} with Snap:= { { p0 with Snap:= { p0.Snap with Man:=y0}}.Snap with Locs:=y1}} with Chunks:=y2}.Snap).Man).Name,Parts:=(({ { { p0 with Snap:= { p0.Snap with Man:=y0}} with Snap:= { { p0 with Snap:= { p0.Snap with Man:=y0}}.Snap with Locs:=y1}} with Chunks:=y2}.Snap).Man).Parts}:bF),Locs:=({ { { p0 with Snap:= { p0.Snap with Man:=y0}} with Snap:= { { p0 with Snap:= { p0.Snap with Man:=y0}}.Snap with Locs:=y1}} with Chunks:=y2}.Snap).Locs}:aG),Chunks:= { { { p0 with Snap:= { p0.Snap with Man:=y0}} with Snap:= { { p0 with Snap:= { p0.Snap with Man:=y0}}.Snap with Locs:=y1}} with Chunks:=y2}.Chunks,Seq:= { { { p0 with Snap:= { p0.Snap with Man:=y0}} with Snap:= { { p0 with Snap:= { p0.Snap with Man:=y0}}.Snap with Locs:=y1}} with Chunks:=y2}.Seq,Vol:= { { { p0 with Snap:= { p0.Snap with Man:=y0}} with Snap:= { { p0 with Snap:= { p0.Snap with Man:=y0}}.Snap with Locs:=y1}} with Chunks:=y2}.Vol,Items:=z0}:aS)
theorem W92 {w:Nat} {p0:aS} {o:aS} (h:aE) (m:UD w p0=some o):
 aL Tryz.prog 92 [.agg (aD p0)] h (λr h'=>r= .agg (aD o)∧h'=h):=by
 refine fY 26 [.cell 2 62] Tryz.func92 rfl rfl rfl rfl ?_
 unfold UD at m
 refine v (gZ rfl rfl λk2 K3=>ve λu=>bI (uY) u IN rfl rfl λk5 K6=>qk K6 rfl (v (vz [(10,some k2,.obj 62 (aD p0))] mixed (λu=>⟨λ_=>aI 1 u rfl,trivial⟩) λu=>zF 0 rfl kM rfl (zF 1 rfl nW rfl (zL 2 0 (.agg (bH p0.Snap.Man)) rfl m8 rfl rfl rfl ?_)))))
 obtain⟨y0,Y0,m⟩:=aC m
 refine zC 3 rfl (bY (W1 _ Y0) rfl QO rfl) (zF 4 rfl kM rfl (zF 5 rfl jL rfl (zL 6 0 (.sl none 4 (List.map aQ p0.Snap.Locs)) rfl fJ rfl rfl rfl ?_)))
 obtain⟨y1,Y1,m⟩:=aC m
 refine zC 7 rfl (bY (LJ _ Y1) rfl DS rfl) (zF 8 rfl kM rfl (zF 9 rfl nW rfl (zE 10 rfl (aJ 1 (aD { p0 with Snap:= { p0.Snap with Man:=y0}}) u rfl rfl rfl rfl yB rfl rfl λK0=>⟨⟨λe=>absurd e (by decide),trivial⟩, ?_⟩))))
 refine zF 11 rfl kM rfl (zF 12 rfl jL rfl (zE 13 rfl (aJ 1 (aD { { p0 with Snap:= { p0.Snap with Man:=y0}} with Snap:= { { p0 with Snap:= { p0.Snap with Man:=y0}}.Snap with Locs:=y1}}) K0 rfl rfl rfl rfl nE rfl rfl λK1=>⟨⟨λe=>absurd e (by decide),trivial⟩, ?_⟩)))
 refine zX (qk (f:=IF 15 _ _ _ _ _ _ _ _ _ _ _ _ _) K1 rfl (v (v (vz [(8,some k2,.obj 62 (aD { { p0 with Snap:= { p0.Snap with Man:=y0}} with Snap:= { { p0 with Snap:= { p0.Snap with Man:=y0}}.Snap with Locs:=y1}}))] mixed (λu=>⟨λ_=>aI 1 u rfl,trivial⟩) λu=>zF 0 rfl mJ rfl (zL 1 0 (.sl none 35 (List.map aH ({ { p0 with Snap:= { p0.Snap with Man:=y0}} with Snap:= { { p0 with Snap:= { p0.Snap with Man:=y0}}.Snap with Locs:=y1}}.Chunks))) rfl eU rfl rfl rfl ?_)))))
 obtain⟨y2,Y2,m⟩:=aC m
 refine zC 2 rfl (bY (aCV _ Y2) rfl LL rfl) (zC 3 rfl (eT (.sc (.slice _ _ _)) rfl) (zF 4 rfl gJ rfl (zL 5 0 (.sl none 37 (List.map aX ({ { p0 with Snap:= { p0.Snap with Man:=y0}} with Snap:= { { p0 with Snap:= { p0.Snap with Man:=y0}}.Snap with Locs:=y1}}.Items))) rfl kK rfl rfl rfl (zF 7 rfl mJ rfl ?_))))
 obtain⟨z0,Z0,m⟩:=aC m
 refine zE 6 rfl (nS (c:=aX) Z0 OM rfl rfl u nofun rfl λtg0 t0 K2=>⟨⟨λ_=>aI 2 K2 rfl,trivial⟩, ?_⟩)
 refine zE 8 rfl (aJ 2 (aD { { { p0 with Snap:= { p0.Snap with Man:=y0}} with Snap:= { { p0 with Snap:= { p0.Snap with Man:=y0}}.Snap with Locs:=y1}} with Chunks:=y2}) K2 rfl rfl rfl rfl yA rfl rfl λK4=>⟨⟨λe=>absurd e (by decide),trivial⟩, ?_⟩)
 refine zF 9 rfl gJ rfl (zE 10 rfl (aJ 2 ([nZ ({ { { p0 with Snap:= { p0.Snap with Man:=y0}} with Snap:= { { p0 with Snap:= { p0.Snap with Man:=y0}}.Snap with Locs:=y1}} with Chunks:=y2}.Kind),nZ (({ { { p0 with Snap:= { p0.Snap with Man:=y0}} with Snap:= { { p0 with Snap:= { p0.Snap with Man:=y0}}.Snap with Locs:=y1}} with Chunks:=y2}.Snap).Seq),.sc (.string ((({ { { p0 with Snap:= { p0.Snap with Man:=y0}} with Snap:= { { p0 with Snap:= { p0.Snap with Man:=y0}}.Snap with Locs:=y1}} with Chunks:=y2}.Snap).Man).Name)),.sl none 3 (List.map bX ((({ { { p0 with Snap:= { p0.Snap with Man:=y0}} with Snap:= { { p0 with Snap:= { p0.Snap with Man:=y0}}.Snap with Locs:=y1}} with Chunks:=y2}.Snap).Man).Parts)),.sl none 4 (List.map aQ (({ { { p0 with Snap:= { p0.Snap with Man:=y0}} with Snap:= { { p0 with Snap:= { p0.Snap with Man:=y0}}.Snap with Locs:=y1}} with Chunks:=y2}.Snap).Locs)),.sl none 35 (List.map aH ({ { { p0 with Snap:= { p0.Snap with Man:=y0}} with Snap:= { { p0 with Snap:= { p0.Snap with Man:=y0}}.Snap with Locs:=y1}} with Chunks:=y2}.Chunks)),nZ ({ { { p0 with Snap:= { p0.Snap with Man:=y0}} with Snap:= { { p0 with Snap:= { p0.Snap with Man:=y0}}.Snap with Locs:=y1}} with Chunks:=y2}.Seq),nZ ({ { { p0 with Snap:= { p0.Snap with Man:=y0}} with Snap:= { { p0 with Snap:= { p0.Snap with Man:=y0}}.Snap with Locs:=y1}} with Chunks:=y2}.Vol),ow tg0 37 (List.map aX z0)]) K4 rfl rfl (i6 rfl) (oZ _ _ _) aBH rfl rfl λK5=>⟨⟨λe=>absurd e (by decide),trivial⟩, ?_⟩))
 refine zX (qk (f:=.c 24 _ (.c 22 _ (.c 23 _ (fq6 21 _ _ _ _ _ _ _)))) K5 rfl (v (vl 2 (.agg ([nZ ({ { { p0 with Snap:= { p0.Snap with Man:=y0}} with Snap:= { { p0 with Snap:= { p0.Snap with Man:=y0}}.Snap with Locs:=y1}} with Chunks:=y2}.Kind),nZ (({ { { p0 with Snap:= { p0.Snap with Man:=y0}} with Snap:= { { p0 with Snap:= { p0.Snap with Man:=y0}}.Snap with Locs:=y1}} with Chunks:=y2}.Snap).Seq),.sc (.string ((({ { { p0 with Snap:= { p0.Snap with Man:=y0}} with Snap:= { { p0 with Snap:= { p0.Snap with Man:=y0}}.Snap with Locs:=y1}} with Chunks:=y2}.Snap).Man).Name)),.sl none 3 (List.map bX ((({ { { p0 with Snap:= { p0.Snap with Man:=y0}} with Snap:= { { p0 with Snap:= { p0.Snap with Man:=y0}}.Snap with Locs:=y1}} with Chunks:=y2}.Snap).Man).Parts)),.sl none 4 (List.map aQ (({ { { p0 with Snap:= { p0.Snap with Man:=y0}} with Snap:= { { p0 with Snap:= { p0.Snap with Man:=y0}}.Snap with Locs:=y1}} with Chunks:=y2}.Snap).Locs)),.sl none 35 (List.map aH ({ { { p0 with Snap:= { p0.Snap with Man:=y0}} with Snap:= { { p0 with Snap:= { p0.Snap with Man:=y0}}.Snap with Locs:=y1}} with Chunks:=y2}.Chunks)),nZ ({ { { p0 with Snap:= { p0.Snap with Man:=y0}} with Snap:= { { p0 with Snap:= { p0.Snap with Man:=y0}}.Snap with Locs:=y1}} with Chunks:=y2}.Seq),nZ ({ { { p0 with Snap:= { p0.Snap with Man:=y0}} with Snap:= { { p0 with Snap:= { p0.Snap with Man:=y0}}.Snap with Locs:=y1}} with Chunks:=y2}.Vol),ow tg0 37 (List.map aX z0)])) nF rfl rfl rfl ?_)))
 refine ve λu=>aJ 1 ([nZ ({ { { p0 with Snap:= { p0.Snap with Man:=y0}} with Snap:= { { p0 with Snap:= { p0.Snap with Man:=y0}}.Snap with Locs:=y1}} with Chunks:=y2}.Kind),nZ (({ { { p0 with Snap:= { p0.Snap with Man:=y0}} with Snap:= { { p0 with Snap:= { p0.Snap with Man:=y0}}.Snap with Locs:=y1}} with Chunks:=y2}.Snap).Seq),.sc (.string ((({ { { p0 with Snap:= { p0.Snap with Man:=y0}} with Snap:= { { p0 with Snap:= { p0.Snap with Man:=y0}}.Snap with Locs:=y1}} with Chunks:=y2}.Snap).Man).Name)),.sl none 3 (List.map bX ((({ { { p0 with Snap:= { p0.Snap with Man:=y0}} with Snap:= { { p0 with Snap:= { p0.Snap with Man:=y0}}.Snap with Locs:=y1}} with Chunks:=y2}.Snap).Man).Parts)),.sl none 4 (List.map aQ (({ { { p0 with Snap:= { p0.Snap with Man:=y0}} with Snap:= { { p0 with Snap:= { p0.Snap with Man:=y0}}.Snap with Locs:=y1}} with Chunks:=y2}.Snap).Locs)),.sl none 35 (List.map aH ({ { { p0 with Snap:= { p0.Snap with Man:=y0}} with Snap:= { { p0 with Snap:= { p0.Snap with Man:=y0}}.Snap with Locs:=y1}} with Chunks:=y2}.Chunks)),nZ ({ { { p0 with Snap:= { p0.Snap with Man:=y0}} with Snap:= { { p0 with Snap:= { p0.Snap with Man:=y0}}.Snap with Locs:=y1}} with Chunks:=y2}.Seq),nZ ({ { { p0 with Snap:= { p0.Snap with Man:=y0}} with Snap:= { { p0 with Snap:= { p0.Snap with Man:=y0}}.Snap with Locs:=y1}} with Chunks:=y2}.Vol),ow tg0 37 (List.map aX z0)]) u rfl rfl rfl (by repeat (first | exact rfl | refine cC (iC _ _ _) ?_ | refine cC (bW _ _ _) ?_ | refine cC (f0 _ _ _ _) ?_ | refine cC rfl ?_)) tK rfl rfl λK7=>qk K7 rfl ?_
 refine v ?_
 cases m
 exact vr λu=>dV.of1 (.inl rfl) (pU (.agg ([nZ ({ { { p0 with Snap:= { p0.Snap with Man:=y0}} with Snap:= { { p0 with Snap:= { p0.Snap with Man:=y0}}.Snap with Locs:=y1}} with Chunks:=y2}.Kind),nZ (({ { { p0 with Snap:= { p0.Snap with Man:=y0}} with Snap:= { { p0 with Snap:= { p0.Snap with Man:=y0}}.Snap with Locs:=y1}} with Chunks:=y2}.Snap).Seq),.sc (.string ((({ { { p0 with Snap:= { p0.Snap with Man:=y0}} with Snap:= { { p0 with Snap:= { p0.Snap with Man:=y0}}.Snap with Locs:=y1}} with Chunks:=y2}.Snap).Man).Name)),.sl none 3 (List.map bX ((({ { { p0 with Snap:= { p0.Snap with Man:=y0}} with Snap:= { { p0 with Snap:= { p0.Snap with Man:=y0}}.Snap with Locs:=y1}} with Chunks:=y2}.Snap).Man).Parts)),.sl none 4 (List.map aQ (({ { { p0 with Snap:= { p0.Snap with Man:=y0}} with Snap:= { { p0 with Snap:= { p0.Snap with Man:=y0}}.Snap with Locs:=y1}} with Chunks:=y2}.Snap).Locs)),.sl none 35 (List.map aH ({ { { p0 with Snap:= { p0.Snap with Man:=y0}} with Snap:= { { p0 with Snap:= { p0.Snap with Man:=y0}}.Snap with Locs:=y1}} with Chunks:=y2}.Chunks)),nZ ({ { { p0 with Snap:= { p0.Snap with Man:=y0}} with Snap:= { { p0 with Snap:= { p0.Snap with Man:=y0}}.Snap with Locs:=y1}} with Chunks:=y2}.Seq),nZ ({ { { p0 with Snap:= { p0.Snap with Man:=y0}} with Snap:= { { p0 with Snap:= { p0.Snap with Man:=y0}}.Snap with Locs:=y1}} with Chunks:=y2}.Vol),ow tg0 37 (List.map aX z0)])) nF rfl (a8 1 u rfl) rfl) (aR (List.nil_sublist _) u).1 (bE.agg (.k8 (.cons ((eS _ 0 t0 u rfl)) .nil))) ⟨rfl,rfl⟩
theorem aD4:aO Tryz.prog 92=true:=by kernel_rfl
def GH (m:Nat) (p0:aB) (p1:Int) (p2:Int) (p3:Int):Option (Bool):=
 after (if (decide (0≤p1))=true then (if (decide (p1 < (p0.Vols.length:Int)))=true then ((ix p0.Vols p1).bind λx0=>if (x0.State==p2)=true then (some (.brk true)) else (ix p0.Vols p1).bind λx1=>some (.brk (x1.State==p3))) else some (.brk false)) else some (.brk false):Option (Lp (Bool) (Bool))) λj0=>some j0
theorem TJ {w:Nat} {p0:aB} {p1:Int} {p2:Int} {p3:Int} {o:Bool} (h:aE) {p0K:cB} {gS:cQ} (ok_Snaps:bG gS 4 p0.Snaps.length) {gC:cQ} (oC:bG gC 35 p0.Chunks.length) {gE:cQ} (oE:bG gE 3 p0.Exps.length) {gV:cQ} (oV:bG gV 4 p0.Vols.length) (K0:bT h (hC p0K p0 gS gC gE gV)) (m:GH w p0 p1 p2 p3=some o):
 aL Tryz.prog 155 [.ptr p0K 0,nZ p1,nZ p2,nZ p3] (hp h (hC p0K p0 gS gC gE gV)) (λr h'=>bT h (hC p0K p0 gS gC gE gV)∧r= .sc (.bool o)∧h'=hp h (hC p0K p0 gS gC gE gV)):=by
 refine sN K0 44 [.tmp 8] Tryz.func155 rfl rfl rfl rfl ?_
 unfold GH at m
 refine vs (v0 (vs (fR m (σ:=Bool) (λs=>(hC p0K p0 gS gC gE gV)) (λs=>.c 8 (.sc (.bool s)) .nil) (λx m=> ?_) ?_)))
 refine v0 ?_
 apply vi m <;> intro b0 m
 rw[b0]
 refine jD rfl (dM fN rfl rfl (vl 0 (aZ gV) gH rfl rfl rfl (bU (dP o6 oV rfl) ?_)))
 apply vi m <;> intro b1 m
 rw[b1]
 refine jD rfl (dM fN rfl rfl (vl 0 (aZ gV) gH rfl rfl rfl ?_))
 obtain⟨x0,X0,m⟩:=aC m
 refine bU (cJ X0 kZ oV rfl rfl) (bU (cR (bG.ne oV X0) mI rfl rfl) (vn (λu=>dW (fo:=2) (nZ x0.State) X0 dY oV cE rfl (aI 4 u rfl) (λ_=>rfl)) ?_))
 apply vi m <;> intro b2 m
 rw[b2]
 exact iD m
 rw[b2]
 refine jD rfl (dM fN rfl rfl (vl 0 (aZ gV) gH rfl rfl rfl ?_))
 obtain⟨x1,X1,m⟩:=aC m
 exact bU (cJ X1 kZ oV rfl rfl) (bU (cR (bG.ne oV X1) mI rfl rfl) (vn (λu=>dW (fo:=2) (nZ x1.State) X1 dY oV cE rfl (aI 4 u rfl) (λ_=>rfl)) (iD m)))
 rw[b1]
 exact iD m
 rw[b0]
 exact iD m
 rintro _ j0 m
 refine v0 ?_
 obtain rfl:=eY m
 exact vr λu=>dV.of1 (.inl rfl) (fP _ _ (.sc (.bool _)) rfl) (bD u [0,1,2,3,4] rfl).2 (bE.refl _ _) ⟨(bD u [0,1,2,3,4] rfl).1,rfl,rfl⟩
theorem MN:aO Tryz.prog 155=true:=by kernel_rfl
def xJ (m:Nat) (p0:List aA) (p1:aA) (q0:Int):Option (Lp (Int) ((List aA))):=
 after (if (decide (q0 < (p0.length:Int)))=true then ((ix p0 q0).bind λx0=>(KY m x0.Id p1.Id).bind λy0=>some (.brk y0)) else some (.brk false):Option (Lp (Bool) (Lp (Int) ((List aA))))) λj0=>if j0=true then (some (.go (IntKind.wrap .i64 (q0+1)))) else some (.brk q0)
def D9 (m:Nat) (p0:List aA) (p1:aA):Option ((List aA)):=
 after (aW (λs=>xJ m p0 p1 s) m 0) λr0=>after (if (decide (r0 < (p0.length:Int)))=true then ((ix p0 r0).bind λx0=>some (.brk (decide (x0.Id=p1.Id)))) else some (.brk false):Option (Lp (Bool) ((List aA)))) λj0=>if j0=true then ((D8 m p0).bind λy0=>(yJ m p1.Data).bind λy1=>(ix y0 r0).bind λx1=>(ix (y0.set r0.toNat ({ x1 with Staged:=true})) r0).bind λx2=>some ((y0.set r0.toNat ({ x1 with Staged:=true})).set r0.toNat ({ x2 with Data:=y1}))) else (slc p0 0 r0).bind λx3=>(app ([]:List aA) x3).bind λz0=>(app z0 ([p1]:List aA)).bind λz1=>(slc p0 r0 (p0).length).bind λx4=>(app z1 x4).bind λz2=>some z2
theorem YV {w:Nat} {p0:List aA} {p1:aA} {o:(List aA)} (h:aE) (m:D9 w p0 p1=some o):
 aL Tryz.prog 153 [.sl none 35 (List.map aH p0),.agg (aH p1)] h (λr h'=>∃g:cQ,bG g 35 o.length∧bT h [(g.t,.obj 44 (fl aH o g.sp))]∧r=aZ g∧h'=hp h [(g.t,.obj 44 (fl aH o g.sp))]):=by
 refine fY 65 [.tmp 4] Tryz.func153 rfl rfl rfl rfl ?_
 unfold D9 at m
 refine vs (v0 (gZ rfl rfl λk2 K3=>vs (v0 (vs (jT m (σ:=Int) (λs=> [(some k2,.obj 44 (aH p1))]) (λs=>.c 0 (.sl none 35 (List.map aH p0)) (.c 3 (.ptr k2 0) (.c 5 (nZ s) .nil))) (lx (.k3 .nil)) ?_ ?_)))))
 rintro _ q0 x m
 replace m:xJ w p0 p1 q0=some x:=m
 unfold xJ at m
 refine vs (vs (fR m (σ:=Bool) (λs=> [(some k2,.obj 44 (aH p1))]) (λs=>.c 0 (.sl none 35 (List.map aH p0)) (.c 3 (.ptr k2 0) (.c 5 (nZ q0) (.c 21 (.sc (.bool s)) .nil)))) (λx m=> ?_) ?_))
 refine v0 (u7 (by kernel_rfl) (dL jE rfl ?_))
 apply vi m <;> intro b0 m
 rw[b0]
 exact vx m fI rfl rfl λx0 _ m=>bU (oK nU rfl rfl) (va (.agg (bM x0.Id)) fZ rfl rfl (dM nU rfl rfl (vl 0 (.agg (bM p1.Id)) fZ rfl rfl rfl (vk WA QI m rfl rfl λ_ m=>hD m))))
 rw[b0]
 exact hD m
 rintro _ j0 m
 refine v0 ?_
 apply vi m <;> intro c0 m
 exact v0 (v0 (v0 (gW m)))
 exact v0 (G4 m)
 rintro _ r0 m
 refine vs (vs (fR m (σ:=Bool) (λs=> [(some k2,.obj 44 (aH p1))]) (λs=>.c 0 (.sl none 35 (List.map aH p0)) (.c 3 (.ptr k2 0) (.c 5 (nZ r0) (.c 37 (.sc (.bool s)) .nil)))) (λx m=> ?_) ?_))
 refine v0 (u7 (by kernel_rfl) (dL jE rfl ?_))
 apply vi m <;> intro b1 m
 rw[b1]
 exact vx m fI rfl rfl λx1 _ m=>bU (oK nU rfl rfl) (va (.agg (bM x1.Id)) fZ rfl rfl (dM nU rfl rfl (vl 0 (.agg (bM p1.Id)) fZ rfl rfl rfl (bU (wD FJ RX u5 EO rfl rfl) (hD m)))))
 rw[b1]
 exact hD m
 rintro _ j1 m
 refine v0 ?_
 apply vi m <;> intro c1 m
 refine vs (v0 ?_)
 obtain⟨y0,Y0,m⟩:=aC m
 refine ve λu=>cI (QY _ Y0) rfl LL rfl ?_
 rintro x h' ⟨ag0,O0,K0,rfl,rfl⟩
 refine qk (bT.co u K0) (iL _ _ _) (vs (v0 (dM jK rfl rfl (vl 1 _ lV rfl rfl rfl (vk LK DT m rfl rfl λy1 m=> ?_)))))
 obtain⟨x2,X0,m⟩:=aC m
 refine bU (cJ X0 fI O0 rfl rfl) (bU (cR (bG.ne O0 X0) nV rfl rfl) (ve λu=>cG (fo:=32) ({ x2 with Staged:=true}:aA) 0 u X0 cK O0 rfl rfl rfl rfl (cT.refl _ _) T5 rfl rfl λK1=>qk K1 rfl ?_))
 obtain⟨x3,X1,m⟩:=aC m
 refine bU (cJ X1 fI (bG.set O0) rfl rfl) (bU (cR (bG.ne (bG.set O0) X1) jK rfl rfl) (ve λu=>cG (fo:=33) ({ x3 with Data:=y1}:aA) 0 u X1 cK (bG.set O0) rfl rfl rfl rfl (cT.refl _ _) BA rfl rfl λK2=>qk K2 rfl (vs (v0 (v0 ?_)))))
 cases m
 exact vr λu=>dV.one (.inl rfl) (aR (h0:=h) (L':= [(cD ag0 ((y0.set r0.toNat ({ x2 with Staged:=true})).set r0.toNat ({ x3 with Data:=y1})))]) (.cons_cons _ (.cons _ (.refl _))) u).1 (bE.refl _ _) ⟨ag0,(bG.set (bG.set O0)),(aR (h0:=h) (L':= [(cD ag0 ((y0.set r0.toNat ({ x2 with Staged:=true})).set r0.toNat ({ x3 with Data:=y1})))]) (.cons_cons _ (.cons _ (.refl _))) u).2,rfl,rfl⟩
 refine v0 (vs (v0 (vs (v0 (vz [(1000000,some k2,.obj 44 (aH p1))] mixed (λu=>⟨λ_=>aI 0 u rfl,trivial⟩) λu=>zC 0 rfl (eT (.sc (.slice _ _ _)) rfl) (zC 1 rfl (eT (.sl _ _ _) rfl) (zI 2 rfl rfl ?_)))))))
 obtain⟨_,X2,m⟩:=aC m
 refine zC 3 rfl (o0 X2 fI rfl rfl rfl rfl) (zL 5 0 (.agg (aH p1)) rfl mH rfl rfl rfl (zC 6 rfl (eI (List.map aH ([p1]:List aA)) kY rfl rfl rfl rfl) ?_))
 obtain⟨z0,Z0,m⟩:=aC m
 refine zE 4 rfl (AT (c:=aH) Z0 kY rfl m7 rfl cK rfl u rfl λag1 O1 K4=>⟨⟨λ_=>aI 1 K4 rfl,trivial⟩, ?_⟩)
 obtain⟨z1,Z1,m⟩:=aC m
 refine zE 7 rfl (fX (c:=aH) 0 Z1 kY rfl m7 rfl cK rfl rfl O1 K4 rfl λag2 O2 K5=>⟨⟨λ_=>aI 1 K5 rfl,trivial⟩, ?_⟩)
 refine zC 8 rfl (hU (aw _ _ _) rfl) (zX (qk (f:=.c 7 _ (.c 59 _ (.c 56 _ (.c 58 _ (.c 57 _ (OE 55 _ _ _ _ _)))))) K5 rfl (vs (v0 ?_))))
 obtain⟨_,X3,m⟩:=aC m
 refine bU (o0 X3 fI rfl rfl rfl rfl) ?_
 obtain⟨z2,Z2,m⟩:=aC m
 refine ve λu=>fX (c:=aH) 0 Z2 kY rfl m7 rfl cK rfl rfl O2 u rfl λag3 O3 K6=>qk K6 rfl (v0 ?_)
 obtain rfl:=eY m
 exact vr λu=>dV.one (.inl rfl) (aR (h0:=h) (L':= [(cD ag3 z2)]) (.cons_cons _ (.cons _ (.refl _))) u).1 (bE.refl _ _) ⟨ag3,O3,(aR (h0:=h) (L':= [(cD ag3 z2)]) (.cons_cons _ (.cons _ (.refl _))) u).2,rfl,rfl⟩
theorem YW:aO Tryz.prog 153=true:=by kernel_rfl
open Go.Vm
theorem aD5: @D8= @F0:=rfl
theorem aD6 {F:Nat} {c:aB} (hF:1000≤F) (h:Sm c):MJ F c=some c:=by
 rw[← m14 (F:=F) hF h]
 rfl
theorem wru {n:Nat} (h:n < 1000000000):IntKind.wrap .u64 (n:Int)=n:=by
 have e:IntKind.wrap .u64 (n:Int)=(n:Int) % 18446744073709551616:=rfl
 rw[e]; omega
theorem PQ (p:Int):0≤IntKind.wrap .u64 p:=by
 have e:IntKind.wrap .u64 p=p % 18446744073709551616:=rfl
 rw[e]; omega
theorem YX (p:Int) {n:Nat} (h0:0 < n) (hn:n < 1000000000):∃j:Nat,j < n∧IntKind.wrap .i64 ((IntKind.wrap .u64 p).tmod (n:Int))=(j:Int):=by
 have h1:=PQ p
 generalize IntKind.wrap .u64 p=a at h1
 rw[Int.tmod_eq_emod_of_nonneg h1]
 have h2:0≤a % (n:Int):=Int.emod_nonneg _ (by omega)
 have h3:a % (n:Int) < n:=Int.emod_lt_of_pos _ (by omega)
 refine⟨(a % (n:Int)).toNat,by omega, ?_⟩
 rw[wr (by omega) (by omega)]
 omega
theorem kC {α:Type} {l:List α} {j:Nat} {x y:α} (h:y∈l.set j x):y∈l∨y=x:=by
 have:=List.mem_or_eq_of_mem_set h
 exact this
open Go.Vm
def vG (m:Nat) (p0:aB) (p1:Int) (q0:List aG) (q1:Int):Option (Lp ((List aG)×Int) (Bool×(List aG)×(List aA))):=
 if (decide (q1 < (p0.Snaps.length:Int)))=true then ((ix p0.Snaps q1).bind λx0=>after (if (x0.Seq !=p1)=true then ((ix p0.Snaps q1).bind λx1=>(app q0 ([x1]:List aG)).bind λz0=>some (.brk z0)) else some (.brk q0):Option (Lp ((List aG)) (Lp ((List aG)×Int) (Bool×(List aG)×(List aA))))) λj0=>some (.go (j0,IntKind.wrap .i64 (q1+1)))) else some (.brk (q0,q1))
def vH (m:Nat) (p0:aB) (r0:List aG) (q0:List aA) (q1:Int):Option (Lp ((List aA)×Int) (Bool×(List aG)×(List aA))):=
 if (decide (q1 < (p0.Chunks.length:Int)))=true then (after ((ix p0.Chunks q1).bind λx0=>(W3 m ({ Seq:=p0.Seq,Snaps:=r0,Chunks:=p0.Chunks,Exps:=p0.Exps,Vols:=p0.Vols}:aB) x0.Id).bind λy0=>after (if (!y0)=true then (if ((({ { x0 with Staged:=false} with Data:=([]:List Int)}.Locs).length:Int)==0)=true then (some (.ret (.brk q0))) else some (.brk { { x0 with Staged:=false} with Data:=([]:List Int)})) else some (.brk x0):Option (Lp (aA) (Lp ((List aA)) (Lp ((List aA)×Int) (Bool×(List aG)×(List aA)))))) λj0=>(app q0 ([j0]:List aA)).bind λz0=>some (.brk z0):Option (Lp ((List aA)) (Lp ((List aA)×Int) (Bool×(List aG)×(List aA))))) λj1=>some (.go (j1,IntKind.wrap .i64 (q1+1)))) else some (.brk (q0,q1))
def I7 (m:Nat) (p0:aB) (p1:Int):Option (Bool×(List aG)×(List aA)):=
 after (aW (λs=>vG m p0 p1 s.1 s.2) m ([],0)) λ⟨r0,r1⟩=>if ((r0.length:Int)==(p0.Snaps.length:Int))=true then (some (false,p0.Snaps,p0.Chunks)) else after (aW (λs=>vH m p0 r0 s.1 s.2) m ([],0)) λ⟨r2,r3⟩=>some (true,r0,r2)
theorem YY {w:Nat} {p0:aB} {p1:Int} {o:Bool×(List aG)×(List aA)} (h:aE) {p0K:cB} {gS:cQ} (ok_Snaps:bG gS 4 p0.Snaps.length) {gC:cQ} (oC:bG gC 35 p0.Chunks.length) {gE:cQ} (oE:bG gE 3 p0.Exps.length) {gV:cQ} (oV:bG gV 4 p0.Vols.length) (K0:bT h (hC p0K p0 gS gC gE gV)) (m:I7 w p0 p1=some o):
 aL Tryz.prog 154 [.ptr p0K 0,nZ p1] (hp h (hC p0K p0 gS gC gE gV)) (λr h'=>∃g_Snaps':cQ,bG g_Snaps' 4 (o.2.1:List aG).length∧∃g_Chunks':cQ,bG g_Chunks' 35 (o.2.2:List aA).length∧bT h (hL p0K p0.Seq g_Snaps' g_Chunks' gE gV o.2.1 o.2.2 p0.Exps p0.Vols)∧r= .sc (.bool o.1)∧h'=hp h (hL p0K p0.Seq g_Snaps' g_Chunks' gE gV o.2.1 o.2.2 p0.Exps p0.Vols)):=by
 refine sN K0 88 [.tmp 4] Tryz.func154 rfl rfl rfl rfl ?_
 unfold I7 at m
 refine vs (v0 (vs (v0 (vs (vs (v0 (pJ (EN (.obj 60 (fl bR ([]:List aG) g0.sp)) 5 (aZ g0) (fU _)) (m5 m (σ:=(List aG)×Int) (τ:=cQ) (λg s=>((dN g s.1)::(hC p0K p0 gS gC gE gV))) (λg s=>bG g 4 (s.1:List aG).length) (λg s=>.c 0 (.ptr p0K 0) (.c 1 (nZ p1) (.c 5 (aZ g) (.c 6 (nZ s.2) .nil)))) g0 (bG.g0 4) (lx (.k4 .nil)) ?_ ?_))))))))
 rintro ag0 ⟨q0,q1⟩ x O0 m
 replace m:vG w p0 p1 q0 q1=some x:=m
 unfold vG at m
 refine vs (vs (v0 (jD rfl (dM dU rfl rfl (vl 1 (aZ gS) fM rfl rfl rfl (bU (dP jU ok_Snaps rfl) (v0 ?_)))))))
 apply vi m <;> intro c0 m
 refine v0 (vs (v0 (vs (v0 (jD rfl (dM dU rfl rfl (vl 1 (aZ gS) fM rfl rfl rfl ?_)))))))
 obtain⟨x0,X0,m⟩:=aC m
 refine bU (cJ X0 iN ok_Snaps rfl rfl) (bU (cR (bG.ne ok_Snaps X0) tI rfl rfl) (vn (λu=>dW (fo:=0) (nZ x0.Seq) X0 eH ok_Snaps cE rfl (aI 2 u rfl) (λ_=>rfl)) (oU m (σ:=(List aG)) (τ:=cQ) (λg s=>((dN g s)::(hC p0K p0 gS gC gE gV))) (λg s=>bG g 4 (s:List aG).length) (λg s=>.c 0 (.ptr p0K 0) (.c 1 (nZ p1) (.c 5 (aZ g) (.c 6 (nZ q1) .nil)))) (λx m=> ?_) ?_)))
 refine v0 ?_
 apply vi m <;> intro c1 m
 refine v0 (jD rfl (dM dU rfl rfl (vl 1 (aZ gS) fM rfl rfl rfl ?_)))
 obtain⟨x1,X1,m⟩:=aC m
 refine bU (cJ X1 iN ok_Snaps rfl rfl) (vn (λu=>dW (fo:=0) (.agg (bR x1)) X1 eH ok_Snaps tH rfl (aI 2 u rfl) (λ_=>rfl)) (bU (eI (List.map bR ([x1]:List aG)) uU rfl rfl rfl rfl) ?_))
 obtain⟨z0,Z0,m⟩:=aC m
 exact ve λu=>fX (c:=bR) 0 Z0 uU rfl tJ rfl eH rfl rfl O0 u rfl λag1 O1 K1=>qk K1 rfl (eR m ag1 O1 (lx (.k4 .nil)))
 exact v0 (eR m ag0 O0 (lx (.k4 .nil)))
 rintro ag2 j0 O2 m
 exact v0 (eR m ag2 O2 (lx (.k4 .nil)))
 exact v0 (kT m ag0 O0 (lx (.k4 .nil)))
 rintro ag3 ⟨r0,r1⟩ t0 m
 refine vs (vs (v0 (bU (dP jU t0 rfl) (jD rfl (dM dU rfl rfl (vl 1 (aZ gS) fM rfl rfl rfl (bU (dP jU ok_Snaps rfl) (v0 ?_))))))))
 apply vi m <;> intro c2 m
 refine vs (v0 (v0 ?_))
 cases m
 exact vr λu=>dV.of1 (.inl rfl) (fP _ _ (.sc (.bool _)) rfl) (bD u [1,2,3,4,5] rfl).2 (bE.refl _ _) ⟨gS,ok_Snaps,gC,oC,(bD u [1,2,3,4,5] rfl).1,rfl,rfl⟩
 refine v0 (vs (v0 (jD rfl (dM dU rfl rfl (ve λu=>aJ 1 ([nZ p0.Seq,aZ ag3,aZ gC,aZ gE,aZ gV]) u rfl rfl (bZ rfl) (cC (bW _ _ _) rfl) FH rfl rfl λK2=>qk K2 rfl (vs (v0 (vs (vs (v0 (pJ (EN (.obj 44 (fl aH ([]:List aA) g0.sp)) 7 (aZ g0) (fU _)) (m5 m (σ:=(List aA)×Int) (τ:=cQ) (λg s=> [(cD g s.1),(dN ag3 r0),(hO p0K p0.Seq ag3 gC gE gV),(dN gS p0.Snaps),(cD gC p0.Chunks),(eX gE p0.Exps),(kO gV p0.Vols)]) (λg s=>bG g 35 (s.1:List aA).length) (λg s=>.c 0 (.ptr p0K 0) (.c 7 (aZ g) (.c 8 (nZ s.2) .nil))) g0 (bG.g0 35) (lx (.k3 .nil)) ?_ ?_))))))))))))
 rintro ag4 ⟨q2,q3⟩ x O3 m
 replace m:vH w p0 r0 q2 q3=some x:=m
 unfold vH at m
 refine vs (vs (v0 (jD rfl (dM dX rfl rfl (vl 2 (aZ gC) eU rfl rfl rfl (bU (dP jE oC rfl) (v0 ?_)))))))
 apply vi m <;> intro c3 m
 refine v0 (vs (oU m (σ:=(List aA)) (τ:=cQ) (λg s=> [(cD g s),(dN ag3 r0),(hO p0K p0.Seq ag3 gC gE gV),(dN gS p0.Snaps),(cD gC p0.Chunks),(eX gE p0.Exps),(kO gV p0.Vols)]) (λg s=>bG g 35 (s:List aA).length) (λg s=>.c 0 (.ptr p0K 0) (.c 7 (aZ g) (.c 8 (nZ q3) .nil))) (λx m=> ?_) ?_))
 refine v0 (vs (v0 (jD rfl (dM dX rfl rfl (vl 2 (aZ gC) eU rfl rfl rfl ?_)))))
 obtain⟨x2,X2,m⟩:=aC m
 refine bU (cJ X2 fI oC rfl rfl) (vn (λu=>dW (fo:=0) (.agg (aH x2)) X2 cK oC mH rfl (aI 4 u rfl) (λ_=>rfl)) (ve λu=>bI (bM jR++(JK:List AV)) u m7 rfl rfl λk465 K3=>qk K3 rfl (ve λu=>aJ 0 (aH x2) u rfl rfl rfl rfl wN rfl rfl λK4=>qk K4 rfl (vs (vs (v0 (u7 (by kernel_rfl) (jD rfl (vl 3 (.agg ([nZ p0.Seq,aZ ag3,aZ gC,aZ gE,aZ gV])) eV rfl rfl rfl (dM nU rfl rfl (vl 0 (.agg (bM x2.Id)) fZ rfl rfl rfl ?_)))))))))))
 obtain⟨_,Y0,m⟩:=aC m
 refine vn (λu=>bY (fC (.cons (Br.agg (.cons (Br.refl _ _) (.cons (Br.aw 2 eH t0 u rfl) (.cons (Br.aw 5 cK oC u rfl) (.cons (Br.aw 6 fH oE u rfl) (.cons (Br.aw 7 dY oV u rfl) .nil)))))) (.cons (Br.refl _ _) .nil)) rfl (W38 _ Y0)) rfl aC1 rfl) (fR m (σ:=aA) (λs=> [(some k465,.obj 44 (aH s)),(cD ag4 q2),(dN ag3 r0),(hO p0K p0.Seq ag3 gC gE gV),(dN gS p0.Snaps),(cD gC p0.Chunks),(eX gE p0.Exps),(kO gV p0.Vols)]) (λs=>.c 0 (.ptr p0K 0) (.c 7 (aZ ag4) (.c 8 (nZ q3) (.c 9 (.ptr k465 0) .nil)))) (λx m=> ?_) ?_)
 refine v0 ?_
 apply vi m <;> intro c4 m
 refine vs (v0 (dM nV rfl rfl (ve λu=>aJ 0 (aH { x2 with Staged:=false}) u rfl rfl rfl rfl T5 rfl rfl λK5=>qk K5 rfl (dM jK rfl rfl (ve λu=>wH 0 (aH { { x2 with Staged:=false} with Data:=([]:List Int)}) u rfl rfl rfl rfl (.cons (aV _) .nil) BA rfl rfl λK6=>qk K6 rfl (vs (v0 (dM iO rfl rfl (vl 0 _ fJ rfl rfl rfl (dL jJ rfl (v0 ?_)))))))))))
 apply vi m <;> intro c5 m
 exact v0 (vxt m rfl λm=>eR m ag4 O3 (l4 [1,2,3,4,5,6,7] rfl rfl (.k3 .nil)))
 exact v0 (hD m)
 exact v0 (hD m)
 rintro _ j1 m
 refine v0 (vl 0 (.agg (aH j1)) mH rfl rfl rfl (bU (eI (List.map aH ([j1]:List aA)) kY rfl rfl rfl rfl) ?_))
 obtain⟨z1,Z1,m⟩:=aC m
 exact ve λu=>fX (c:=aH) 1 Z1 kY rfl m7 rfl cK rfl rfl O3 u rfl λag5 O4 K7=>qk K7 rfl (eR m ag5 O4 (l4 [1,2,3,4,5,6,7] rfl rfl (.k3 .nil)))
 rintro ag6 j2 O5 m
 exact v0 (eR m ag6 O5 (lx (.k3 .nil)))
 exact v0 (kT m ag4 O3 (lx (.k3 .nil)))
 rintro ag7 ⟨r2,r3⟩ t1 m
 refine vs (v0 (jD rfl (dM dX rfl rfl (ve λu=>aJ 2 ([nZ p0.Seq,aZ ag3,aZ ag7,aZ gE,aZ gV]) u rfl rfl (bZ rfl) (cC (bW _ _ _) rfl) yA rfl rfl λK8=>qk K8 rfl (vs (v0 (v0 ?_)))))))
 cases m
 exact vr λu=>dV.of1 (.inl rfl) (fP _ _ (.sc (.bool _)) rfl) (bD u [2,1,0,5,6] rfl).2 (bE.refl _ _) ⟨ag3,t0,ag7,t1,(bD u [2,1,0,5,6] rfl).1,rfl,rfl⟩
theorem QZ:aO Tryz.prog 154=true:=by kernel_rfl
def vI (m:Nat) (p0:aB) (p1:bC) (p2:bK) (q0:Int):Option (Lp (Int) (Lp (Int×(List aA)×(List aN)) (Bool×Int×zM))):=
 if (decide (q0 < (p0.Snaps.length:Int)))=true then ((ix p0.Snaps q0).bind λx0=>if (x0.Seq==p1.Seq)=true then ((ix p0.Snaps q0).bind λx1=>(GF m x1.Locs p2).bind λy0=>(ix p0.Snaps q0).bind λx2=>some (.ret (.ret (true,p0.Seq,p0.Snaps.set q0.toNat ({ x2 with Locs:=y0}),p0.Chunks,p0.Exps)))) else some (.go (IntKind.wrap .i64 (q0+1)))) else some (.brk q0)
def BV (m:Nat) (p0:aB) (p1:bC) (q0:Int):Option (Lp (Int) (Lp (Int×(List aA)×(List aN)) (Bool×Int×zM))):=
 after (if (decide (q0 < (p0.Exps.length:Int)))=true then ((ix p0.Exps q0).bind λx0=>some (.brk (decide (x0.Seq < p1.Seq)))) else some (.brk false):Option (Lp (Bool) (Lp (Int) (Lp (Int×(List aA)×(List aN)) (Bool×Int×zM))))) λj0=>if j0=true then (some (.go (IntKind.wrap .i64 (q0+1)))) else some (.brk q0)
def MO (m:Nat) (p0:aB) (p1:bC) (p2:bK):Option (Bool×Int×zM):=
 after (if (p1.Kind==1)=true then ((NP m ({ Seq:=p0.Seq,Snaps:=p0.Snaps,Chunks:=p0.Chunks,Exps:=p0.Exps,Vols:=p0.Vols}:aB) p1.Id).bind λy0=>if (decide (y0 < 0))=true then (some (.ret (false,p0.Seq,p0.Snaps,p0.Chunks,p0.Exps))) else (ix p0.Chunks y0).bind λx0=>(GF m x0.Locs p2).bind λy1=>(ix p0.Chunks y0).bind λx1=>some (.brk (p0.Seq,p0.Chunks.set y0.toNat ({ x1 with Locs:=y1}),p0.Exps))) else if (p1.Kind==2)=true then (after (aW (λs=>vI m p0 p1 p2 s) m 0) λr0=>some (.ret (false,p0.Seq,p0.Snaps,p0.Chunks,p0.Exps))) else after (aW (λs=>BV m p0 p1 s) m 0) λr1=>after (if (decide (r1 < (p0.Exps.length:Int)))=true then ((ix p0.Exps r1).bind λx2=>some (.brk (x2.Seq==p1.Seq))) else some (.brk false):Option (Lp (Bool) (Lp (Int×(List aA)×(List aN)) (Bool×Int×zM)))) λj0=>if j0=true then ((ix p0.Exps r1).bind λx3=>(GF m x3.Locs p2).bind λy2=>(ix p0.Exps r1).bind λx4=>some (.ret (true,p0.Seq,p0.Snaps,p0.Chunks,p0.Exps.set r1.toNat ({ x4 with Locs:=y2})))) else (slc p0.Exps 0 r1).bind λx5=>(app ([]:List aN) x5).bind λz0=>(app z0 ([({ Seq:=p1.Seq,Of:=p1.Of,Locs:=([p2]:List bK)}:aN)]:List aN)).bind λz1=>(slc p0.Exps r1 (p0.Exps).length).bind λx6=>(app z1 x6).bind λz2=>after (if (decide (p0.Seq≤p1.Seq))=true then (some (.brk (decide (p1.Seq < 4611686018427387904)))) else some (.brk false):Option (Lp (Bool) (Lp (Int×(List aA)×(List aN)) (Bool×Int×zM)))) λj1=>after (if j1=true then (some (.brk (IntKind.wrap .i64 (p1.Seq+1)))) else some (.brk p0.Seq):Option (Lp (Int) (Lp (Int×(List aA)×(List aN)) (Bool×Int×zM)))) λj2=>some (.brk (j2,p0.Chunks,z2)):Option (Lp (Int×(List aA)×(List aN)) (Bool×Int×zM))) λ⟨j3,j4,j5⟩=>some (true,j3,p0.Snaps,j4,j5)
theorem aD8 {w:Nat} {p0:aB} {p1:bC} {p2:bK} {o:Bool×Int×zM} (h:aE) {p0K:cB} {gS:cQ} (ok_Snaps:bG gS 4 p0.Snaps.length) {gC:cQ} (oC:bG gC 35 p0.Chunks.length) {gE:cQ} (oE:bG gE 3 p0.Exps.length) {gV:cQ} (oV:bG gV 4 p0.Vols.length) (K0:bT h (hC p0K p0 gS gC gE gV)) (m:MO w p0 p1 p2=some o):
 aL Tryz.prog 156 [.ptr p0K 0,.agg (aX p1),.agg (aQ p2)] (hp h (hC p0K p0 gS gC gE gV)) (λr h'=>∃g_Snaps':cQ,bG g_Snaps' 4 (o.2.2.1:List aG).length∧∃g_Chunks':cQ,bG g_Chunks' 35 (o.2.2.2.1:List aA).length∧∃g_Exps':cQ,bG g_Exps' 3 (o.2.2.2.2:List aN).length∧bT h (hL p0K o.2.1 g_Snaps' g_Chunks' g_Exps' gV o.2.2.1 o.2.2.2.1 o.2.2.2.2 p0.Vols)∧r= .sc (.bool o.1)∧h'=hp h (hL p0K o.2.1 g_Snaps' g_Chunks' g_Exps' gV o.2.2.1 o.2.2.2.1 o.2.2.2.2 p0.Vols)):=by
 refine sN K0 184 [.tmp 6] Tryz.func156 rfl rfl rfl rfl ?_
 unfold MO at m
 refine vs (v0 (gZ rfl rfl λk2 K3=>gZ rfl rfl λk5 K6=>vs (vs (v0 (dM lJ rfl rfl (vl 1 _ cE rfl rfl rfl (v0 (vs (v0 (oU m (σ:=Int×(List aA)×(List aN)) (τ:=cQ×cQ) (λg s=>((some k5,.obj 81 (aQ p2))::(some k2,.obj 38 (aX p1))::(hL p0K s.1 gS g.1 g.2 gV p0.Snaps s.2.1 s.2.2 p0.Vols))) (λg s=>bG g.1 35 (s.2.1:List aA).length∧bG g.2 3 (s.2.2:List aN).length) (λg s=>.nil) (λx m=> ?_) ?_))))))))))
 refine v0 ?_
 apply vi m <;> intro c0 m
 refine vs (v0 (u7 (by kernel_rfl) (jD rfl (vl 2 (.agg ([nZ p0.Seq,aZ gS,aZ gC,aZ gE,aZ gV])) eV rfl rfl rfl (dM tE rfl rfl (vl 1 (.agg (bM p1.Id)) fZ rfl rfl rfl ?_))))))
 obtain⟨_,Y0,m⟩:=aC m
 refine vn (λu=>bY (fC (.cons (Br.agg (.cons (Br.refl _ _) (.cons (Br.aw 3 eH ok_Snaps u rfl) (.cons (Br.aw 4 cK oC u rfl) (.cons (Br.aw 5 fH oE u rfl) (.cons (Br.aw 6 dY oV u rfl) .nil)))))) (.cons (Br.refl _ _) .nil)) rfl (W88 _ Y0)) rfl OV rfl) (vs (vs (v0 (v0 ?_))))
 apply vi m <;> intro c1 m
 refine vs (v0 (v0 (gO m λm=> ?_)))
 cases m
 exact vr λu=>dV.of1 (.inl rfl) (fP _ _ (.sc (.bool _)) rfl) (bD u [2,3,4,5,6] rfl).2 (bE.refl _ _) ⟨gS,ok_Snaps,gC,oC,gE,oE,(bD u [2,3,4,5,6] rfl).1,rfl,rfl⟩
 refine v0 (v0 (vz [(1000000,some p0K,.obj 30 ([nZ p0.Seq,aZ gS,aZ gC,aZ gE,aZ gV])),(17,gC.t,.obj 44 (fl aH (p0.Chunks:List aA) gC.sp)),(1000000,some k5,.obj 81 (aQ p2))] mixed (λu=>⟨λ_=>aI 2 u rfl,λ_=>aI 4 u rfl,λ_=>aI 0 u rfl,trivial⟩) λu=>zP 0 rfl rfl (zN 1 rfl rfl (zF 2 rfl dX rfl (zL 3 0 (aZ gC) rfl eU rfl rfl rfl (zI 4 rfl rfl (zP 5 rfl rfl (zN 6 rfl rfl (zF 7 rfl dX rfl (zL 8 0 (aZ gC) rfl eU rfl rfl rfl (zI 9 rfl rfl ?_)))))))))))
 obtain⟨x0,X0,m⟩:=aC m
 refine zC 10 rfl (cJ X0 fI oC rfl rfl) (zC 11 rfl (cR (bG.ne oC X0) iO rfl rfl) (uS 12 rfl (λ_ _ hi hB=>dW (fo:=34) (.sl none 4 (List.map aQ x0.Locs)) X0 cK oC fJ rfl (fW.get 1 hi rfl (hB 17 (by kernel_rfl))) (λ_=>rfl)) (zL 13 2 (.agg (aQ p2)) rfl m9 rfl rfl rfl ?_)))
 obtain⟨y0,Y1,m⟩:=aC m
 refine zC 14 rfl (bY (TG _ Y1) rfl ML rfl) ?_
 obtain⟨x1,X1,m⟩:=aC m
 refine zC 15 rfl (cJ X1 fI oC rfl rfl) (zC 16 rfl (cR (bG.ne oC X1) iO rfl rfl) (zE 17 rfl (cG (fo:=34) ({ x1 with Locs:=y0}:aA) 4 u X1 cK oC rfl rfl rfl rfl (cT.refl _ _) nE rfl rfl λK1=>⟨⟨λ_=>aI 2 K1 rfl,λe=>absurd e (by decide),λ_=>aI 0 K1 rfl,trivial⟩, ?_⟩)))
 exact zX (qk (f:=uT 144 _ _ _ _ _ _ _ _ _ _ _ _ _ _ _ _ _ _) K1 rfl (eR m (gC,gE) ⟨(bG.set oC),oE⟩ (lx .nil)))
 refine vs (v0 (v0 ?_))
 apply vi m <;> intro c2 m
 refine vs (vs (v0 (jT m (σ:=Int) (λs=>((some k5,.obj 81 (aQ p2))::(some k2,.obj 38 (aX p1))::(hC p0K p0 gS gC gE gV))) (λs=>.c 0 (.ptr p0K 0) (.c 4 (.ptr k2 0) (.c 5 (.ptr k5 0) (.c 8 (nZ s) .nil)))) (lx (.k4 .nil)) ?_ ?_)))
 rintro _ q0 x m
 replace m:vI w p0 p1 p2 q0=some x:=m
 unfold vI at m
 refine vs (vs (v0 (jD rfl (dM dU rfl rfl (vl 2 (aZ gS) fM rfl rfl rfl (bU (dP jU ok_Snaps rfl) (v0 ?_)))))))
 apply vi m <;> intro c3 m
 refine v0 (vs (v0 (vs (v0 (u7 (by kernel_rfl) (jD rfl (dM dU rfl rfl (vl 2 (aZ gS) fM rfl rfl rfl ?_))))))))
 obtain⟨x2,X2,m⟩:=aC m
 refine bU (cJ X2 iN ok_Snaps rfl rfl) (bU (cR (bG.ne ok_Snaps X2) tI rfl rfl) (vn (λu=>dW (fo:=0) (nZ x2.Seq) X2 eH ok_Snaps cE rfl (aI 3 u rfl) (λ_=>rfl)) (dM kL rfl rfl (vl 1 _ cE rfl rfl rfl (v0 ?_)))))
 apply vi m <;> intro c4 m
 refine vs (v0 (vz [(1000000,some p0K,.obj 30 ([nZ p0.Seq,aZ gS,aZ gC,aZ gE,aZ gV])),(17,gS.t,.obj 60 (fl bR (p0.Snaps:List aG) gS.sp)),(1000000,some k5,.obj 81 (aQ p2))] mixed (λu=>⟨λ_=>aI 2 u rfl,λ_=>aI 3 u rfl,λ_=>aI 0 u rfl,trivial⟩) λu=>zP 0 rfl rfl (zN 1 rfl rfl (zF 2 rfl dU rfl (zL 3 0 (aZ gS) rfl fM rfl rfl rfl (zI 4 rfl rfl (zP 5 rfl rfl (zN 6 rfl rfl (zF 7 rfl dU rfl (zL 8 0 (aZ gS) rfl fM rfl rfl rfl (zI 9 rfl rfl ?_)))))))))))
 obtain⟨x3,X3,m⟩:=aC m
 refine zC 10 rfl (cJ X3 iN ok_Snaps rfl rfl) (zC 11 rfl (cR (bG.ne ok_Snaps X3) jL rfl rfl) (uS 12 rfl (λ_ _ hi hB=>dW (fo:=3) (.sl none 4 (List.map aQ x3.Locs)) X3 eH ok_Snaps fJ rfl (fW.get 1 hi rfl (hB 17 (by kernel_rfl))) (λ_=>rfl)) (zL 13 2 (.agg (aQ p2)) rfl m9 rfl rfl rfl ?_)))
 obtain⟨y1,Y2,m⟩:=aC m
 refine zC 14 rfl (bY (TG _ Y2) rfl ML rfl) ?_
 obtain⟨x4,X4,m⟩:=aC m
 refine zC 15 rfl (cJ X4 iN ok_Snaps rfl rfl) (zC 16 rfl (cR (bG.ne ok_Snaps X4) jL rfl rfl) (zE 17 rfl (cG (fo:=3) ({ x4 with Locs:=y1}:aG) 3 u X4 eH ok_Snaps rfl rfl rfl rfl (cT.refl _ _) nE rfl rfl λK2=>⟨⟨λ_=>aI 2 K2 rfl,λe=>absurd e (by decide),λ_=>aI 0 K2 rfl,trivial⟩, ?_⟩)))
 refine zX (qk (f:=uT 183 _ _ _ _ _ _ _ _ _ _ _ _ _ _ _ _ _ _) K2 rfl (vs (v0 (v0 (gO m λm=>gO m λm=> ?_)))))
 cases m
 exact vr λu=>dV.of1 (.inl rfl) (fP _ _ (.sc (.bool _)) rfl) (bD u [2,3,4,5,6] rfl).2 (bE.refl _ _) ⟨gS,(bG.set ok_Snaps),gC,oC,gE,oE,(bD u [2,3,4,5,6] rfl).1,rfl,rfl⟩
 exact v0 (v0 (hD m))
 exact v0 (u0 m)
 rintro _ r0 m
 refine vs (v0 (v0 (gO m λm=> ?_)))
 cases m
 exact vr λu=>dV.of1 (.inl rfl) (fP _ _ (.sc (.bool _)) rfl) (bD u [2,3,4,5,6] rfl).2 (bE.refl _ _) ⟨gS,ok_Snaps,gC,oC,gE,oE,(bD u [2,3,4,5,6] rfl).1,rfl,rfl⟩
 refine vs (v0 (vs (jT m (σ:=Int) (λs=>((some k5,.obj 81 (aQ p2))::(some k2,.obj 38 (aX p1))::(hC p0K p0 gS gC gE gV))) (λs=>.c 0 (.ptr p0K 0) (.c 4 (.ptr k2 0) (.c 5 (.ptr k5 0) (.c 9 (nZ s) .nil)))) (lx (.k4 .nil)) ?_ ?_)))
 rintro _ q1 x m
 replace m:BV w p0 p1 q1=some x:=m
 unfold BV at m
 refine vs (vs (fR m (σ:=Bool) (λs=>((some k5,.obj 81 (aQ p2))::(some k2,.obj 38 (aX p1))::(hC p0K p0 gS gC gE gV))) (λs=>.c 0 (.ptr p0K 0) (.c 4 (.ptr k2 0) (.c 5 (.ptr k5 0) (.c 9 (nZ q1) (.c 32 (.sc (.bool s)) .nil))))) (λx m=> ?_) ?_))
 refine v0 (u7 (by kernel_rfl) (jD rfl (dM eW rfl rfl (vl 2 (aZ gE) i8 rfl rfl rfl (bU (dP o5 oE rfl) ?_)))))
 apply vi m <;> intro b0 m
 rw[b0]
 refine jD rfl (dM eW rfl rfl (vl 2 (aZ gE) i8 rfl rfl rfl ?_))
 obtain⟨x5,X5,m⟩:=aC m
 exact bU (cJ X5 iE oE rfl rfl) (bU (cR (bG.ne oE X5) FP rfl rfl) (vn (λu=>dW (fo:=0) (nZ x5.Seq) X5 fH oE cE rfl (aI 5 u rfl) (λ_=>rfl)) (dM kL rfl rfl (vl 1 _ cE rfl rfl rfl (mO m)))))
 rw[b0]
 exact mO m
 rintro _ j0 m
 refine v0 ?_
 apply vi m <;> intro c5 m
 exact v0 (v0 (v0 (hD m)))
 exact v0 (u0 m)
 rintro _ r1 m
 refine vs (vs (fR m (σ:=Bool) (λs=>((some k5,.obj 81 (aQ p2))::(some k2,.obj 38 (aX p1))::(hC p0K p0 gS gC gE gV))) (λs=>.c 0 (.ptr p0K 0) (.c 4 (.ptr k2 0) (.c 5 (.ptr k5 0) (.c 9 (nZ r1) (.c 54 (.sc (.bool s)) .nil))))) (λx m=> ?_) ?_))
 refine v0 (u7 (by kernel_rfl) (jD rfl (dM eW rfl rfl (vl 2 (aZ gE) i8 rfl rfl rfl (bU (dP o5 oE rfl) ?_)))))
 apply vi m <;> intro b1 m
 rw[b1]
 refine jD rfl (dM eW rfl rfl (vl 2 (aZ gE) i8 rfl rfl rfl ?_))
 obtain⟨x6,X6,m⟩:=aC m
 exact bU (cJ X6 iE oE rfl rfl) (bU (cR (bG.ne oE X6) FP rfl rfl) (vn (λu=>dW (fo:=0) (nZ x6.Seq) X6 fH oE cE rfl (aI 5 u rfl) (λ_=>rfl)) (dM kL rfl rfl (vl 1 _ cE rfl rfl rfl (mO m)))))
 rw[b1]
 exact mO m
 rintro _ j1 m
 refine v0 ?_
 apply vi m <;> intro c6 m
 refine vs (v0 (vz [(1000000,some p0K,.obj 30 ([nZ p0.Seq,aZ gS,aZ gC,aZ gE,aZ gV])),(17,gE.t,.obj 99 (fl cL (p0.Exps:List aN) gE.sp)),(1000000,some k5,.obj 81 (aQ p2))] mixed (λu=>⟨λ_=>aI 2 u rfl,λ_=>aI 5 u rfl,λ_=>aI 0 u rfl,trivial⟩) λu=>zP 0 rfl rfl (zN 1 rfl rfl (zF 2 rfl eW rfl (zL 3 0 (aZ gE) rfl i8 rfl rfl rfl (zI 4 rfl rfl (zP 5 rfl rfl (zN 6 rfl rfl (zF 7 rfl eW rfl (zL 8 0 (aZ gE) rfl i8 rfl rfl rfl (zI 9 rfl rfl ?_)))))))))))
 obtain⟨x7,X7,m⟩:=aC m
 refine zC 10 rfl (cJ X7 iE oE rfl rfl) (zC 11 rfl (cR (bG.ne oE X7) kN rfl rfl) (uS 12 rfl (λ_ _ hi hB=>dW (fo:=2) (.sl none 4 (List.map aQ x7.Locs)) X7 fH oE fJ rfl (fW.get 1 hi rfl (hB 17 (by kernel_rfl))) (λ_=>rfl)) (zL 13 2 (.agg (aQ p2)) rfl m9 rfl rfl rfl ?_)))
 obtain⟨y2,Y3,m⟩:=aC m
 refine zC 14 rfl (bY (TG _ Y3) rfl ML rfl) ?_
 obtain⟨x8,X8,m⟩:=aC m
 refine zC 15 rfl (cJ X8 iE oE rfl rfl) (zC 16 rfl (cR (bG.ne oE X8) kN rfl rfl) (zE 17 rfl (cG (fo:=2) ({ x8 with Locs:=y2}:aN) 5 u X8 fH oE rfl rfl rfl rfl (cT.refl _ _) nE rfl rfl λK4=>⟨⟨λ_=>aI 2 K4 rfl,λe=>absurd e (by decide),λ_=>aI 0 K4 rfl,trivial⟩, ?_⟩)))
 refine zX (qk (f:=uT 71 _ _ _ _ _ _ _ _ _ _ _ _ _ _ _ _ _ _) K4 rfl (vs (v0 (v0 (gO m λm=> ?_)))))
 cases m
 exact vr λu=>dV.of1 (.inl rfl) (fP _ _ (.sc (.bool _)) rfl) (bD u [2,3,4,5,6] rfl).2 (bE.refl _ _) ⟨gS,ok_Snaps,gC,oC,gE,(bG.set oE),(bD u [2,3,4,5,6] rfl).1,rfl,rfl⟩
 refine v0 (vs (v0 (vs (pJ (λu=>iS.fzO (n:=184) (f:=_) 5 2 ([nZ p0.Seq,aZ gS,aZ gC,.sl none 3 (List.map cL p0.Exps),aZ gV]) u rfl (.cons (Fz.refl _ _ _) (.cons (Fz.refl _ _ _) (.cons (Fz.refl _ _ _) (.cons (Fz.aw 5 fH oE u rfl (.refl _)) (.cons (Fz.refl _ _ _) .nil)))))) (v0 (vz [(1000000,some p0K,.obj 30 ([nZ p0.Seq,aZ gS,aZ gC,.sl none 3 (List.map cL p0.Exps),aZ gV])),(1000000,some k2,.obj 38 (aX p1)),(1000000,some k5,.obj 81 (aQ p2))] mixed (λu=>⟨λ_=>aI 2 u rfl,λ_=>aI 1 u rfl,λ_=>aI 0 u rfl,trivial⟩) λu=>zC 0 rfl (eT (.sc (.slice _ _ _)) rfl) (zP 1 rfl rfl (zN 2 rfl rfl (zF 3 rfl eW rfl (zL 4 0 (.sl none 3 (List.map cL p0.Exps)) rfl i8 rfl rfl rfl (zI 5 rfl rfl ?_)))))))))))
 obtain⟨_,X9,m⟩:=aC m
 refine zC 6 rfl (o0 X9 iE rfl rfl rfl rfl) (zF 8 rfl kL rfl (zL 9 1 (nZ p1.Seq) rfl cE rfl rfl rfl (zF 10 rfl tF rfl (zL 11 1 (nZ p1.Of) rfl cE rfl rfl rfl (zL 12 2 (.agg (aQ p2)) rfl m9 rfl rfl rfl (zC 13 rfl (eI (List.map aQ ([p2]:List bK)) oO rfl rfl rfl rfl) (zC 14 rfl (fF (cL ({ Seq:=p1.Seq,Of:=p1.Of,Locs:=([p2]:List bK)}:aN)) VO rfl) (zC 15 rfl (eI (List.map cL ([({ Seq:=p1.Seq,Of:=p1.Of,Locs:=([p2]:List bK)}:aN)]:List aN)) oL rfl rfl rfl rfl) ?_))))))))
 obtain⟨z0,Z0,m⟩:=aC m
 refine zE 7 rfl (AT (c:=cL) Z0 oL rfl qE rfl fH rfl u rfl λag0 O0 K5=>⟨⟨λ_=>aI 3 K5 rfl,λ_=>aI 2 K5 rfl,λ_=>aI 1 K5 rfl,trivial⟩, ?_⟩)
 obtain⟨z1,Z1,m⟩:=aC m
 refine zE 16 rfl (fX (c:=cL) 0 Z1 oL rfl qE rfl fH rfl rfl O0 K5 rfl λag1 O1 K7=>⟨⟨λ_=>aI 3 K7 rfl,λ_=>aI 2 K7 rfl,λ_=>aI 1 K7 rfl,trivial⟩, ?_⟩)
 refine zC 17 rfl (hU (aw _ _ _) rfl) (zX (qk (f:=.c 10 _ (.c 88 _ (.c 79 _ (RO 87 _ _ _ _ _ _ _ _ (fq7 78 _ _ _ _ _ _ _ _))))) K7 rfl (vs (v0 (jD rfl (dM eW rfl rfl (vl 3 _ i8 rfl rfl rfl ?_)))))))
 obtain⟨_,X10,m⟩:=aC m
 refine bU (o0 X10 iE rfl rfl rfl rfl) ?_
 obtain⟨z2,Z2,m⟩:=aC m
 refine ve λu=>fX (c:=cL) 0 Z2 oL rfl qE rfl fH rfl rfl O1 u rfl λag2 O2 K8=>qk K8 rfl (jD rfl (dM eW rfl rfl (ve λu=>aJ 3 ([nZ p0.Seq,aZ gS,aZ gC,aZ ag2,aZ gV]) u rfl rfl (bZ rfl) (cC (bW _ _ _) rfl) II rfl rfl λK9=>qk K9 rfl (vs (fR m (σ:=Bool) (λs=> [(eX ag2 z2),(some k5,.obj 81 (aQ p2)),(some k2,.obj 38 (aX p1)),(hO p0K p0.Seq gS gC ag2 gV),(dN gS p0.Snaps),(cD gC p0.Chunks),(kO gV p0.Vols)]) (λs=>.c 0 (.ptr p0K 0) (.c 4 (.ptr k2 0) (.c 111 (.sc (.bool s)) .nil))) (λx m=> ?_) ?_)))))
 refine v0 (u7 (by kernel_rfl) (dM kL rfl rfl (vl 2 _ cE rfl rfl rfl (jD rfl (dM m6 rfl rfl (vl 3 _ cE rfl rfl rfl ?_))))))
 apply vi m <;> intro b2 m
 rw[b2]
 exact dM kL rfl rfl (vl 2 _ cE rfl rfl rfl (gW m))
 rw[b2]
 exact gW m
 rintro _ j2 m
 refine fR m (σ:=Int) (λs=> [(eX ag2 z2),(some k5,.obj 81 (aQ p2)),(some k2,.obj 38 (aX p1)),(hO p0K s gS gC ag2 gV),(dN gS p0.Snaps),(cD gC p0.Chunks),(kO gV p0.Vols)]) (λs=>.nil) (λx m=> ?_) ?_
 refine v0 ?_
 apply vi m <;> intro c7 m
 exact v0 (dM kL rfl rfl (vl 2 _ cE rfl rfl rfl (jD rfl (dM m6 rfl rfl (ve λu=>aJ 3 ([nZ (IntKind.wrap .i64 (p1.Seq+1)),aZ gS,aZ gC,aZ ag2,aZ gV]) u rfl rfl rfl rfl xW rfl rfl λK10=>qk K10 rfl (gq0 m))))))
 exact v0 (gq0 m)
 rintro _ j3 m
 exact eR m (gC,ag2) ⟨oC,O2⟩ (l4 [1,2,3,4,5,0,6] rfl rfl .nil)
 rintro⟨ag3,ag4⟩ ⟨j4,j5,j6⟩ ⟨O3,O4⟩ m
 refine vs (v0 (v0 ?_))
 cases m
 exact vr λu=>dV.of1 (.inl rfl) (fP _ _ (.sc (.bool _)) rfl) (bD u [2,3,4,5,6] rfl).2 (bE.refl _ _) ⟨gS,ok_Snaps,ag3,O3,ag4,O4,(bD u [2,3,4,5,6] rfl).1,rfl,rfl⟩
theorem YZ:aO Tryz.prog 156=true:=by kernel_rfl
open Go.Vm
def xK (m:Nat) (p1:aS) (q0:Bool) (q1:Int):Option (Lp (Bool×Int) (Lp (Int×fA) (Int×Int×fA))):=
 if (decide (q1 < (p1.Chunks.length:Int)))=true then (after (if q0=true then ((ix p1.Chunks q1).bind λx0=>if x0.Staged=true then ((ix p1.Chunks q1).bind λx1=>some (.brk ((x1.Locs.length:Int)==0))) else some (.brk false)) else some (.brk false):Option (Lp (Bool) (Lp (Bool×Int) (Lp (Int×fA) (Int×Int×fA))))) λj0=>some (.go (j0,IntKind.wrap .i64 (q1+1)))) else some (.brk (q0,q1))
def xL (m:Nat) (p1:aS) (q0:List aA) (q1:Int):Option (Lp ((List aA)×Int) (Lp (Int×fA) (Int×Int×fA))):=
 if (decide (q1 < (p1.Chunks.length:Int)))=true then ((ix p1.Chunks q1).bind λx0=>(D9 m q0 x0).bind λy0=>some (.go (y0,IntKind.wrap .i64 (q1+1)))) else some (.brk (q0,q1))
def BW (m:Nat) (p1:aS) (q0:Bool) (q1:Int):Option (Lp (Bool×Int) (Lp (Int×fA) (Lp (Int×fA) (Lp (Int×fA) (Int×Int×fA))))):=
 if (decide (q1 < (p1.Items.length:Int)))=true then (after (if q0=true then ((ix p1.Items q1).bind λx0=>if (decide (1≤x0.Kind))=true then ((ix p1.Items q1).bind λx1=>some (.brk (decide (x1.Kind≤3)))) else some (.brk false)) else some (.brk false):Option (Lp (Bool) (Lp (Bool×Int) (Lp (Int×fA) (Lp (Int×fA) (Lp (Int×fA) (Int×Int×fA))))))) λj0=>some (.go (j0,IntKind.wrap .i64 (q1+1)))) else some (.brk (q0,q1))
def BX (m:Nat) (p0:aB) (p1:aS) (x0:aP) (q0:Int) (q1:List aG) (q2:List aA) (q3:List aN) (q4:Int):Option (Lp (Int×(List aG)×(List aA)×(List aN)×Int) (Lp (Int×fA) (Lp (Int×fA) (Lp (Int×fA) (Int×Int×fA))))):=
 if (decide (q4 < (p1.Items.length:Int)))=true then ((ix p1.Items q4).bind λx1=>(ix p1.Items q4).bind λx2=>(ix p1.Items q4).bind λx3=>(MO m ({ Seq:=q0,Snaps:=q1,Chunks:=q2,Exps:=q3,Vols:=(p0.Vols.set p1.Vol.toNat ({ x0 with State:=2})).set p1.Vol.toNat ({ ({ x0 with State:=2}:aP) with Files:=IntKind.wrap .i64 (x0.Files+1)})}:aB) x1 ({ Vol:=p1.Vol,File:=({ ({ x0 with State:=2}:aP) with Files:=IntKind.wrap .i64 (x0.Files+1)}:aP).Files,Off:=x2.Off,Len:=x3.Len}:bK)).bind λy0=>if (!y0.1)=true then (some (.ret (.ret (.ret (.ret (8,y0.2.1,y0.2.2.1,y0.2.2.2.1,y0.2.2.2.2,(p0.Vols.set p1.Vol.toNat ({ x0 with State:=2})).set p1.Vol.toNat ({ ({ x0 with State:=2}:aP) with Files:=IntKind.wrap .i64 (x0.Files+1)}))))))) else some (.go (y0.2.1,y0.2.2.1,y0.2.2.2.1,y0.2.2.2.2,IntKind.wrap .i64 (q4+1)))) else some (.brk (q0,q1,q2,q3,q4))
def BY (m:Nat) (p0:aB) (p1:aS) (x0:aP) (r0:Int) (r1:List aN) (q0:List aG) (q1:List aA) (q2:Int):Option (Lp ((List aG)×(List aA)×Int) (Lp (Int×fA) (Lp (Int×fA) (Lp (Int×fA) (Int×Int×fA))))):=
 if (decide (q2 < (p1.Items.length:Int)))=true then ((ix p1.Items q2).bind λx1=>after (if (x1.Kind==3)=true then ((ix p1.Items q2).bind λx2=>(I7 m ({ Seq:=r0,Snaps:=q0,Chunks:=q1,Exps:=r1,Vols:=(p0.Vols.set p1.Vol.toNat ({ x0 with State:=2})).set p1.Vol.toNat ({ ({ x0 with State:=2}:aP) with Files:=IntKind.wrap .i64 (x0.Files+1)})}:aB) x2.Of).bind λy0=>some (.brk (y0.2.1,y0.2.2))) else some (.brk (q0,q1)):Option (Lp ((List aG)×(List aA)) (Lp ((List aG)×(List aA)×Int) (Lp (Int×fA) (Lp (Int×fA) (Lp (Int×fA) (Int×Int×fA))))))) λ⟨j0,j1⟩=>some (.go (j0,j1,IntKind.wrap .i64 (q2+1)))) else some (.brk (q0,q1,q2))
def vJ (m:Nat) (p0:aB) (p1:aS) (x0:aP) (r0:Int) (r1:List aN) (r2:List aG) (q0:List aA) (q1:Int):Option (Lp ((List aA)×Int) (Lp ((List aA)) (Lp (Int×fA) (Lp (Int×fA) (Lp (Int×fA) (Int×Int×fA)))))):=
 if (decide (q1 < (p1.Items.length:Int)))=true then ((ix p1.Items q1).bind λx1=>after (if (x1.Kind==1)=true then ((ix p1.Items q1).bind λx2=>(NP m ({ Seq:=r0,Snaps:=r2,Chunks:=q0,Exps:=r1,Vols:=(p0.Vols.set p1.Vol.toNat ({ x0 with State:=2})).set p1.Vol.toNat ({ ({ x0 with State:=2}:aP) with Files:=IntKind.wrap .i64 (x0.Files+1)})}:aB) x2.Id).bind λy0=>after (if (decide (0≤y0))=true then ((ix q0 y0).bind λx3=>(ix (q0.set y0.toNat ({ x3 with Staged:=false})) y0).bind λx4=>some (.brk ((q0.set y0.toNat ({ x3 with Staged:=false})).set y0.toNat ({ x4 with Data:=([]:List Int)})))) else some (.brk q0):Option (Lp ((List aA)) (Lp ((List aA)) (Lp ((List aA)×Int) (Lp ((List aA)) (Lp (Int×fA) (Lp (Int×fA) (Lp (Int×fA) (Int×Int×fA))))))))) λj0=>some (.brk j0)) else some (.brk q0):Option (Lp ((List aA)) (Lp ((List aA)×Int) (Lp ((List aA)) (Lp (Int×fA) (Lp (Int×fA) (Lp (Int×fA) (Int×Int×fA)))))))) λj1=>some (.go (j1,IntKind.wrap .i64 (q1+1)))) else some (.brk (q0,q1))
def vK (m:Nat) (p0:aB) (p1:aS) (q0:List aA) (q1:Int):Option (Lp ((List aA)×Int) (Lp (fA) (Lp (Int×fA) (Lp (Int×fA) (Lp (Int×fA) (Int×Int×fA)))))):=
 if (decide (q1 < (p0.Chunks.length:Int)))=true then ((ix p0.Chunks q1).bind λx0=>(GG m x0.Locs p1.Vol).bind λy0=>after (if ({ x0 with Locs:=y0}.Staged)=true then (some (.brk true)) else some (.brk (decide (0 < (({ x0 with Locs:=y0}.Locs).length:Int)))):Option (Lp (Bool) (Lp ((List aA)×Int) (Lp (fA) (Lp (Int×fA) (Lp (Int×fA) (Lp (Int×fA) (Int×Int×fA)))))))) λj0=>after (if j0=true then ((app q0 ([{ x0 with Locs:=y0}]:List aA)).bind λz0=>some (.brk z0)) else some (.brk q0):Option (Lp ((List aA)) (Lp ((List aA)×Int) (Lp (fA) (Lp (Int×fA) (Lp (Int×fA) (Lp (Int×fA) (Int×Int×fA)))))))) λj1=>some (.go (j1,IntKind.wrap .i64 (q1+1)))) else some (.brk (q0,q1))
def vL (m:Nat) (p1:aS) (q0:List aG) (q1:Int):Option (Lp ((List aG)×Int) (Lp (fA) (Lp (Int×fA) (Lp (Int×fA) (Lp (Int×fA) (Int×Int×fA)))))):=
 if (decide (q1 < (q0.length:Int)))=true then ((ix q0 q1).bind λx0=>(GG m x0.Locs p1.Vol).bind λy0=>(ix q0 q1).bind λx1=>some (.go (q0.set q1.toNat ({ x1 with Locs:=y0}),IntKind.wrap .i64 (q1+1)))) else some (.brk (q0,q1))
def vM (m:Nat) (p0:aB) (p1:aS) (q0:List aN) (q1:Int):Option (Lp ((List aN)×Int) (Lp (fA) (Lp (Int×fA) (Lp (Int×fA) (Lp (Int×fA) (Int×Int×fA)))))):=
 if (decide (q1 < (p0.Exps.length:Int)))=true then ((ix p0.Exps q1).bind λx0=>(GG m x0.Locs p1.Vol).bind λy0=>after (if (decide (0 < (({ x0 with Locs:=y0}.Locs).length:Int)))=true then ((app q0 ([{ x0 with Locs:=y0}]:List aN)).bind λz0=>some (.brk z0)) else some (.brk q0):Option (Lp ((List aN)) (Lp ((List aN)×Int) (Lp (fA) (Lp (Int×fA) (Lp (Int×fA) (Lp (Int×fA) (Int×Int×fA)))))))) λj0=>some (.go (j0,IntKind.wrap .i64 (q1+1)))) else some (.brk (q0,q1))
def UE (m:Nat) (p0:aB) (p1:aS):Option (Int×Int×fA):=
 after (if (p1.Kind==1)=true then (after (if (p1.Snap.Seq==p0.Seq)=true then (some (.brk ((p1.Snap.Locs.length:Int)==0))) else some (.brk false):Option (Lp (Bool) (Lp (Int×fA) (Int×Int×fA)))) λj0=>after (aW (λs=>xK m p1 s.1 s.2) m (j0,0)) λ⟨r0,r1⟩=>if (!r0)=true then (some (.ret (1,p0.Seq,p0.Snaps,p0.Chunks,p0.Exps,p0.Vols))) else (yH m ({ Seq:=p0.Seq,Snaps:=p0.Snaps,Chunks:=p0.Chunks,Exps:=p0.Exps,Vols:=p0.Vols}:aB) p1.Snap.Man.Name).bind λy0=>if (decide (0≤y0))=true then (some (.ret (9,p0.Seq,p0.Snaps,p0.Chunks,p0.Exps,p0.Vols))) else (app p0.Snaps ([p1.Snap]:List aG)).bind λz0=>after (aW (λs=>xL m p1 s.1 s.2) m (p0.Chunks,0)) λ⟨r2,r3⟩=>some (.brk (IntKind.wrap .i64 (p0.Seq+1),z0,r2,p0.Exps,p0.Vols))) else after (if (p1.Kind==2)=true then ((I7 m ({ Seq:=p0.Seq,Snaps:=p0.Snaps,Chunks:=p0.Chunks,Exps:=p0.Exps,Vols:=p0.Vols}:aB) p1.Seq).bind λy1=>if (!y1.1)=true then (some (.ret (.ret (8,p0.Seq,y1.2.1,y1.2.2,p0.Exps,p0.Vols)))) else some (.brk (p0.Seq,y1.2.1,y1.2.2,p0.Exps,p0.Vols))) else after (if (p1.Kind==3)=true then (after ((GH m ({ Seq:=p0.Seq,Snaps:=p0.Snaps,Chunks:=p0.Chunks,Exps:=p0.Exps,Vols:=p0.Vols}:aB) p1.Vol 1 2).bind λy2=>if y2=true then (if (decide (1≤(p1.Items.length:Int)))=true then (some (.brk (decide ((p1.Items.length:Int)≤64)))) else some (.brk false)) else some (.brk false):Option (Lp (Bool) (Lp (Int×fA) (Lp (Int×fA) (Lp (Int×fA) (Int×Int×fA)))))) λj1=>after (aW (λs=>BW m p1 s.1 s.2) m (j1,0)) λ⟨r4,r5⟩=>if (!r4)=true then (some (.ret (.ret (.ret (1,p0.Seq,p0.Snaps,p0.Chunks,p0.Exps,p0.Vols))))) else (ix p0.Vols p1.Vol).bind λx0=>after (aW (λs=>BX m p0 p1 x0 s.1 s.2.1 s.2.2.1 s.2.2.2.1 s.2.2.2.2) m (p0.Seq,p0.Snaps,p0.Chunks,p0.Exps,0)) λ⟨r6,r7,r8,r9,r10⟩=>after (aW (λs=>BY m p0 p1 x0 r6 r9 s.1 s.2.1 s.2.2) m (r7,r8,0)) λ⟨r11,r12,r13⟩=>after (if ((({ ({ x0 with State:=2}:aP) with Files:=IntKind.wrap .i64 (x0.Files+1)}:aP).Pool)==0)=true then (after (aW (λs=>vJ m p0 p1 x0 r6 r9 r11 s.1 s.2) m (r12,0)) λ⟨r14,r15⟩=>some (.brk r14)) else some (.brk r12):Option (Lp ((List aA)) (Lp (Int×fA) (Lp (Int×fA) (Lp (Int×fA) (Int×Int×fA)))))) λj2=>some (.brk (r6,r11,j2,r9,(p0.Vols.set p1.Vol.toNat ({ x0 with State:=2})).set p1.Vol.toNat ({ ({ x0 with State:=2}:aP) with Files:=IntKind.wrap .i64 (x0.Files+1)})))) else after (if (p1.Kind==4)=true then ((GH m ({ Seq:=p0.Seq,Snaps:=p0.Snaps,Chunks:=p0.Chunks,Exps:=p0.Exps,Vols:=p0.Vols}:aB) p1.Vol 2 2).bind λy3=>if (!y3)=true then (some (.ret (.ret (.ret (.ret (1,p0.Seq,p0.Snaps,p0.Chunks,p0.Exps,p0.Vols)))))) else (ix p0.Vols p1.Vol).bind λx1=>(ix (p0.Vols.set p1.Vol.toNat ({ x1 with State:=3})) p1.Vol).bind λx2=>after (aW (λs=>vK m p0 p1 s.1 s.2) m ([],0)) λ⟨r16,r17⟩=>after (aW (λs=>vL m p1 s.1 s.2) m (p0.Snaps,0)) λ⟨r18,r19⟩=>after (aW (λs=>vM m p0 p1 s.1 s.2) m ([],0)) λ⟨r20,r21⟩=>some (.brk (r18,r16,r20,(p0.Vols.set p1.Vol.toNat ({ x1 with State:=3})).set p1.Vol.toNat ({ x2 with Files:=0})))) else after (if (p1.Kind==5)=true then ((GH m ({ Seq:=p0.Seq,Snaps:=p0.Snaps,Chunks:=p0.Chunks,Exps:=p0.Exps,Vols:=p0.Vols}:aB) p1.Vol 3 3).bind λy4=>if (!y4)=true then (some (.ret (.ret (.ret (.ret (.ret (1,p0.Seq,p0.Snaps,p0.Chunks,p0.Exps,p0.Vols))))))) else (ix p0.Vols p1.Vol).bind λx3=>(ix p0.Vols p1.Vol).bind λx4=>(ix (p0.Vols.set p1.Vol.toNat ({ x4 with State:=1})) p1.Vol).bind λx5=>some (.brk ((p0.Vols.set p1.Vol.toNat ({ x4 with State:=1})).set p1.Vol.toNat ({ x5 with Epoch:=IntKind.wrap .i64 (x3.Epoch+1)})))) else some (.brk p0.Vols):Option (Lp ((List aP)) (Lp (fA) (Lp (Int×fA) (Lp (Int×fA) (Lp (Int×fA) (Int×Int×fA))))))) λj3=>some (.brk (p0.Snaps,p0.Chunks,p0.Exps,j3)):Option (Lp (fA) (Lp (Int×fA) (Lp (Int×fA) (Lp (Int×fA) (Int×Int×fA)))))) λ⟨j4,j5,j6,j7⟩=>some (.brk (p0.Seq,j4,j5,j6,j7)):Option (Lp (Int×fA) (Lp (Int×fA) (Lp (Int×fA) (Int×Int×fA))))) λ⟨j8,j9,j10,j11,j12⟩=>some (.brk (j8,j9,j10,j11,j12)):Option (Lp (Int×fA) (Lp (Int×fA) (Int×Int×fA)))) λ⟨j13,j14,j15,j16,j17⟩=>some (.brk (j13,j14,j15,j16,j17)):Option (Lp (Int×fA) (Int×Int×fA))) λ⟨j18,j19,j20,j21,j22⟩=>some (0,j18,j19,j20,j21,j22)
theorem W91 {w:Nat} {p0:aB} {p1:aS} {o:Int×Int×fA} (h:aE) {p0K:cB} {gS:cQ} (ok_Snaps:bG gS 4 p0.Snaps.length) {gC:cQ} (oC:bG gC 35 p0.Chunks.length) {gE:cQ} (oE:bG gE 3 p0.Exps.length) {gV:cQ} (oV:bG gV 4 p0.Vols.length) (K0:bT h (hC p0K p0 gS gC gE gV)) (m:UE w p0 p1=some o):
 aL Tryz.prog 91 [.ptr p0K 0,.agg (aD p1)] (hp h (hC p0K p0 gS gC gE gV)) (λr h'=>∃g_Snaps':cQ,bG g_Snaps' 4 (o.2.2.1:List aG).length∧∃g_Chunks':cQ,bG g_Chunks' 35 (o.2.2.2.1:List aA).length∧∃g_Exps':cQ,bG g_Exps' 3 (o.2.2.2.2.1:List aN).length∧∃g_Vols':cQ,bG g_Vols' 4 (o.2.2.2.2.2:List aP).length∧bT h (hL p0K o.2.1 g_Snaps' g_Chunks' g_Exps' g_Vols' o.2.2.1 o.2.2.2.1 o.2.2.2.2.1 o.2.2.2.2.2)∧r=nZ o.1∧h'=hp h (hL p0K o.2.1 g_Snaps' g_Chunks' g_Exps' g_Vols' o.2.2.1 o.2.2.2.1 o.2.2.2.2.1 o.2.2.2.2.2)):=by
 refine sN K0 443 [.tmp 4] Tryz.func91 rfl rfl rfl rfl ?_
 unfold UE at m
 refine vs (v0 (gZ rfl rfl λk2 K3=>vs (vs (v0 (dM BC rfl rfl (vl 0 _ cE rfl rfl rfl (v0 (vs (v0 (oU m (σ:=Int×fA) (τ:=cQ×cQ×cQ×cQ) (λg s=>((some k2,.obj 62 (aD p1))::(hL p0K s.1 g.1 g.2.1 g.2.2.1 g.2.2.2 s.2.1 s.2.2.1 s.2.2.2.1 s.2.2.2.2))) (λg s=>bG g.1 4 (s.2.1:List aG).length∧bG g.2.1 35 (s.2.2.1:List aA).length∧bG g.2.2.1 3 (s.2.2.2.1:List aN).length∧bG g.2.2.2 4 (s.2.2.2.2:List aP).length) (λg s=>.nil) (λx m=> ?_) ?_))))))))))
 refine v0 ?_
 apply vi m <;> intro c0 m
 refine vs (fR m (σ:=Bool) (λs=>((some k2,.obj 62 (aD p1))::(hC p0K p0 gS gC gE gV))) (λs=>.c 0 (.ptr p0K 0) (.c 3 (.ptr k2 0) (.c 5 (.sc (.bool s)) .nil))) (λx m=> ?_) ?_)
 refine v0 (u7 (by kernel_rfl) (dM kM rfl rfl (dM tI rfl rfl (vl 0 _ cE rfl rfl rfl (jD rfl (dM m6 rfl rfl (vl 1 _ cE rfl rfl rfl ?_)))))))
 apply vi m <;> intro b0 m
 rw[b0]
 exact dM kM rfl rfl (dM jL rfl rfl (vl 0 _ fJ rfl rfl rfl (dL jJ rfl (gW m))))
 rw[b0]
 exact gW m
 rintro _ j0 m
 refine vs (vs (v0 (jT m (σ:=Bool×Int) (λs=>((some k2,.obj 62 (aD p1))::(hC p0K p0 gS gC gE gV))) (λs=>.c 0 (.ptr p0K 0) (.c 3 (.ptr k2 0) (.c 5 (.sc (.bool s.1)) (.c 6 (nZ s.2) .nil)))) (lx (.k4 .nil)) ?_ ?_)))
 rintro _ ⟨q0,q1⟩ x m
 replace m:xK w p1 q0 q1=some x:=m
 unfold xK at m
 refine vs (vs (v0 (dM mJ rfl rfl (vl 0 _ eU rfl rfl rfl (dL jE rfl (v0 ?_))))))
 apply vi m <;> intro c1 m
 refine v0 (vs (v0 (fR m (σ:=Bool) (λs=>((some k2,.obj 62 (aD p1))::(hC p0K p0 gS gC gE gV))) (λs=>.c 0 (.ptr p0K 0) (.c 3 (.ptr k2 0) (.c 5 (.sc (.bool s)) (.c 6 (nZ q1) .nil)))) (λx m=> ?_) ?_)))
 refine v0 ?_
 apply vi m <;> intro b1 m
 rw[b1]
 refine dM mJ rfl rfl (vl 0 _ eU rfl rfl rfl (vx m fI rfl rfl λx0 _ m=>bU (oK nV rfl rfl) (va (.sc (.bool x0.Staged)) DH rfl rfl ?_)))
 apply vi m <;> intro b2 m
 rw[b2]
 exact dM mJ rfl rfl (vl 0 _ eU rfl rfl rfl (vx m fI rfl rfl λx1 _ m=>bU (oK iO rfl rfl) (va (.sl none 4 (List.map aQ x1.Locs)) fJ rfl rfl (dL jJ rfl (hD m)))))
 rw[b2]
 exact hD m
 rw[b1]
 exact hD m
 rintro _ j1 m
 exact v0 (hD m)
 exact v0 (u0 m)
 rintro _ ⟨r0,r1⟩ m
 refine vs (vs (v0 (v0 ?_)))
 apply vi m <;> intro c2 m
 refine vs (v0 (v0 (gO m λm=> ?_)))
 cases m
 exact vr λu=>dV.of1 (.inl rfl) (fP _ _ (.sc (.int _ _)) rfl) (bD u [1,2,3,4,5] rfl).2 (bE.refl _ _) ⟨gS,ok_Snaps,gC,oC,gE,oE,gV,oV,(bD u [1,2,3,4,5] rfl).1,rfl,rfl⟩
 refine v0 (vs (vs (v0 (u7 (by kernel_rfl) (jD rfl (vl 1 (.agg ([nZ p0.Seq,aZ gS,aZ gC,aZ gE,aZ gV])) eV rfl rfl rfl (dM kM rfl rfl (dM nW rfl rfl (dM KG rfl rfl (vl 0 _ xX rfl rfl rfl ?_))))))))))
 obtain⟨_,Y0,m⟩:=aC m
 refine vn (λu=>bY (fC (.cons (Br.agg (.cons (Br.refl _ _) (.cons (Br.aw 2 eH ok_Snaps u rfl) (.cons (Br.aw 3 cK oC u rfl) (.cons (Br.aw 4 fH oE u rfl) (.cons (Br.aw 5 dY oV u rfl) .nil)))))) (.cons (Br.refl _ _) .nil)) rfl (SL _ Y0)) rfl LA rfl) (v0 ?_)
 apply vi m <;> intro c3 m
 refine vs (v0 (v0 (gO m λm=> ?_)))
 cases m
 exact vr λu=>dV.of1 (.inl rfl) (fP _ _ (.sc (.int _ _)) rfl) (bD u [1,2,3,4,5] rfl).2 (bE.refl _ _) ⟨gS,ok_Snaps,gC,oC,gE,oE,gV,oV,(bD u [1,2,3,4,5] rfl).1,rfl,rfl⟩
 refine v0 (vs (v0 (jD rfl (dM m6 rfl rfl (vl 1 _ cE rfl rfl rfl (jD rfl (dM m6 rfl rfl (ve λu=>aJ 1 ([nZ (IntKind.wrap .i64 (p0.Seq+1)),aZ gS,aZ gC,aZ gE,aZ gV]) u rfl rfl rfl rfl xW rfl rfl λK1=>qk K1 rfl (vs (v0 (vz [(11,some p0K,.obj 30 ([nZ (IntKind.wrap .i64 (p0.Seq+1)),aZ gS,aZ gC,aZ gE,aZ gV])),(1000000,some k2,.obj 62 (aD p1))] mixed (λu=>⟨λ_=>aI 1 u rfl,λ_=>aI 0 u rfl,trivial⟩) λu=>zP 0 rfl rfl (zP 1 rfl rfl (zN 2 rfl rfl (zF 3 rfl dU rfl (zL 4 0 (aZ gS) rfl fM rfl rfl rfl (zF 5 rfl kM rfl (zL 6 1 (.agg (bR p1.Snap)) rfl tH rfl rfl rfl (zC 7 rfl (eI (List.map bR ([p1.Snap]:List aG)) uU rfl rfl rfl rfl) ?_))))))))))))))))))
 obtain⟨z0,Z0,m⟩:=aC m
 refine zE 8 rfl (fX (c:=bR) 2 Z0 uU rfl tJ rfl eH rfl rfl ok_Snaps u rfl λag0 O0 K2=>⟨⟨λ_=>aI 1 K2 rfl,λ_=>aI 0 K2 rfl,trivial⟩, ?_⟩)
 refine zN 9 rfl rfl (zF 10 rfl dU rfl (zE 11 rfl (aJ 1 ([nZ (IntKind.wrap .i64 (p0.Seq+1)),aZ ag0,aZ gC,aZ gE,aZ gV]) K2 rfl rfl (bZ rfl) (cC (bW _ _ _) rfl) FH rfl rfl λK4=>⟨⟨λe=>absurd e (by decide),λ_=>aI 0 K4 rfl,trivial⟩, ?_⟩)))
 refine zX (qk (f:=RP 95 _ _ _ _ _ _ _ _ _ _ _ _) K4 rfl (vs (v0 (m5 m (σ:=(List aA)×Int) (τ:=cQ) (λg s=>((some k2,.obj 62 (aD p1))::(hL p0K (IntKind.wrap .i64 (p0.Seq+1)) ag0 g gE gV z0 s.1 p0.Exps p0.Vols))) (λg s=>bG g 35 (s.1:List aA).length) (λg s=>.c 0 (.ptr p0K 0) (.c 3 (.ptr k2 0) (.c 7 (nZ s.2) .nil))) gC oC (lx (.k3 .nil)) ?_ ?_))))
 rintro ag1 ⟨q2,q3⟩ x O1 m
 replace m:xL w p1 q2 q3=some x:=m
 unfold xL at m
 refine vs (vs (v0 (dM mJ rfl rfl (vl 0 _ eU rfl rfl rfl (dL jE rfl (v0 ?_))))))
 apply vi m <;> intro c4 m
 refine v0 (vs (v0 (v0 (vz [(13,some p0K,.obj 30 ([nZ (IntKind.wrap .i64 (p0.Seq+1)),aZ ag0,aZ ag1,aZ gE,aZ gV])),(1000000,some k2,.obj 62 (aD p1))] mixed (λu=>⟨λ_=>aI 1 u rfl,λ_=>aI 0 u rfl,trivial⟩) λu=>zP 0 rfl rfl (zP 1 rfl rfl (zN 2 rfl rfl (zF 3 rfl dX rfl (zL 4 0 (aZ ag1) rfl eU rfl rfl rfl (zF 5 rfl mJ rfl (zL 6 1 (.sl none 35 (List.map aH p1.Chunks)) rfl eU rfl rfl rfl (zI 7 rfl rfl ?_)))))))))))
 obtain⟨x2,X0,m⟩:=aC m
 refine zC 8 rfl (oJ X0 fI rfl rfl) (zC 9 rfl (oY (.agg (aH x2)) mH rfl rfl) ?_)
 obtain⟨_,Y1,m⟩:=aC m
 refine zE 10 rfl (wK (s:=107) (.sl none 35 (List.map aH q2)) (aR (.cons_cons _ (.cons_cons _ (.cons_cons _ (.cons _ (.refl _))))) u).1 (Fz.aw 3 cK O1 u rfl (.refl _)) (cI (YV _ Y1) rfl YW rfl ?_))
 rintro x h' ⟨ag2,O2,K5,rfl,rfl⟩
 rw[iL]
 refine⟨⟨λ_=>aI 2 (bT.co ((aR (.cons_cons _ (.cons_cons _ (.cons_cons _ (.cons _ (.refl _))))) u).2) K5) rfl,λ_=>aI 1 (bT.co ((aR (.cons_cons _ (.cons_cons _ (.cons_cons _ (.cons _ (.refl _))))) u).2) K5) rfl,trivial⟩, ?_⟩
 refine zN 11 rfl rfl (zF 12 rfl dX rfl (zE 13 rfl (aJ 2 ([nZ (IntKind.wrap .i64 (p0.Seq+1)),aZ ag0,aZ ag2,aZ gE,aZ gV]) (bT.co ((aR (.cons_cons _ (.cons_cons _ (.cons_cons _ (.cons _ (.refl _))))) u).2) K5) rfl rfl (bZ rfl) (cC (bW _ _ _) rfl) yA rfl rfl λK6=>⟨⟨λe=>absurd e (by decide),λ_=>aI 1 K6 rfl,trivial⟩, ?_⟩)))
 exact zX (qk (f:=RQ 115 _ _ _ _ _ _ _ _ _ _ _ _ _ _) K6 rfl (v0 (eR m ag2 O2 (l4 [1,2,3,0,4,5] rfl rfl (.k3 .nil)))))
 exact v0 (kT m ag1 O1 (lx (.k3 .nil)))
 rintro ag3 ⟨r2,r3⟩ t0 m
 exact eR m (ag0,ag3,gE,gV) ⟨O0,t0,oE,oV⟩ (lx .nil)
 refine vs (v0 (oU m (σ:=Int×fA) (τ:=cQ×cQ×cQ×cQ) (λg s=>((some k2,.obj 62 (aD p1))::(hL p0K s.1 g.1 g.2.1 g.2.2.1 g.2.2.2 s.2.1 s.2.2.1 s.2.2.2.1 s.2.2.2.2))) (λg s=>bG g.1 4 (s.2.1:List aG).length∧bG g.2.1 35 (s.2.2.1:List aA).length∧bG g.2.2.1 3 (s.2.2.2.1:List aN).length∧bG g.2.2.2 4 (s.2.2.2.2:List aP).length) (λg s=>.nil) (λx m=> ?_) ?_))
 refine v0 ?_
 apply vi m <;> intro c5 m
 refine vs (v0 (dM R5 rfl rfl (vl 0 _ cE rfl rfl rfl ?_)))
 obtain⟨y0,Y2,m⟩:=aC m
 refine ve λu=>cY ((a9 u [1,2,3,4,5,0] rfl rfl).1.trans (cS h (hC p0K p0 gS gC gE gV) [(some k2,.obj 62 (aD p1))]).symm) (cI (YY (hp h [(some k2,.obj 62 (aD p1))]) ok_Snaps oC oE oV (cH (hC p0K p0 gS gC gE gV) [(some k2,.obj 62 (aD p1))] (a9 u [1,2,3,4,5,0] rfl rfl).2).2 Y2) rfl QZ rfl ?_)
 rintro x h' ⟨ag4,O3,ag5,O4,K7,rfl,rfl⟩
 have K8:=a9 (L':=((some k2,.obj 62 (aD p1))::(hL p0K p0.Seq ag4 ag5 gE gV y0.2.1 y0.2.2 p0.Exps p0.Vols))) (dF (cH (hC p0K p0 gS gC gE gV) [(some k2,.obj 62 (aD p1))] (a9 u [1,2,3,4,5,0] rfl rfl).2).1 K7) [5,0,1,2,3,4] rfl rfl
 refine qk K8.2 ((cS h (hL p0K p0.Seq ag4 ag5 gE gV y0.2.1 y0.2.2 p0.Exps p0.Vols) [(some k2,.obj 62 (aD p1))]).trans K8.1) (v0 ?_)
 apply vi m <;> intro c6 m
 refine vs (v0 (v0 (gO m λm=>gO m λm=> ?_)))
 cases m
 exact vr λu=>dV.of1 (.inl rfl) (fP _ _ (.sc (.int _ _)) rfl) (bD u [1,2,3,4,5] rfl).2 (bE.refl _ _) ⟨ag4,O3,ag5,O4,gE,oE,gV,oV,(bD u [1,2,3,4,5] rfl).1,rfl,rfl⟩
 exact v0 (eR m (ag4,ag5,gE,gV) ⟨O3,O4,oE,oV⟩ (lx .nil))
 refine vs (v0 (oU m (σ:=Int×fA) (τ:=cQ×cQ×cQ×cQ) (λg s=>((some k2,.obj 62 (aD p1))::(hL p0K s.1 g.1 g.2.1 g.2.2.1 g.2.2.2 s.2.1 s.2.2.1 s.2.2.2.1 s.2.2.2.2))) (λg s=>bG g.1 4 (s.2.1:List aG).length∧bG g.2.1 35 (s.2.2.1:List aA).length∧bG g.2.2.1 3 (s.2.2.2.1:List aN).length∧bG g.2.2.2 4 (s.2.2.2.2:List aP).length) (λg s=>.nil) (λx m=> ?_) ?_))
 refine v0 ?_
 apply vi m <;> intro c7 m
 refine vs (fR m (σ:=Bool) (λs=>((some k2,.obj 62 (aD p1))::(hC p0K p0 gS gC gE gV))) (λs=>.c 0 (.ptr p0K 0) (.c 3 (.ptr k2 0) (.c 8 (.sc (.bool s)) .nil))) (λx m=> ?_) ?_)
 refine v0 (dM fD rfl rfl (vl 0 _ cE rfl rfl rfl ?_))
 obtain⟨_,Y3,m⟩:=aC m
 refine ve λu=>cY ((a9 u [1,2,3,4,5,0] rfl rfl).1.trans (cS h (hC p0K p0 gS gC gE gV) [(some k2,.obj 62 (aD p1))]).symm) (cI (TJ (hp h [(some k2,.obj 62 (aD p1))]) ok_Snaps oC oE oV (cH (hC p0K p0 gS gC gE gV) [(some k2,.obj 62 (aD p1))] (a9 u [1,2,3,4,5,0] rfl rfl).2).2 Y3) rfl MN rfl ?_)
 rintro x h' ⟨K9,rfl,rfl⟩
 have K10:=a9 (L':=((some k2,.obj 62 (aD p1))::(hC p0K p0 gS gC gE gV))) (dF (cH (hC p0K p0 gS gC gE gV) [(some k2,.obj 62 (aD p1))] (a9 u [1,2,3,4,5,0] rfl rfl).2).1 K9) [5,0,1,2,3,4] rfl rfl
 refine qk K10.2 ((cS h (hC p0K p0 gS gC gE gV) [(some k2,.obj 62 (aD p1))]).trans K10.1) ?_
 apply vi m <;> intro b3 m
 rw[b3]
 refine dM gJ rfl rfl (vl 0 _ kK rfl rfl rfl (dL oN rfl ?_))
 apply vi m <;> intro b4 m
 rw[b4]
 exact dM gJ rfl rfl (vl 0 _ kK rfl rfl rfl (dL oN rfl (gW m)))
 rw[b4]
 exact gW m
 rw[b3]
 exact gW m
 rintro _ j2 m
 refine vs (vs (v0 (jT m (σ:=Bool×Int) (λs=>((some k2,.obj 62 (aD p1))::(hC p0K p0 gS gC gE gV))) (λs=>.c 0 (.ptr p0K 0) (.c 3 (.ptr k2 0) (.c 8 (.sc (.bool s.1)) (.c 9 (nZ s.2) .nil)))) (lx (.k4 .nil)) ?_ ?_)))
 rintro _ ⟨q4,q5⟩ x m
 replace m:BW w p1 q4 q5=some x:=m
 unfold BW at m
 refine vs (vs (v0 (dM gJ rfl rfl (vl 0 _ kK rfl rfl rfl (dL oN rfl (v0 ?_))))))
 apply vi m <;> intro c8 m
 refine v0 (vs (v0 (fR m (σ:=Bool) (λs=>((some k2,.obj 62 (aD p1))::(hC p0K p0 gS gC gE gV))) (λs=>.c 0 (.ptr p0K 0) (.c 3 (.ptr k2 0) (.c 8 (.sc (.bool s)) (.c 9 (nZ q5) .nil)))) (λx m=> ?_) ?_)))
 refine v0 ?_
 apply vi m <;> intro b5 m
 rw[b5]
 refine dM gJ rfl rfl (vl 0 _ kK rfl rfl rfl (vx m uV rfl rfl λx3 _ m=>bU (oK lJ rfl rfl) (va (nZ x3.Kind) cE rfl rfl ?_)))
 apply vi m <;> intro b6 m
 rw[b6]
 exact dM gJ rfl rfl (vl 0 _ kK rfl rfl rfl (vx m uV rfl rfl λx4 _ m=>bU (oK lJ rfl rfl) (va (nZ x4.Kind) cE rfl rfl (hD m))))
 rw[b6]
 exact hD m
 rw[b5]
 exact hD m
 rintro _ j3 m
 exact v0 (hD m)
 exact v0 (u0 m)
 rintro _ ⟨r4,r5⟩ m
 refine vs (vs (v0 (v0 ?_)))
 apply vi m <;> intro c9 m
 refine vs (v0 (v0 (gO m λm=>gO m λm=>gO m λm=> ?_)))
 cases m
 exact vr λu=>dV.of1 (.inl rfl) (fP _ _ (.sc (.int _ _)) rfl) (bD u [1,2,3,4,5] rfl).2 (bE.refl _ _) ⟨gS,ok_Snaps,gC,oC,gE,oE,gV,oV,(bD u [1,2,3,4,5] rfl).1,rfl,rfl⟩
 refine v0 (vs (v0 (u7 (by kernel_rfl) (jD rfl (dM fN rfl rfl (vl 1 (aZ gV) gH rfl rfl rfl (dM fD rfl rfl (vl 0 _ cE rfl rfl rfl ?_))))))))
 obtain⟨x5,X1,m⟩:=aC m
 refine bU (cJ X1 kZ oV rfl rfl) (vs (v0 (bU (iM (bG.ne oV X1) rfl) (bU (cR (bG.ne oV X1) o7 rfl rfl) (vn (λu=>dW (fo:=3) (nZ x5.Files) X1 dY oV cE rfl (aI 5 u rfl) (λ_=>rfl)) (bU (iM (bG.ne oV X1) rfl) (bU (cR (bG.ne oV X1) mI rfl rfl) (ve λu=>cG (fo:=2) ({ x5 with State:=2}:aP) 5 u X1 dY oV rfl rfl rfl rfl (cT.refl _ _) xW rfl rfl λK11=>qk K11 rfl (bU (iM (bG.ne (bG.set oV) (dD (x':=({ x5 with State:=2}:aP)) X1)) rfl) (bU (cR (bG.ne (bG.set oV) (dD (x':=({ x5 with State:=2}:aP)) X1)) o7 rfl rfl) (ve λu=>cG (fo:=3) ({ ({ x5 with State:=2}:aP) with Files:=IntKind.wrap .i64 (x5.Files+1)}:aP) 5 u (dD (x':=({ x5 with State:=2}:aP)) X1) dY (bG.set oV) rfl rfl rfl rfl (cT.refl _ _) xW rfl rfl λK12=>qk K12 rfl (vs (vs (v0 (m5 m (σ:=Int×(List aG)×(List aA)×(List aN)×Int) (τ:=cQ×cQ×cQ) (λg s=>((some k2,.obj 62 (aD p1))::(hL p0K s.1 g.1 g.2.1 g.2.2 gV s.2.1 s.2.2.1 s.2.2.2.1 ((p0.Vols.set p1.Vol.toNat ({ x5 with State:=2})).set p1.Vol.toNat ({ ({ x5 with State:=2}:aP) with Files:=IntKind.wrap .i64 (x5.Files+1)}))))) (λg s=>bG g.1 4 (s.2.1:List aG).length∧bG g.2.1 35 (s.2.2.1:List aA).length∧bG g.2.2 3 (s.2.2.2.1:List aN).length) (λg s=>.c 0 (.ptr p0K 0) (.c 3 (.ptr k2 0) (.c 10 (uR gV.t (p1.Vol.toNat*4+0)) (.c 11 (nZ s.2.2.2.2) .nil)))) (gS,gC,gE) (⟨ok_Snaps,oC,oE⟩) (lx (.k4 .nil)) ?_ ?_)))))))))))))))
 rintro⟨ag6,ag7,ag8⟩ ⟨q6,q7,q8,q9,q10⟩ x ⟨O5,O6,O7⟩ m
 replace m:BX w p0 p1 x5 q6 q7 q8 q9 q10=some x:=m
 unfold BX at m
 refine vs (vs (v0 (dM gJ rfl rfl (vl 0 _ kK rfl rfl rfl (dL oN rfl (v0 ?_))))))
 apply vi m <;> intro c10 m
 refine v0 (vs (v0 (vs (v0 (vz [(1000000,some k2,.obj 62 (aD p1)),(1000000,gV.t,.obj 49 (fl cZ ((p0.Vols.set p1.Vol.toNat ({ x5 with State:=2})).set p1.Vol.toNat ({ ({ x5 with State:=2}:aP) with Files:=IntKind.wrap .i64 (x5.Files+1)}):List aP) gV.sp))] mixed (λu=>⟨λ_=>aI 0 u rfl,λ_=>aI 5 u rfl,trivial⟩) λu=>zP 0 rfl rfl (zF 1 rfl gJ rfl (zL 2 0 (.sl none 37 (List.map aX p1.Items)) rfl kK rfl rfl rfl (zI 3 rfl rfl ?_))))))))
 obtain⟨x6,X2,m⟩:=aC m
 refine zC 4 rfl (oJ X2 uV rfl rfl) (zC 5 rfl (oY (.agg (aX x6)) FK rfl rfl) (zF 6 rfl fD rfl (zL 7 0 (nZ p1.Vol) rfl cE rfl rfl rfl (zC 8 rfl (eT (uR _ _) rfl) (zC 9 rfl (iM (bG.ne (bG.set (bG.set oV)) (dD (x':=({ ({ x5 with State:=2}:aP) with Files:=IntKind.wrap .i64 (x5.Files+1)}:aP)) (dD (x':=({ x5 with State:=2}:aP)) X1))) rfl) (zC 10 rfl (cR (bG.ne (bG.set (bG.set oV)) (dD (x':=({ ({ x5 with State:=2}:aP) with Files:=IntKind.wrap .i64 (x5.Files+1)}:aP)) (dD (x':=({ x5 with State:=2}:aP)) X1))) o7 rfl rfl) (uS 11 rfl (λ_ _ hi hB=>dW (fo:=3) (nZ (({ ({ x5 with State:=2}:aP) with Files:=IntKind.wrap .i64 (x5.Files+1)}:aP).Files)) (dD (x':=({ ({ x5 with State:=2}:aP) with Files:=IntKind.wrap .i64 (x5.Files+1)}:aP)) (dD (x':=({ x5 with State:=2}:aP)) X1)) dY (bG.set (bG.set oV)) cE rfl (fW.get 1 hi rfl (hB 1000000 (by kernel_rfl))) (λ_=>rfl)) (zF 12 rfl gJ rfl (zL 13 0 (.sl none 37 (List.map aX p1.Items)) rfl kK rfl rfl rfl (zI 14 rfl rfl ?_))))))))))
 obtain⟨x7,X3,m⟩:=aC m
 refine zC 15 rfl (oJ X3 uV rfl rfl) (zC 16 rfl (oK FL rfl rfl) (zC 17 rfl (oY (nZ x7.Off) cE rfl rfl) (zF 18 rfl gJ rfl (zL 19 0 (.sl none 37 (List.map aX p1.Items)) rfl kK rfl rfl rfl (zI 20 rfl rfl ?_)))))
 obtain⟨x8,X4,m⟩:=aC m
 refine zC 21 rfl (oJ X4 uV rfl rfl) (zC 22 rfl (oK FM rfl rfl) (zC 23 rfl (oY (nZ x8.Len) cE rfl rfl) (zC 24 rfl (fF (aQ ({ Vol:=p1.Vol,File:=({ ({ x5 with State:=2}:aP) with Files:=IntKind.wrap .i64 (x5.Files+1)}:aP).Files,Off:=x7.Off,Len:=x8.Len}:bK)) VM rfl) ?_)))
 obtain⟨y1,Y4,m⟩:=aC m
 refine zE 25 rfl (cY ((a9 u [1,2,3,4,5,0] rfl rfl).1.trans (cS h (hL p0K q6 ag6 ag7 ag8 gV q7 q8 q9 ((p0.Vols.set p1.Vol.toNat ({ x5 with State:=2})).set p1.Vol.toNat ({ ({ x5 with State:=2}:aP) with Files:=IntKind.wrap .i64 (x5.Files+1)}))) [(some k2,.obj 62 (aD p1))]).symm) (cI (aD8 (hp h [(some k2,.obj 62 (aD p1))]) O5 O6 O7 (bG.set (bG.set oV)) (cH (hL p0K q6 ag6 ag7 ag8 gV q7 q8 q9 ((p0.Vols.set p1.Vol.toNat ({ x5 with State:=2})).set p1.Vol.toNat ({ ({ x5 with State:=2}:aP) with Files:=IntKind.wrap .i64 (x5.Files+1)}))) [(some k2,.obj 62 (aD p1))] (a9 u [1,2,3,4,5,0] rfl rfl).2).2 Y4) rfl YZ rfl ?_))
 rintro x h' ⟨ag9,O8,ag10,O9,ag11,O10,K13,rfl,rfl⟩
 have K14:=a9 (L':=((some k2,.obj 62 (aD p1))::(hL p0K y1.2.1 ag9 ag10 ag11 gV y1.2.2.1 y1.2.2.2.1 y1.2.2.2.2 ((p0.Vols.set p1.Vol.toNat ({ x5 with State:=2})).set p1.Vol.toNat ({ ({ x5 with State:=2}:aP) with Files:=IntKind.wrap .i64 (x5.Files+1)}))))) (dF (cH (hL p0K q6 ag6 ag7 ag8 gV q7 q8 q9 ((p0.Vols.set p1.Vol.toNat ({ x5 with State:=2})).set p1.Vol.toNat ({ ({ x5 with State:=2}:aP) with Files:=IntKind.wrap .i64 (x5.Files+1)}))) [(some k2,.obj 62 (aD p1))] (a9 u [1,2,3,4,5,0] rfl rfl).2).1 K13) [5,0,1,2,3,4] rfl rfl
 refine kF ((cS h (hL p0K y1.2.1 ag9 ag10 ag11 gV y1.2.2.1 y1.2.2.2.1 y1.2.2.2.2 ((p0.Vols.set p1.Vol.toNat ({ x5 with State:=2})).set p1.Vol.toNat ({ ({ x5 with State:=2}:aP) with Files:=IntKind.wrap .i64 (x5.Files+1)}))) [(some k2,.obj 62 (aD p1))]).trans K14.1) (⟨⟨λ_=>aI 0 K14.2 rfl,λ_=>aI 5 K14.2 rfl,trivial⟩, ?_⟩)
 refine zC 26 rfl (UU rfl) (zX (qk (f:=aA4 220 _ _ _ _ _ _ _ _ _ _ _ _ _ _ _ _ _ _ _ _ _ _ _ _ _ _ _ _) K14.2 rfl (v0 ?_)))
 apply vi m <;> intro c11 m
 refine vs (v0 (v0 (gO m λm=>gO m λm=>gO m λm=>gO m λm=> ?_)))
 cases m
 exact vr λu=>dV.of1 (.inl rfl) (fP _ _ (.sc (.int _ _)) rfl) (bD u [1,2,3,4,5] rfl).2 (bE.refl _ _) ⟨ag9,O8,ag10,O9,ag11,O10,gV,(bG.set (bG.set oV)),(bD u [1,2,3,4,5] rfl).1,rfl,rfl⟩
 exact v0 (v0 (eR m (ag9,ag10,ag11) ⟨O8,O9,O10⟩ (lx (.k4 .nil))))
 exact v0 (kT m (ag6,ag7,ag8) ⟨O5,O6,O7⟩ (lx (.k4 .nil)))
 rintro⟨ag12,ag13,ag14⟩ ⟨r6,r7,r8,r9,r10⟩ ⟨t1,t2,t3⟩ m
 refine vs (vs (v0 (m5 m (σ:=(List aG)×(List aA)×Int) (τ:=cQ×cQ) (λg s=>((some k2,.obj 62 (aD p1))::(hL p0K r6 g.1 g.2 ag14 gV s.1 s.2.1 r9 ((p0.Vols.set p1.Vol.toNat ({ x5 with State:=2})).set p1.Vol.toNat ({ ({ x5 with State:=2}:aP) with Files:=IntKind.wrap .i64 (x5.Files+1)}))))) (λg s=>bG g.1 4 (s.1:List aG).length∧bG g.2 35 (s.2.1:List aA).length) (λg s=>.c 0 (.ptr p0K 0) (.c 3 (.ptr k2 0) (.c 10 (uR gV.t (p1.Vol.toNat*4+0)) (.c 12 (nZ s.2.2) .nil)))) (ag12,ag13) (⟨t1,t2⟩) (lx (.k4 .nil)) ?_ ?_)))
 rintro⟨ag15,ag16⟩ ⟨q11,q12,q13⟩ x ⟨O11,O12⟩ m
 replace m:BY w p0 p1 x5 r6 r9 q11 q12 q13=some x:=m
 unfold BY at m
 refine vs (vs (v0 (dM gJ rfl rfl (vl 0 _ kK rfl rfl rfl (dL oN rfl (v0 ?_))))))
 apply vi m <;> intro c12 m
 refine v0 (vs (v0 (vs (v0 (dM gJ rfl rfl (vl 0 _ kK rfl rfl rfl (vx m uV rfl rfl λx9 _ m=>bU (oK lJ rfl rfl) (va (nZ x9.Kind) cE rfl rfl (oU m (σ:=(List aG)×(List aA)) (τ:=cQ×cQ) (λg s=>((some k2,.obj 62 (aD p1))::(hL p0K r6 g.1 g.2 ag14 gV s.1 s.2 r9 ((p0.Vols.set p1.Vol.toNat ({ x5 with State:=2})).set p1.Vol.toNat ({ ({ x5 with State:=2}:aP) with Files:=IntKind.wrap .i64 (x5.Files+1)}))))) (λg s=>bG g.1 4 (s.1:List aG).length∧bG g.2 35 (s.2:List aA).length) (λg s=>.c 0 (.ptr p0K 0) (.c 3 (.ptr k2 0) (.c 10 (uR gV.t (p1.Vol.toNat*4+0)) (.c 12 (nZ q13) .nil)))) (λx m=> ?_) ?_)))))))))
 refine v0 ?_
 apply vi m <;> intro c13 m
 refine v0 (dM gJ rfl rfl (vl 0 _ kK rfl rfl rfl (vx m uV rfl rfl λx10 _ m=>bU (oK tF rfl rfl) (va (nZ x10.Of) cE rfl rfl ?_))))
 obtain⟨y2,Y5,m⟩:=aC m
 refine ve λu=>cY ((a9 u [1,2,3,4,5,0] rfl rfl).1.trans (cS h (hL p0K r6 ag15 ag16 ag14 gV q11 q12 r9 ((p0.Vols.set p1.Vol.toNat ({ x5 with State:=2})).set p1.Vol.toNat ({ ({ x5 with State:=2}:aP) with Files:=IntKind.wrap .i64 (x5.Files+1)}))) [(some k2,.obj 62 (aD p1))]).symm) (cI (YY (hp h [(some k2,.obj 62 (aD p1))]) O11 O12 t3 (bG.set (bG.set oV)) (cH (hL p0K r6 ag15 ag16 ag14 gV q11 q12 r9 ((p0.Vols.set p1.Vol.toNat ({ x5 with State:=2})).set p1.Vol.toNat ({ ({ x5 with State:=2}:aP) with Files:=IntKind.wrap .i64 (x5.Files+1)}))) [(some k2,.obj 62 (aD p1))] (a9 u [1,2,3,4,5,0] rfl rfl).2).2 Y5) rfl QZ rfl ?_)
 rintro x h' ⟨ag17,O13,ag18,O14,K15,rfl,rfl⟩
 have K16:=a9 (L':=((some k2,.obj 62 (aD p1))::(hL p0K r6 ag17 ag18 ag14 gV y2.2.1 y2.2.2 r9 ((p0.Vols.set p1.Vol.toNat ({ x5 with State:=2})).set p1.Vol.toNat ({ ({ x5 with State:=2}:aP) with Files:=IntKind.wrap .i64 (x5.Files+1)}))))) (dF (cH (hL p0K r6 ag15 ag16 ag14 gV q11 q12 r9 ((p0.Vols.set p1.Vol.toNat ({ x5 with State:=2})).set p1.Vol.toNat ({ ({ x5 with State:=2}:aP) with Files:=IntKind.wrap .i64 (x5.Files+1)}))) [(some k2,.obj 62 (aD p1))] (a9 u [1,2,3,4,5,0] rfl rfl).2).1 K15) [5,0,1,2,3,4] rfl rfl
 exact qk K16.2 ((cS h (hL p0K r6 ag17 ag18 ag14 gV y2.2.1 y2.2.2 r9 ((p0.Vols.set p1.Vol.toNat ({ x5 with State:=2})).set p1.Vol.toNat ({ ({ x5 with State:=2}:aP) with Files:=IntKind.wrap .i64 (x5.Files+1)}))) [(some k2,.obj 62 (aD p1))]).trans K16.1) (eR m (ag17,ag18) ⟨O13,O14⟩ (lx (.k4 .nil)))
 exact v0 (eR m (ag15,ag16) ⟨O11,O12⟩ (lx (.k4 .nil)))
 rintro⟨ag19,ag20⟩ ⟨j4,j5⟩ ⟨O15,O16⟩ m
 exact v0 (eR m (ag19,ag20) ⟨O15,O16⟩ (lx (.k4 .nil)))
 exact v0 (kT m (ag15,ag16) ⟨O11,O12⟩ (lx (.k4 .nil)))
 rintro⟨ag21,ag22⟩ ⟨r11,r12,r13⟩ ⟨t4,t5⟩ m
 refine vs (v0 (bU (iM (bG.ne (bG.set (bG.set oV)) (dD (x':=({ ({ x5 with State:=2}:aP) with Files:=IntKind.wrap .i64 (x5.Files+1)}:aP)) (dD (x':=({ x5 with State:=2}:aP)) X1))) rfl) (bU (cR (bG.ne (bG.set (bG.set oV)) (dD (x':=({ ({ x5 with State:=2}:aP) with Files:=IntKind.wrap .i64 (x5.Files+1)}:aP)) (dD (x':=({ x5 with State:=2}:aP)) X1))) KF rfl rfl) (vn (λu=>dW (fo:=0) (nZ (({ ({ x5 with State:=2}:aP) with Files:=IntKind.wrap .i64 (x5.Files+1)}:aP).Pool)) (dD (x':=({ ({ x5 with State:=2}:aP) with Files:=IntKind.wrap .i64 (x5.Files+1)}:aP)) (dD (x':=({ x5 with State:=2}:aP)) X1)) dY (bG.set (bG.set oV)) cE rfl (aI 5 u rfl) (λ_=>rfl)) (oU m (σ:=(List aA)) (τ:=cQ) (λg s=>((some k2,.obj 62 (aD p1))::(hL p0K r6 ag21 g ag14 gV r11 s r9 ((p0.Vols.set p1.Vol.toNat ({ x5 with State:=2})).set p1.Vol.toNat ({ ({ x5 with State:=2}:aP) with Files:=IntKind.wrap .i64 (x5.Files+1)}))))) (λg s=>bG g 35 (s:List aA).length) (λg s=>.nil) (λx m=> ?_) ?_)))))
 refine v0 ?_
 apply vi m <;> intro c14 m
 refine vs (v0 (m5 m (σ:=(List aA)×Int) (τ:=cQ) (λg s=>((some k2,.obj 62 (aD p1))::(hL p0K r6 ag21 g ag14 gV r11 s.1 r9 ((p0.Vols.set p1.Vol.toNat ({ x5 with State:=2})).set p1.Vol.toNat ({ ({ x5 with State:=2}:aP) with Files:=IntKind.wrap .i64 (x5.Files+1)}))))) (λg s=>bG g 35 (s.1:List aA).length) (λg s=>.c 0 (.ptr p0K 0) (.c 3 (.ptr k2 0) (.c 13 (nZ s.2) .nil))) ag22 t5 (lx (.k3 .nil)) ?_ ?_))
 rintro ag23 ⟨q14,q15⟩ x O17 m
 replace m:vJ w p0 p1 x5 r6 r9 r11 q14 q15=some x:=m
 unfold vJ at m
 refine vs (vs (v0 (dM gJ rfl rfl (vl 0 _ kK rfl rfl rfl (dL oN rfl (v0 ?_))))))
 apply vi m <;> intro c15 m
 refine v0 (vs (v0 (vs (v0 (dM gJ rfl rfl (vl 0 _ kK rfl rfl rfl (vx m uV rfl rfl λx11 _ m=>bU (oK lJ rfl rfl) (va (nZ x11.Kind) cE rfl rfl (oU m (σ:=(List aA)) (τ:=cQ) (λg s=>((some k2,.obj 62 (aD p1))::(hL p0K r6 ag21 g ag14 gV r11 s r9 ((p0.Vols.set p1.Vol.toNat ({ x5 with State:=2})).set p1.Vol.toNat ({ ({ x5 with State:=2}:aP) with Files:=IntKind.wrap .i64 (x5.Files+1)}))))) (λg s=>bG g 35 (s:List aA).length) (λg s=>.c 0 (.ptr p0K 0) (.c 3 (.ptr k2 0) (.c 13 (nZ q15) .nil))) (λx m=> ?_) ?_)))))))))
 refine v0 ?_
 apply vi m <;> intro c16 m
 refine vs (v0 (u7 (by kernel_rfl) (jD rfl (vl 1 (.agg ([nZ r6,aZ ag21,aZ ag23,aZ ag14,aZ gV])) eV rfl rfl rfl (dM gJ rfl rfl (vl 0 _ kK rfl rfl rfl (vx m uV rfl rfl λx12 _ m=>bU (oK tE rfl rfl) (va (.agg (bM x12.Id)) fZ rfl rfl ?_))))))))
 obtain⟨_,Y6,m⟩:=aC m
 refine vn (λu=>bY (fC (.cons (Br.agg (.cons (Br.refl _ _) (.cons (Br.aw 2 eH t4 u rfl) (.cons (Br.aw 3 cK O17 u rfl) (.cons (Br.aw 4 fH t3 u rfl) (.cons (Br.aw 5 dY (bG.set (bG.set oV)) u rfl) .nil)))))) (.cons (Br.refl _ _) .nil)) rfl (W88 _ Y6)) rfl OV rfl) (vs (v0 (oU m (σ:=(List aA)) (τ:=cQ) (λg s=>((some k2,.obj 62 (aD p1))::(hL p0K r6 ag21 g ag14 gV r11 s r9 ((p0.Vols.set p1.Vol.toNat ({ x5 with State:=2})).set p1.Vol.toNat ({ ({ x5 with State:=2}:aP) with Files:=IntKind.wrap .i64 (x5.Files+1)}))))) (λg s=>bG g 35 (s:List aA).length) (λg s=>.c 0 (.ptr p0K 0) (.c 3 (.ptr k2 0) (.c 13 (nZ q15) .nil))) (λx m=> ?_) ?_)))
 refine v0 ?_
 apply vi m <;> intro c17 m
 refine v0 (vz [(1000000,some p0K,.obj 30 ([nZ r6,aZ ag21,aZ ag23,aZ ag14,aZ gV]))] mixed (λu=>⟨λ_=>aI 1 u rfl,trivial⟩) λu=>zP 0 rfl rfl (zN 1 rfl rfl (zF 2 rfl dX rfl (zL 3 0 (aZ ag23) rfl eU rfl rfl rfl (zI 4 rfl rfl (zP 5 rfl rfl (zN 6 rfl rfl (zF 7 rfl dX rfl (zL 8 0 (aZ ag23) rfl eU rfl rfl rfl (zI 9 rfl rfl ?_))))))))))
 obtain⟨x13,X5,m⟩:=aC m
 refine zC 10 rfl (cJ X5 fI O17 rfl rfl) (zC 11 rfl (cR (bG.ne O17 X5) nV rfl rfl) (zE 12 rfl (cG (fo:=32) ({ x13 with Staged:=false}:aA) 3 u X5 cK O17 rfl rfl rfl rfl (cT.refl _ _) T5 rfl rfl λK17=>⟨⟨λ_=>aI 1 K17 rfl,trivial⟩, ?_⟩)))
 obtain⟨x14,X6,m⟩:=aC m
 refine zC 13 rfl (cJ X6 fI (bG.set O17) rfl rfl) (zC 14 rfl (cR (bG.ne (bG.set O17) X6) jK rfl rfl) (zE 15 rfl (cG (fo:=33) ({ x14 with Data:=([]:List Int)}:aA) 3 K17 X6 cK (bG.set O17) rfl rfl rfl rfl (.cons (aV _) .nil) BA rfl rfl λK18=>⟨⟨λ_=>aI 1 K18 rfl,trivial⟩, ?_⟩)))
 exact zX (qk (f:=RR 287 _ _ _ _ _ _ _ _ _ _ _ _ _ _ _) K18 rfl (eR m ag23 (bG.set (bG.set O17)) (lx (.k3 .nil))))
 exact v0 (eR m ag23 O17 (lx (.k3 .nil)))
 rintro ag24 j6 O18 m
 exact eR m ag24 O18 (lx (.k3 .nil))
 exact v0 (eR m ag23 O17 (lx (.k3 .nil)))
 rintro ag25 j7 O19 m
 exact v0 (eR m ag25 O19 (lx (.k3 .nil)))
 exact v0 (kT m ag23 O17 (lx (.k3 .nil)))
 rintro ag26 ⟨r14,r15⟩ t6 m
 exact eR m ag26 t6 (lx .nil)
 exact v0 (eR m ag22 t5 (lx .nil))
 rintro ag27 j8 O20 m
 exact eR m (ag21,ag27,ag14,gV) ⟨t4,O20,t3,(bG.set (bG.set oV))⟩ (lx .nil)
 refine vs (v0 (oU m (σ:=fA) (τ:=cQ×cQ×cQ×cQ) (λg s=>((some k2,.obj 62 (aD p1))::(hL p0K p0.Seq g.1 g.2.1 g.2.2.1 g.2.2.2 s.1 s.2.1 s.2.2.1 s.2.2.2))) (λg s=>bG g.1 4 (s.1:List aG).length∧bG g.2.1 35 (s.2.1:List aA).length∧bG g.2.2.1 3 (s.2.2.1:List aN).length∧bG g.2.2.2 4 (s.2.2.2:List aP).length) (λg s=>.nil) (λx m=> ?_) ?_))
 refine v0 ?_
 apply vi m <;> intro c18 m
 refine vs (vs (v0 (dM fD rfl rfl (vl 0 _ cE rfl rfl rfl ?_))))
 obtain⟨_,Y7,m⟩:=aC m
 refine ve λu=>cY ((a9 u [1,2,3,4,5,0] rfl rfl).1.trans (cS h (hC p0K p0 gS gC gE gV) [(some k2,.obj 62 (aD p1))]).symm) (cI (TJ (hp h [(some k2,.obj 62 (aD p1))]) ok_Snaps oC oE oV (cH (hC p0K p0 gS gC gE gV) [(some k2,.obj 62 (aD p1))] (a9 u [1,2,3,4,5,0] rfl rfl).2).2 Y7) rfl MN rfl ?_)
 rintro x h' ⟨K19,rfl,rfl⟩
 have K20:=a9 (L':=((some k2,.obj 62 (aD p1))::(hC p0K p0 gS gC gE gV))) (dF (cH (hC p0K p0 gS gC gE gV) [(some k2,.obj 62 (aD p1))] (a9 u [1,2,3,4,5,0] rfl rfl).2).1 K19) [5,0,1,2,3,4] rfl rfl
 refine qk K20.2 ((cS h (hC p0K p0 gS gC gE gV) [(some k2,.obj 62 (aD p1))]).trans K20.1) (v0 ?_)
 apply vi m <;> intro c19 m
 refine vs (v0 (v0 (gO m λm=>gO m λm=>gO m λm=>gO m λm=> ?_)))
 cases m
 exact vr λu=>dV.of1 (.inl rfl) (fP _ _ (.sc (.int _ _)) rfl) (bD u [1,2,3,4,5] rfl).2 (bE.refl _ _) ⟨gS,ok_Snaps,gC,oC,gE,oE,gV,oV,(bD u [1,2,3,4,5] rfl).1,rfl,rfl⟩
 refine v0 (vs (v0 (vz [(1000000,some p0K,.obj 30 ([nZ p0.Seq,aZ gS,aZ gC,aZ gE,aZ gV])),(1000000,some k2,.obj 62 (aD p1))] mixed (λu=>⟨λ_=>aI 1 u rfl,λ_=>aI 0 u rfl,trivial⟩) λu=>zP 0 rfl rfl (zN 1 rfl rfl (zF 2 rfl fN rfl (zL 3 0 (aZ gV) rfl gH rfl rfl rfl (zF 4 rfl fD rfl (zL 5 1 (nZ p1.Vol) rfl cE rfl rfl rfl (zP 6 rfl rfl (zN 7 rfl rfl (zF 8 rfl fN rfl (zL 9 0 (aZ gV) rfl gH rfl rfl rfl (zF 10 rfl fD rfl (zL 11 1 (nZ p1.Vol) rfl cE rfl rfl rfl ?_))))))))))))))
 obtain⟨x15,X7,m⟩:=aC m
 refine zC 12 rfl (cJ X7 kZ oV rfl rfl) (zC 13 rfl (cR (bG.ne oV X7) mI rfl rfl) (zE 14 rfl (cG (fo:=2) ({ x15 with State:=3}:aP) 5 u X7 dY oV rfl rfl rfl rfl (cT.refl _ _) xW rfl rfl λK21=>⟨⟨λ_=>aI 1 K21 rfl,λ_=>aI 0 K21 rfl,trivial⟩, ?_⟩)))
 obtain⟨x16,X8,m⟩:=aC m
 refine zC 15 rfl (cJ X8 kZ (bG.set oV) rfl rfl) (zC 16 rfl (cR (bG.ne (bG.set oV) X8) o7 rfl rfl) (zE 17 rfl (cG (fo:=3) ({ x16 with Files:=0}:aP) 5 K21 X8 dY (bG.set oV) rfl rfl rfl rfl (cT.refl _ _) xW rfl rfl λK22=>⟨⟨λ_=>aI 1 K22 rfl,λ_=>aI 0 K22 rfl,trivial⟩, ?_⟩)))
 refine zX (qk (f:=RS 310 _ _ _ _ _ _ _ _ _ _ _ _ _ _ _ _ _) K22 rfl (vs (v0 (vs (vs (v0 (pJ (EN (.obj 44 (fl aH ([]:List aA) g0.sp)) 15 (aZ g0) (fU _)) (m5 m (σ:=(List aA)×Int) (τ:=cQ) (λg s=>((cD g s.1)::(some k2,.obj 62 (aD p1))::(hL p0K p0.Seq gS gC gE gV p0.Snaps p0.Chunks p0.Exps ((p0.Vols.set p1.Vol.toNat ({ x15 with State:=3})).set p1.Vol.toNat ({ x16 with Files:=0}))))) (λg s=>bG g 35 (s.1:List aA).length) (λg s=>.c 0 (.ptr p0K 0) (.c 3 (.ptr k2 0) (.c 15 (aZ g) (.c 16 (nZ s.2) .nil)))) g0 (bG.g0 35) (lx (.k4 .nil)) ?_ ?_))))))))
 rintro ag28 ⟨q16,q17⟩ x O21 m
 replace m:vK w p0 p1 q16 q17=some x:=m
 unfold vK at m
 refine vs (vs (v0 (jD rfl (dM dX rfl rfl (vl 2 (aZ gC) eU rfl rfl rfl (bU (dP jE oC rfl) (v0 ?_)))))))
 apply vi m <;> intro c20 m
 refine v0 (vs (v0 (vs (v0 (jD rfl (dM dX rfl rfl (vl 2 (aZ gC) eU rfl rfl rfl ?_)))))))
 obtain⟨x17,X9,m⟩:=aC m
 refine bU (cJ X9 fI oC rfl rfl) (vn (λu=>dW (fo:=0) (.agg (aH x17)) X9 cK oC mH rfl (aI 4 u rfl) (λ_=>rfl)) (ve λu=>bI (bM jR++(JK:List AV)) u m7 rfl rfl λk15855 K23=>qk K23 rfl (ve λu=>aJ 0 (aH x17) u rfl rfl rfl rfl wN rfl rfl λK24=>qk K24 rfl (vs (v0 (dM iO rfl rfl (vl 0 _ fJ rfl rfl rfl (dM fD rfl rfl (vl 2 _ cE rfl rfl rfl (vk TH MM m rfl rfl λy3 m=>dM iO rfl rfl (ve λu=>aJ 0 (aH { x17 with Locs:=y3}) u rfl rfl rfl rfl nE rfl rfl λK25=>qk K25 rfl (vs (fR m (σ:=Bool) (λs=>((some k15855,.obj 44 (aH { x17 with Locs:=y3}))::(cD ag28 q16)::(some k2,.obj 62 (aD p1))::(hL p0K p0.Seq gS gC gE gV p0.Snaps p0.Chunks p0.Exps ((p0.Vols.set p1.Vol.toNat ({ x15 with State:=3})).set p1.Vol.toNat ({ x16 with Files:=0}))))) (λs=>.c 0 (.ptr p0K 0) (.c 3 (.ptr k2 0) (.c 15 (aZ ag28) (.c 16 (nZ q17) (.c 17 (.ptr k15855 0) (.c 340 (.sc (.bool s)) .nil)))))) (λx m=> ?_) ?_)))))))))))))
 refine v0 (dM nV rfl rfl (vl 0 _ DH rfl rfl rfl ?_))
 apply vi m <;> intro b7 m
 rw[b7]
 exact qB m
 rw[b7]
 exact dM iO rfl rfl (vl 0 _ fJ rfl rfl rfl (dL jJ rfl (qB m)))
 rintro _ j9 m
 refine oU m (σ:=(List aA)) (τ:=cQ) (λg s=>((some k15855,.obj 44 (aH { x17 with Locs:=y3}))::(cD g s)::(some k2,.obj 62 (aD p1))::(hL p0K p0.Seq gS gC gE gV p0.Snaps p0.Chunks p0.Exps ((p0.Vols.set p1.Vol.toNat ({ x15 with State:=3})).set p1.Vol.toNat ({ x16 with Files:=0}))))) (λg s=>bG g 35 (s:List aA).length) (λg s=>.c 0 (.ptr p0K 0) (.c 3 (.ptr k2 0) (.c 15 (aZ g) (.c 16 (nZ q17) .nil)))) (λx m=> ?_) ?_
 refine v0 ?_
 apply vi m <;> intro c21 m
 refine v0 (vl 0 (.agg (aH { x17 with Locs:=y3})) mH rfl rfl rfl (bU (eI (List.map aH ([{ x17 with Locs:=y3}]:List aA)) kY rfl rfl rfl rfl) ?_))
 obtain⟨z1,Z1,m⟩:=aC m
 exact ve λu=>fX (c:=aH) 1 Z1 kY rfl m7 rfl cK rfl rfl O21 u rfl λag29 O22 K26=>qk K26 rfl (eR m ag29 O22 (lx (.k4 .nil)))
 exact v0 (eR m ag28 O21 (lx (.k4 .nil)))
 rintro ag30 j10 O23 m
 exact v0 (eR m ag30 O23 (l4 [1,2,3,4,5,6,7] rfl rfl (.k4 .nil)))
 exact v0 (kT m ag28 O21 (lx (.k4 .nil)))
 rintro ag31 ⟨r16,r17⟩ t7 m
 refine vs (v0 (jD rfl (dM dX rfl rfl (ve λu=>aJ 2 ([nZ p0.Seq,aZ gS,aZ ag31,aZ gE,aZ gV]) u rfl rfl (bZ rfl) (cC (bW _ _ _) rfl) yA rfl rfl λK27=>qk K27 rfl (vs (vs (v0 (m5 m (σ:=(List aG)×Int) (τ:=cQ) (λg s=> [(cD ag31 r16),(some k2,.obj 62 (aD p1)),(hO p0K p0.Seq g ag31 gE gV),(dN g s.1),(cD gC p0.Chunks),(eX gE p0.Exps),(kO gV ((p0.Vols.set p1.Vol.toNat ({ x15 with State:=3})).set p1.Vol.toNat ({ x16 with Files:=0})))]) (λg s=>bG g 4 (s.1:List aG).length) (λg s=>.c 0 (.ptr p0K 0) (.c 3 (.ptr k2 0) (.c 18 (nZ s.2) .nil))) gS ok_Snaps (lx (.k3 .nil)) ?_ ?_))))))))
 rintro ag32 ⟨q18,q19⟩ x O24 m
 replace m:vL w p1 q18 q19=some x:=m
 unfold vL at m
 refine vs (vs (v0 (jD rfl (dM dU rfl rfl (vl 2 (aZ ag32) fM rfl rfl rfl (bU (dP jU O24 rfl) (v0 ?_)))))))
 apply vi m <;> intro c22 m
 refine v0 (vs (v0 (v0 (vz [(1000000,some p0K,.obj 30 ([nZ p0.Seq,aZ ag32,aZ ag31,aZ gE,aZ gV])),(18,ag32.t,.obj 60 (fl bR (q18:List aG) ag32.sp)),(1000000,some k2,.obj 62 (aD p1))] mixed (λu=>⟨λ_=>aI 2 u rfl,λ_=>aI 3 u rfl,λ_=>aI 1 u rfl,trivial⟩) λu=>zP 0 rfl rfl (zN 1 rfl rfl (zF 2 rfl dU rfl (zL 3 0 (aZ ag32) rfl fM rfl rfl rfl (zI 4 rfl rfl (zP 5 rfl rfl (zN 6 rfl rfl (zF 7 rfl dU rfl (zL 8 0 (aZ ag32) rfl fM rfl rfl rfl (zI 9 rfl rfl ?_)))))))))))))
 obtain⟨x18,X10,m⟩:=aC m
 refine zC 10 rfl (cJ X10 iN O24 rfl rfl) (zC 11 rfl (cR (bG.ne O24 X10) jL rfl rfl) (uS 12 rfl (λ_ _ hi hB=>dW (fo:=3) (.sl none 4 (List.map aQ x18.Locs)) X10 eH O24 fJ rfl (fW.get 1 hi rfl (hB 18 (by kernel_rfl))) (λ_=>rfl)) (zF 13 rfl fD rfl (zL 14 2 (nZ p1.Vol) rfl cE rfl rfl rfl ?_))))
 obtain⟨y4,Y8,m⟩:=aC m
 refine zC 15 rfl (bY (TH _ Y8) rfl MM rfl) ?_
 obtain⟨x19,X11,m⟩:=aC m
 refine zC 16 rfl (cJ X11 iN O24 rfl rfl) (zC 17 rfl (cR (bG.ne O24 X11) jL rfl rfl) (zE 18 rfl (cG (fo:=3) ({ x19 with Locs:=y4}:aG) 3 u X11 eH O24 rfl rfl rfl rfl (cT.refl _ _) nE rfl rfl λK28=>⟨⟨λ_=>aI 2 K28 rfl,λe=>absurd e (by decide),λ_=>aI 1 K28 rfl,trivial⟩, ?_⟩)))
 exact zX (qk (f:=aA2 375 _ _ _ _ _ _ _ _ _ _ _ _ _ _ _ _ _ _ _) K28 rfl (v0 (eR m ag32 (bG.set O24) (lx (.k3 .nil)))))
 exact v0 (kT m ag32 O24 (lx (.k3 .nil)))
 rintro ag33 ⟨r18,r19⟩ t8 m
 refine vs (v0 (vs (vs (v0 (pJ (EN (.obj 99 (fl cL ([]:List aN) g0.sp)) 19 (aZ g0) (fU _)) (m5 m (σ:=(List aN)×Int) (τ:=cQ) (λg s=> [(eX g s.1),(cD ag31 r16),(some k2,.obj 62 (aD p1)),(hO p0K p0.Seq ag33 ag31 gE gV),(dN ag33 r18),(cD gC p0.Chunks),(eX gE p0.Exps),(kO gV ((p0.Vols.set p1.Vol.toNat ({ x15 with State:=3})).set p1.Vol.toNat ({ x16 with Files:=0})))]) (λg s=>bG g 3 (s.1:List aN).length) (λg s=>.c 0 (.ptr p0K 0) (.c 3 (.ptr k2 0) (.c 19 (aZ g) (.c 20 (nZ s.2) .nil)))) g0 (bG.g0 3) (lx (.k4 .nil)) ?_ ?_))))))
 rintro ag34 ⟨q20,q21⟩ x O25 m
 replace m:vM w p0 p1 q20 q21=some x:=m
 unfold vM at m
 refine vs (vs (v0 (jD rfl (dM eW rfl rfl (vl 3 (aZ gE) i8 rfl rfl rfl (bU (dP o5 oE rfl) (v0 ?_)))))))
 apply vi m <;> intro c23 m
 refine v0 (vs (v0 (vs (v0 (jD rfl (dM eW rfl rfl (vl 3 (aZ gE) i8 rfl rfl rfl ?_)))))))
 obtain⟨x20,X12,m⟩:=aC m
 refine bU (cJ X12 iE oE rfl rfl) (vn (λu=>dW (fo:=0) (.agg (cL x20)) X12 fH oE tM rfl (aI 6 u rfl) (λ_=>rfl)) (ve λu=>bI ([nZ 0,nZ 0,sZ]) u qE rfl rfl λk16100 K29=>qk K29 rfl (ve λu=>aJ 0 (cL x20) u rfl rfl rfl rfl FO rfl rfl λK30=>qk K30 rfl (vs (v0 (dM kN rfl rfl (vl 0 _ fJ rfl rfl rfl (dM fD rfl rfl (vl 3 _ cE rfl rfl rfl (vk TH MM m rfl rfl λy5 m=>dM kN rfl rfl (ve λu=>aJ 0 (cL { x20 with Locs:=y5}) u rfl rfl rfl rfl nE rfl rfl λK31=>qk K31 rfl (vs (v0 (dM kN rfl rfl (vl 0 _ fJ rfl rfl rfl (dL jJ rfl (oU m (σ:=(List aN)) (τ:=cQ) (λg s=> [(some k16100,.obj 99 (cL { x20 with Locs:=y5})),(eX g s),(cD ag31 r16),(some k2,.obj 62 (aD p1)),(hO p0K p0.Seq ag33 ag31 gE gV),(dN ag33 r18),(cD gC p0.Chunks),(eX gE p0.Exps),(kO gV ((p0.Vols.set p1.Vol.toNat ({ x15 with State:=3})).set p1.Vol.toNat ({ x16 with Files:=0})))]) (λg s=>bG g 3 (s:List aN).length) (λg s=>.c 0 (.ptr p0K 0) (.c 3 (.ptr k2 0) (.c 19 (aZ g) (.c 20 (nZ q21) .nil)))) (λx m=> ?_) ?_)))))))))))))))))
 refine v0 ?_
 apply vi m <;> intro c24 m
 refine v0 (vl 0 (.agg (cL { x20 with Locs:=y5})) tM rfl rfl rfl (bU (eI (List.map cL ([{ x20 with Locs:=y5}]:List aN)) oL rfl rfl rfl rfl) ?_))
 obtain⟨z2,Z2,m⟩:=aC m
 exact ve λu=>fX (c:=cL) 1 Z2 oL rfl qE rfl fH rfl rfl O25 u rfl λag35 O26 K32=>qk K32 rfl (eR m ag35 O26 (lx (.k4 .nil)))
 exact v0 (eR m ag34 O25 (lx (.k4 .nil)))
 rintro ag36 j11 O27 m
 exact v0 (eR m ag36 O27 (l4 [1,2,3,4,5,6,7,8] rfl rfl (.k4 .nil)))
 exact v0 (kT m ag34 O25 (lx (.k4 .nil)))
 rintro ag37 ⟨r20,r21⟩ t9 m
 exact v0 (jD rfl (dM eW rfl rfl (ve λu=>aJ 3 ([nZ p0.Seq,aZ ag33,aZ ag31,aZ ag37,aZ gV]) u rfl rfl (bZ rfl) (cC (bW _ _ _) rfl) II rfl rfl λK33=>qk K33 rfl (eR m (ag33,ag31,ag37,gV) ⟨t8,t7,t9,(bG.set (bG.set oV))⟩ (l4 [2,3,4,1,0,7] rfl rfl .nil)))))
 refine vs (v0 (oU m (σ:=(List aP)) (τ:=cQ) (λg s=>((some k2,.obj 62 (aD p1))::(hL p0K p0.Seq gS gC gE g p0.Snaps p0.Chunks p0.Exps s))) (λg s=>bG g 4 (s:List aP).length) (λg s=>.nil) (λx m=> ?_) ?_))
 refine v0 ?_
 apply vi m <;> intro c25 m
 refine vs (vs (v0 (dM fD rfl rfl (vl 0 _ cE rfl rfl rfl ?_))))
 obtain⟨_,Y9,m⟩:=aC m
 refine ve λu=>cY ((a9 u [1,2,3,4,5,0] rfl rfl).1.trans (cS h (hC p0K p0 gS gC gE gV) [(some k2,.obj 62 (aD p1))]).symm) (cI (TJ (hp h [(some k2,.obj 62 (aD p1))]) ok_Snaps oC oE oV (cH (hC p0K p0 gS gC gE gV) [(some k2,.obj 62 (aD p1))] (a9 u [1,2,3,4,5,0] rfl rfl).2).2 Y9) rfl MN rfl ?_)
 rintro x h' ⟨K34,rfl,rfl⟩
 have K35:=a9 (L':=((some k2,.obj 62 (aD p1))::(hC p0K p0 gS gC gE gV))) (dF (cH (hC p0K p0 gS gC gE gV) [(some k2,.obj 62 (aD p1))] (a9 u [1,2,3,4,5,0] rfl rfl).2).1 K34) [5,0,1,2,3,4] rfl rfl
 refine qk K35.2 ((cS h (hC p0K p0 gS gC gE gV) [(some k2,.obj 62 (aD p1))]).trans K35.1) (v0 ?_)
 apply vi m <;> intro c26 m
 refine vs (v0 (v0 (gO m λm=>gO m λm=>gO m λm=>gO m λm=>gO m λm=> ?_)))
 cases m
 exact vr λu=>dV.of1 (.inl rfl) (fP _ _ (.sc (.int _ _)) rfl) (bD u [1,2,3,4,5] rfl).2 (bE.refl _ _) ⟨gS,ok_Snaps,gC,oC,gE,oE,gV,oV,(bD u [1,2,3,4,5] rfl).1,rfl,rfl⟩
 refine v0 (v0 (vz [(1000000,some p0K,.obj 30 ([nZ p0.Seq,aZ gS,aZ gC,aZ gE,aZ gV])),(1000000,some k2,.obj 62 (aD p1)),(24,gV.t,.obj 49 (fl cZ (p0.Vols:List aP) gV.sp))] mixed (λu=>⟨λ_=>aI 1 u rfl,λ_=>aI 0 u rfl,λ_=>aI 5 u rfl,trivial⟩) λu=>zP 0 rfl rfl (zN 1 rfl rfl (zF 2 rfl fN rfl (zL 3 0 (aZ gV) rfl gH rfl rfl rfl (zF 4 rfl fD rfl (zL 5 1 (nZ p1.Vol) rfl cE rfl rfl rfl (zP 6 rfl rfl (zN 7 rfl rfl (zF 8 rfl fN rfl (zL 9 0 (aZ gV) rfl gH rfl rfl rfl (zF 10 rfl fD rfl (zL 11 1 (nZ p1.Vol) rfl cE rfl rfl rfl (zP 12 rfl rfl (zN 13 rfl rfl (zF 14 rfl fN rfl (zL 15 0 (aZ gV) rfl gH rfl rfl rfl (zF 16 rfl fD rfl (zL 17 1 (nZ p1.Vol) rfl cE rfl rfl rfl ?_)))))))))))))))))))
 obtain⟨x21,X13,m⟩:=aC m
 refine zC 18 rfl (cJ X13 kZ oV rfl rfl) (zC 19 rfl (cR (bG.ne oV X13) BB rfl rfl) (uS 20 rfl (λ_ _ hi hB=>dW (fo:=1) (nZ x21.Epoch) X13 dY oV cE rfl (fW.get 2 hi rfl (hB 24 (by kernel_rfl))) (λ_=>rfl)) (zC 21 rfl (kX rfl rfl rfl trivial) ?_)))
 obtain⟨x22,X14,m⟩:=aC m
 refine zC 22 rfl (cJ X14 kZ oV rfl rfl) (zC 23 rfl (cR (bG.ne oV X14) mI rfl rfl) (zE 24 rfl (cG (fo:=2) ({ x22 with State:=1}:aP) 5 u X14 dY oV rfl rfl rfl rfl (cT.refl _ _) xW rfl rfl λK36=>⟨⟨λ_=>aI 1 K36 rfl,λ_=>aI 0 K36 rfl,λe=>absurd e (by decide),trivial⟩, ?_⟩)))
 obtain⟨x23,X15,m⟩:=aC m
 refine zC 25 rfl (cJ X15 kZ (bG.set oV) rfl rfl) (zC 26 rfl (cR (bG.ne (bG.set oV) X15) BB rfl rfl) (zE 27 rfl (cG (fo:=1) ({ x23 with Epoch:=IntKind.wrap .i64 (x21.Epoch+1)}:aP) 5 K36 X15 dY (bG.set oV) rfl rfl rfl rfl (cT.refl _ _) xW rfl rfl λK37=>⟨⟨λ_=>aI 1 K37 rfl,λ_=>aI 0 K37 rfl,λe=>absurd e (by decide),trivial⟩, ?_⟩)))
 exact zX (qk (f:=aA3 442 _ _ _ _ _ _ _ _ _ _ _ _ _ _ _ _ _ _ _ _ _ _ _ _ _ _ _) K37 rfl (eR m gV (bG.set (bG.set oV)) (lx .nil)))
 exact v0 (eR m gV oV (lx .nil))
 rintro ag38 j12 O28 m
 exact eR m (gS,gC,gE,ag38) ⟨ok_Snaps,oC,oE,O28⟩ (lx .nil)
 rintro⟨ag39,ag40,ag41,ag42⟩ ⟨j13,j14,j15,j16⟩ ⟨O29,O30,O31,O32⟩ m
 exact eR m (ag39,ag40,ag41,ag42) ⟨O29,O30,O31,O32⟩ (lx .nil)
 rintro⟨ag43,ag44,ag45,ag46⟩ ⟨j17,j18,j19,j20,j21⟩ ⟨O33,O34,O35,O36⟩ m
 exact eR m (ag43,ag44,ag45,ag46) ⟨O33,O34,O35,O36⟩ (lx .nil)
 rintro⟨ag47,ag48,ag49,ag50⟩ ⟨j22,j23,j24,j25,j26⟩ ⟨O37,O38,O39,O40⟩ m
 exact eR m (ag47,ag48,ag49,ag50) ⟨O37,O38,O39,O40⟩ (lx .nil)
 rintro⟨ag51,ag52,ag53,ag54⟩ ⟨j27,j28,j29,j30,j31⟩ ⟨O41,O42,O43,O44⟩ m
 refine vs (v0 (v0 ?_))
 cases m
 exact vr λu=>dV.of1 (.inl rfl) (fP _ _ (.sc (.int _ _)) rfl) (bD u [1,2,3,4,5] rfl).2 (bE.refl _ _) ⟨ag51,O41,ag52,O42,ag53,O43,ag54,O44,(bD u [1,2,3,4,5] rfl).1,rfl,rfl⟩
theorem aD9:aO Tryz.prog 91=true:=by kernel_rfl
open Go.Vm
def ZA (m:Nat) (p0:aB) (p1:aS):Option (aB×Int):=
 after ((SM m p0).bind λy0=>if (!y0)=true then (some (.brk true)) else if (decide (p1.Kind < 1))=true then (some (.brk true)) else some (.brk (decide (5 < p1.Kind))):Option (Lp (Bool) (aB×Int))) λj0=>if j0=true then (some (({ Seq:=0,Snaps:= [],Chunks:= [],Exps:= [],Vols:= []}:aB),1)) else (MJ m p0).bind λy1=>(UD m p1).bind λy2=>(UE m ({ Seq:=y1.Seq,Snaps:=y1.Snaps,Chunks:=y1.Chunks,Exps:=y1.Exps,Vols:=y1.Vols}:aB) y2).bind λy3=>if (y3.1 !=0)=true then (some (({ Seq:=0,Snaps:= [],Chunks:= [],Exps:= [],Vols:= []}:aB),y3.1)) else (SM m ({ Seq:=y3.2.1,Snaps:=y3.2.2.1,Chunks:=y3.2.2.2.1,Exps:=y3.2.2.2.2.1,Vols:=y3.2.2.2.2.2}:aB)).bind λy4=>if (!y4)=true then (some (({ Seq:=0,Snaps:= [],Chunks:= [],Exps:= [],Vols:= []}:aB),1)) else some (({ Seq:=y3.2.1,Snaps:=y3.2.2.1,Chunks:=y3.2.2.2.1,Exps:=y3.2.2.2.2.1,Vols:=y3.2.2.2.2.2}:aB),0)
theorem W36 {w:Nat} {p0:aB} {p1:aS} {o:aB×Int} (h:aE) (m:ZA w p0 p1=some o):
 aL Tryz.prog 36 [.agg (aF p0),.agg (aD p1)] h (λr h'=>r= .tup [.agg (aF o.1),nZ o.2]∧h'=h):=by
 refine fY 36 [.cell 4 30,.tmp 5] Tryz.func36 rfl rfl rfl rfl ?_
 unfold ZA at m
 refine vs (v0 (gZ rfl rfl λk2 K3=>gZ rfl rfl λk5 K6=>ve λu=>bI (gQ) u oM rfl rfl λk8 K9=>qk K9 rfl (vs (vs (fR m (σ:=Bool) (λs=> [(some k8,.obj 30 (gQ)),(some k5,.obj 62 (aD p1)),(some k2,.obj 30 (aF p0))]) (λs=>.c 2 (.ptr k2 0) (.c 3 (.ptr k5 0) (.c 4 (.ptr k8 0) (.c 20 (.sc (.bool s)) .nil)))) (λx m=> ?_) ?_)))))
 refine v0 (vl 2 (.agg (aF p0)) eV rfl rfl rfl (vk W89 WF m rfl rfl λ_ m=> ?_))
 apply vi m <;> intro b0 m
 rw[b0]
 exact hD m
 rw[b0]
 refine dM BC rfl rfl (vl 1 _ cE rfl rfl rfl ?_)
 apply vi m <;> intro b1 m
 rw[b1]
 exact hD m
 rw[b1]
 exact dM BC rfl rfl (vl 1 _ cE rfl rfl rfl (hD m))
 rintro _ j0 m
 refine v0 ?_
 apply vi m <;> intro c0 m
 refine vs (v0 (bU (fF (gQ) A9 rfl) (ve λu=>aJ 0 (gQ) u rfl rfl rfl rfl lA rfl rfl λK0=>qk K0 rfl (v0 ?_))))
 cases m
 exact vr λu=>dV.of2 (.inl rfl) (pU (.agg (gQ)) eV rfl (a8 0 u rfl) rfl) (fP _ _ (.sc (.int _ _)) rfl) (aR (List.nil_sublist _) u).1 (bE.agg (.cons (bE.refl _ _) (.cons (aV _) (.cons (aV _) (.cons (aV _) (.cons (aV _) .nil)))))) (bE.refl _ _) ⟨rfl,rfl⟩
 refine v0 (vs (v0 (vl 2 (.agg (aF p0)) eV rfl rfl rfl ?_)))
 obtain⟨y0,Y0,m⟩:=aC m
 refine ve λu=>cI (aD2 _ Y0) rfl aCW rfl ?_
 rintro x h' ⟨ag0,O0,ag1,O1,ag2,O2,ag3,O3,K1,rfl,rfl⟩
 refine qk (dF u K1) (cS h [(dN ag0 y0.Snaps),(cD ag1 y0.Chunks),(eX ag2 y0.Exps),(kO ag3 y0.Vols)] [(some k8,.obj 30 (gQ)),(some k5,.obj 62 (aD p1)),(some k2,.obj 30 (aF p0))]) (ve λu=>bI (gQ) u oM rfl rfl λk42 K2=>qk K2 rfl (ve λu=>aJ 0 ([nZ y0.Seq,aZ ag0,aZ ag1,aZ ag2,aZ ag3]) u rfl rfl rfl (by repeat (first | exact rfl | refine cC (iC _ _ _) ?_ | refine cC (bW _ _ _) ?_ | refine cC (f0 _ _ _ _) ?_ | refine cC rfl ?_)) lA rfl rfl λK4=>qk K4 rfl ?_))
 refine vs (v0 (vl 6 (.agg (aD p1)) nF rfl rfl rfl (vk W92 aD4 m rfl rfl λ_ m=> ?_)))
 obtain⟨y1,Y1,m⟩:=aC m
 refine ve λu=>cY ((a9 u [0,1,2,3,4,5,6,7] rfl rfl).1.trans (cS h (hC k42 y0 ag0 ag1 ag2 ag3) [(some k8,.obj 30 (gQ)),(some k5,.obj 62 (aD p1)),(some k2,.obj 30 (aF p0))]).symm) (cI (W91 (hp h [(some k8,.obj 30 (gQ)),(some k5,.obj 62 (aD p1)),(some k2,.obj 30 (aF p0))]) O0 O1 O2 O3 (cH (hC k42 y0 ag0 ag1 ag2 ag3) [(some k8,.obj 30 (gQ)),(some k5,.obj 62 (aD p1)),(some k2,.obj 30 (aF p0))] (a9 u [0,1,2,3,4,5,6,7] rfl rfl).2).2 Y1) rfl aD9 rfl ?_)
 rintro x h' ⟨ag4,O4,ag5,O5,ag6,O6,ag7,O7,K5,rfl,rfl⟩
 have K7:=a9 (L':= [(hO k42 y1.2.1 ag4 ag5 ag6 ag7),(dN ag4 y1.2.2.1),(cD ag5 y1.2.2.2.1),(eX ag6 y1.2.2.2.2.1),(kO ag7 y1.2.2.2.2.2),(some k8,.obj 30 (gQ)),(some k5,.obj 62 (aD p1)),(some k2,.obj 30 (aF p0))]) (dF (cH (hC k42 y0 ag0 ag1 ag2 ag3) [(some k8,.obj 30 (gQ)),(some k5,.obj 62 (aD p1)),(some k2,.obj 30 (aF p0))] (a9 u [0,1,2,3,4,5,6,7] rfl rfl).2).1 K5) [0,1,2,3,4,5,6,7] rfl rfl
 refine qk K7.2 ((cS h (hL k42 y1.2.1 ag4 ag5 ag6 ag7 y1.2.2.1 y1.2.2.2.1 y1.2.2.2.2.1 y1.2.2.2.2.2) [(some k8,.obj 30 (gQ)),(some k5,.obj 62 (aD p1)),(some k2,.obj 30 (aF p0))]).trans K7.1) (vs (vs (v0 (v0 ?_))))
 apply vi m <;> intro c1 m
 refine vs (v0 (bU (fF (gQ) A9 rfl) (ve λu=>aJ 5 (gQ) u rfl rfl rfl rfl lA rfl rfl λK8=>qk K8 rfl (v0 ?_))))
 cases m
 exact vr λu=>dV.of2 (.inl rfl) (pU (.agg (gQ)) eV rfl (a8 5 u rfl) rfl) (fP _ _ (.sc (.int _ _)) rfl) (aR (List.nil_sublist _) u).1 (bE.agg (.cons (bE.refl _ _) (.cons (aV _) (.cons (aV _) (.cons (aV _) (.cons (aV _) .nil)))))) (bE.refl _ _) ⟨rfl,rfl⟩
 refine v0 (vs (vs (v0 (vl 0 (.agg ([nZ y1.2.1,aZ ag4,aZ ag5,aZ ag6,aZ ag7])) eV rfl rfl rfl ?_))))
 obtain⟨_,Y2,m⟩:=aC m
 refine vn (λu=>bY (fC (.cons (Br.agg (.cons (Br.refl _ _) (.cons (Br.aw 1 eH O4 u rfl) (.cons (Br.aw 2 cK O5 u rfl) (.cons (Br.aw 3 fH O6 u rfl) (.cons (Br.aw 4 dY O7 u rfl) .nil)))))) .nil) rfl (W89 _ Y2)) rfl WF rfl) (v0 ?_)
 apply vi m <;> intro c2 m
 refine vs (v0 (bU (fF (gQ) A9 rfl) (ve λu=>aJ 5 (gQ) u rfl rfl rfl rfl lA rfl rfl λK73=>qk K73 rfl (v0 ?_))))
 cases m
 exact vr λu=>dV.of2 (.inl rfl) (pU (.agg (gQ)) eV rfl (a8 5 u rfl) rfl) (fP _ _ (.sc (.int _ _)) rfl) (aR (List.nil_sublist _) u).1 (bE.agg (.cons (bE.refl _ _) (.cons (aV _) (.cons (aV _) (.cons (aV _) (.cons (aV _) .nil)))))) (bE.refl _ _) ⟨rfl,rfl⟩
 refine v0 (vs (v0 (vl 0 (.agg ([nZ y1.2.1,aZ ag4,aZ ag5,aZ ag6,aZ ag7])) eV rfl rfl rfl (ve λu=>aJ 5 ([nZ y1.2.1,aZ ag4,aZ ag5,aZ ag6,aZ ag7]) u rfl rfl rfl (by repeat (first | exact rfl | refine cC (iC _ _ _) ?_ | refine cC (bW _ _ _) ?_ | refine cC (f0 _ _ _ _) ?_ | refine cC rfl ?_)) lA rfl rfl λK75=>qk K75 rfl ?_))))
 refine v0 ?_
 cases m
 refine vrl λu=> ?_
 obtain⟨K76,le0⟩:=iS.fzO (n:=36) (f:=_) 1 4 ([nZ y1.2.1,.sl none 4 (List.map bR y1.2.2.1),aZ ag5,aZ ag6,aZ ag7]) u rfl (.cons (Fz.refl _ _ _) (.cons (Fz.aw 1 eH O4 u rfl (.refl _)) (.cons (Fz.refl _ _ _) (.cons (Fz.refl _ _ _) (.cons (Fz.refl _ _ _) .nil)))))
 obtain⟨K78,le1⟩:=iS.fzO (n:=36) (f:=_) 1 3 ([nZ y1.2.1,.sl none 4 (List.map bR y1.2.2.1),.sl none 35 (List.map aH y1.2.2.2.1),aZ ag6,aZ ag7]) K76 rfl (.cons (Fz.refl _ _ _) (.cons (Fz.refl _ _ _) (.cons (Fz.aw 1 cK O5 K76 rfl (.refl _)) (.cons (Fz.refl _ _ _) (.cons (Fz.refl _ _ _) .nil)))))
 obtain⟨K80,le2⟩:=iS.fzO (n:=36) (f:=_) 1 2 ([nZ y1.2.1,.sl none 4 (List.map bR y1.2.2.1),.sl none 35 (List.map aH y1.2.2.2.1),.sl none 3 (List.map cL y1.2.2.2.2.1),aZ ag7]) K78 rfl (.cons (Fz.refl _ _ _) (.cons (Fz.refl _ _ _) (.cons (Fz.refl _ _ _) (.cons (Fz.aw 1 fH O6 K78 rfl (.refl _)) (.cons (Fz.refl _ _ _) .nil)))))
 obtain⟨K82,le3⟩:=iS.fzO (n:=36) (f:=_) 1 1 ([nZ y1.2.1,.sl none 4 (List.map bR y1.2.2.1),.sl none 35 (List.map aH y1.2.2.2.1),.sl none 3 (List.map cL y1.2.2.2.2.1),.sl none 4 (List.map cZ y1.2.2.2.2.2)]) K80 rfl (.cons (Fz.refl _ _ _) (.cons (Fz.refl _ _ _) (.cons (Fz.refl _ _ _) (.cons (Fz.refl _ _ _) (.cons (Fz.aw 1 dY O7 K80 rfl (.refl _)) .nil)))))
 exact NM.mk (iS.trans (iS.trans (iS.trans le0 le1) le2) le3) (dV.of2 (.inl rfl) (pU (.agg (aF ({ Seq:=y1.2.1,Snaps:=y1.2.2.1,Chunks:=y1.2.2.2.1,Exps:=y1.2.2.2.2.1,Vols:=y1.2.2.2.2.2}:aB))) eV rfl (a8 1 K82 rfl) rfl) (fP _ _ (.sc (.int _ _)) rfl) (aR (List.nil_sublist _) K82).1 (bE.refl _ _) (bE.refl _ _) ⟨rfl,rfl⟩)
theorem aEA:aO Tryz.prog 36=true:=by kernel_rfl
end Go.Proofs.YtbbifdfldpfphaaGreat
