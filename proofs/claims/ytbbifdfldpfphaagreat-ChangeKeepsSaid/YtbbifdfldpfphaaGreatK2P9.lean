import Derived.Test.YtbbifdfldpfphaaGreatK2P4
import Derived.Test.YtbbifdfldpfphaaGreatK2P8
set_option linter.unusedSimpArgs false
set_option linter.unusedVariables false
set_option maxHeartbeats 4000000
set_option maxRecDepth 100000
namespace Go.Proofs.YtbbifdfldpfphaaGreat
open Go.Vm
def yH (m:Nat) (p1:aP) (q0:Bool) (q1:Int):Option (Lp (Bool×Int) (Lp (Int×fE) (Int×Int×fE))):=
 if (decide (q1 < (p1.Chunks.length:Int)))=true then (after (if q0=true then ((ix p1.Chunks q1).bind λx0=>if x0.Staged=true then ((ix p1.Chunks q1).bind λx1=>some (.brk ((x1.Locs.length:Int)==0))) else some (.brk false)) else some (.brk false):Option (Lp (Bool) (Lp (Bool×Int) (Lp (Int×fE) (Int×Int×fE))))) λj0=>some (.go (j0,IntKind.wrap .i64 (q1+1)))) else some (.brk (q0,q1))
def yI (m:Nat) (p1:aP) (q0:List aA) (q1:Int):Option (Lp ((List aA)×Int) (Lp (Int×fE) (Int×Int×fE))):=
 if (decide (q1 < (p1.Chunks.length:Int)))=true then ((ix p1.Chunks q1).bind λx0=>(EW m q0 x0).bind λy0=>some (.go (y0,IntKind.wrap .i64 (q1+1)))) else some (.brk (q0,q1))
def CJ (m:Nat) (p1:aP) (q0:Bool) (q1:Int):Option (Lp (Bool×Int) (Lp (Int×fE) (Lp (Int×fE) (Lp (Int×fE) (Int×Int×fE))))):=
 if (decide (q1 < (p1.Items.length:Int)))=true then (after (if q0=true then ((ix p1.Items q1).bind λx0=>if (decide (1≤x0.Kind))=true then ((ix p1.Items q1).bind λx1=>some (.brk (decide (x1.Kind≤3)))) else some (.brk false)) else some (.brk false):Option (Lp (Bool) (Lp (Bool×Int) (Lp (Int×fE) (Lp (Int×fE) (Lp (Int×fE) (Int×Int×fE))))))) λj0=>some (.go (j0,IntKind.wrap .i64 (q1+1)))) else some (.brk (q0,q1))
def CK (m:Nat) (p0:aB) (p1:aP) (x0:aR) (q0:Int) (q1:List aG) (q2:List aA) (q3:List aQ) (q4:Int):Option (Lp (Int×(List aG)×(List aA)×(List aQ)×Int) (Lp (Int×fE) (Lp (Int×fE) (Lp (Int×fE) (Int×Int×fE))))):=
 if (decide (q4 < (p1.Items.length:Int)))=true then ((ix p1.Items q4).bind λx1=>(ix p1.Items q4).bind λx2=>(ix p1.Items q4).bind λx3=>(NO m ({ Seq:=q0,Snaps:=q1,Chunks:=q2,Exps:=q3,Vols:=(p0.Vols.set p1.Vol.toNat ({ x0 with State:=2})).set p1.Vol.toNat ({ ({ x0 with State:=2}:aR) with Files:=IntKind.wrap .i64 (x0.Files+1)})}:aB) x1 ({ Vol:=p1.Vol,File:=({ ({ x0 with State:=2}:aR) with Files:=IntKind.wrap .i64 (x0.Files+1)}:aR).Files,Off:=x2.Off,Len:=x3.Len}:bI)).bind λy0=>if (!y0.1)=true then (some (.ret (.ret (.ret (.ret (8,y0.2.1,y0.2.2.1,y0.2.2.2.1,y0.2.2.2.2,(p0.Vols.set p1.Vol.toNat ({ x0 with State:=2})).set p1.Vol.toNat ({ ({ x0 with State:=2}:aR) with Files:=IntKind.wrap .i64 (x0.Files+1)}))))))) else some (.go (y0.2.1,y0.2.2.1,y0.2.2.2.1,y0.2.2.2.2,IntKind.wrap .i64 (q4+1)))) else some (.brk (q0,q1,q2,q3,q4))
def CL (m:Nat) (p0:aB) (p1:aP) (x0:aR) (r0:Int) (r1:List aQ) (q0:List aG) (q1:List aA) (q2:Int):Option (Lp ((List aG)×(List aA)×Int) (Lp (Int×fE) (Lp (Int×fE) (Lp (Int×fE) (Int×Int×fE))))):=
 if (decide (q2 < (p1.Items.length:Int)))=true then ((ix p1.Items q2).bind λx1=>after (if (x1.Kind==3)=true then ((ix p1.Items q2).bind λx2=>(J5 m ({ Seq:=r0,Snaps:=q0,Chunks:=q1,Exps:=r1,Vols:=(p0.Vols.set p1.Vol.toNat ({ x0 with State:=2})).set p1.Vol.toNat ({ ({ x0 with State:=2}:aR) with Files:=IntKind.wrap .i64 (x0.Files+1)})}:aB) x2.Of).bind λy0=>some (.brk (y0.2.1,y0.2.2))) else some (.brk (q0,q1)):Option (Lp ((List aG)×(List aA)) (Lp ((List aG)×(List aA)×Int) (Lp (Int×fE) (Lp (Int×fE) (Lp (Int×fE) (Int×Int×fE))))))) λ⟨j0,j1⟩=>some (.go (j0,j1,IntKind.wrap .i64 (q2+1)))) else some (.brk (q0,q1,q2))
def v9 (m:Nat) (p0:aB) (p1:aP) (x0:aR) (r0:Int) (r1:List aQ) (r2:List aG) (q0:List aA) (q1:Int):Option (Lp ((List aA)×Int) (Lp ((List aA)) (Lp (Int×fE) (Lp (Int×fE) (Lp (Int×fE) (Int×Int×fE)))))):=
 if (decide (q1 < (p1.Items.length:Int)))=true then ((ix p1.Items q1).bind λx1=>after (if (x1.Kind==1)=true then ((ix p1.Items q1).bind λx2=>(OS m ({ Seq:=r0,Snaps:=r2,Chunks:=q0,Exps:=r1,Vols:=(p0.Vols.set p1.Vol.toNat ({ x0 with State:=2})).set p1.Vol.toNat ({ ({ x0 with State:=2}:aR) with Files:=IntKind.wrap .i64 (x0.Files+1)})}:aB) x2.Id).bind λy0=>after (if (decide (0≤y0))=true then ((ix q0 y0).bind λx3=>(ix (q0.set y0.toNat ({ x3 with Staged:=false})) y0).bind λx4=>some (.brk ((q0.set y0.toNat ({ x3 with Staged:=false})).set y0.toNat ({ x4 with Data:=([]:List Int)})))) else some (.brk q0):Option (Lp ((List aA)) (Lp ((List aA)) (Lp ((List aA)×Int) (Lp ((List aA)) (Lp (Int×fE) (Lp (Int×fE) (Lp (Int×fE) (Int×Int×fE))))))))) λj0=>some (.brk j0)) else some (.brk q0):Option (Lp ((List aA)) (Lp ((List aA)×Int) (Lp ((List aA)) (Lp (Int×fE) (Lp (Int×fE) (Lp (Int×fE) (Int×Int×fE)))))))) λj1=>some (.go (j1,IntKind.wrap .i64 (q1+1)))) else some (.brk (q0,q1))
def wA (m:Nat) (p0:aB) (p1:aP) (q0:List aA) (q1:Int):Option (Lp ((List aA)×Int) (Lp (fE) (Lp (Int×fE) (Lp (Int×fE) (Lp (Int×fE) (Int×Int×fE)))))):=
 if (decide (q1 < (p0.Chunks.length:Int)))=true then ((ix p0.Chunks q1).bind λx0=>(HB m x0.Locs p1.Vol).bind λy0=>after (if ({ x0 with Locs:=y0}.Staged)=true then (some (.brk true)) else some (.brk (decide (0 < (({ x0 with Locs:=y0}.Locs).length:Int)))):Option (Lp (Bool) (Lp ((List aA)×Int) (Lp (fE) (Lp (Int×fE) (Lp (Int×fE) (Lp (Int×fE) (Int×Int×fE)))))))) λj0=>after (if j0=true then ((app q0 ([{ x0 with Locs:=y0}]:List aA)).bind λz0=>some (.brk z0)) else some (.brk q0):Option (Lp ((List aA)) (Lp ((List aA)×Int) (Lp (fE) (Lp (Int×fE) (Lp (Int×fE) (Lp (Int×fE) (Int×Int×fE)))))))) λj1=>some (.go (j1,IntKind.wrap .i64 (q1+1)))) else some (.brk (q0,q1))
def wB (m:Nat) (p1:aP) (q0:List aG) (q1:Int):Option (Lp ((List aG)×Int) (Lp (fE) (Lp (Int×fE) (Lp (Int×fE) (Lp (Int×fE) (Int×Int×fE)))))):=
 if (decide (q1 < (q0.length:Int)))=true then ((ix q0 q1).bind λx0=>(HB m x0.Locs p1.Vol).bind λy0=>(ix q0 q1).bind λx1=>some (.go (q0.set q1.toNat ({ x1 with Locs:=y0}),IntKind.wrap .i64 (q1+1)))) else some (.brk (q0,q1))
def wC (m:Nat) (p0:aB) (p1:aP) (q0:List aQ) (q1:Int):Option (Lp ((List aQ)×Int) (Lp (fE) (Lp (Int×fE) (Lp (Int×fE) (Lp (Int×fE) (Int×Int×fE)))))):=
 if (decide (q1 < (p0.Exps.length:Int)))=true then ((ix p0.Exps q1).bind λx0=>(HB m x0.Locs p1.Vol).bind λy0=>after (if (decide (0 < (({ x0 with Locs:=y0}.Locs).length:Int)))=true then ((app q0 ([{ x0 with Locs:=y0}]:List aQ)).bind λz0=>some (.brk z0)) else some (.brk q0):Option (Lp ((List aQ)) (Lp ((List aQ)×Int) (Lp (fE) (Lp (Int×fE) (Lp (Int×fE) (Lp (Int×fE) (Int×Int×fE)))))))) λj0=>some (.go (j0,IntKind.wrap .i64 (q1+1)))) else some (.brk (q0,q1))
def V1 (m:Nat) (p0:aB) (p1:aP):Option (Int×Int×fE):=
 after (if (p1.Kind==1)=true then (after (if (p1.Snap.Seq==p0.Seq)=true then (some (.brk ((p1.Snap.Locs.length:Int)==0))) else some (.brk false):Option (Lp (Bool) (Lp (Int×fE) (Int×Int×fE)))) λj0=>after (aT (λs=>yH m p1 s.1 s.2) m (j0,0)) λ⟨r0,r1⟩=>if (!r0)=true then (some (.ret (1,p0.Seq,p0.Snaps,p0.Chunks,p0.Exps,p0.Vols))) else (zM m ({ Seq:=p0.Seq,Snaps:=p0.Snaps,Chunks:=p0.Chunks,Exps:=p0.Exps,Vols:=p0.Vols}:aB) p1.Snap.Man.Name).bind λy0=>if (decide (0≤y0))=true then (some (.ret (9,p0.Seq,p0.Snaps,p0.Chunks,p0.Exps,p0.Vols))) else (app p0.Snaps ([p1.Snap]:List aG)).bind λz0=>after (aT (λs=>yI m p1 s.1 s.2) m (p0.Chunks,0)) λ⟨r2,r3⟩=>some (.brk (IntKind.wrap .i64 (p0.Seq+1),z0,r2,p0.Exps,p0.Vols))) else after (if (p1.Kind==2)=true then ((J5 m ({ Seq:=p0.Seq,Snaps:=p0.Snaps,Chunks:=p0.Chunks,Exps:=p0.Exps,Vols:=p0.Vols}:aB) p1.Seq).bind λy1=>if (!y1.1)=true then (some (.ret (.ret (8,p0.Seq,y1.2.1,y1.2.2,p0.Exps,p0.Vols)))) else some (.brk (p0.Seq,y1.2.1,y1.2.2,p0.Exps,p0.Vols))) else after (if (p1.Kind==3)=true then (after ((HC m ({ Seq:=p0.Seq,Snaps:=p0.Snaps,Chunks:=p0.Chunks,Exps:=p0.Exps,Vols:=p0.Vols}:aB) p1.Vol 1 2).bind λy2=>if y2=true then (if (decide (1≤(p1.Items.length:Int)))=true then (some (.brk (decide ((p1.Items.length:Int)≤64)))) else some (.brk false)) else some (.brk false):Option (Lp (Bool) (Lp (Int×fE) (Lp (Int×fE) (Lp (Int×fE) (Int×Int×fE)))))) λj1=>after (aT (λs=>CJ m p1 s.1 s.2) m (j1,0)) λ⟨r4,r5⟩=>if (!r4)=true then (some (.ret (.ret (.ret (1,p0.Seq,p0.Snaps,p0.Chunks,p0.Exps,p0.Vols))))) else (ix p0.Vols p1.Vol).bind λx0=>after (aT (λs=>CK m p0 p1 x0 s.1 s.2.1 s.2.2.1 s.2.2.2.1 s.2.2.2.2) m (p0.Seq,p0.Snaps,p0.Chunks,p0.Exps,0)) λ⟨r6,r7,r8,r9,r10⟩=>after (aT (λs=>CL m p0 p1 x0 r6 r9 s.1 s.2.1 s.2.2) m (r7,r8,0)) λ⟨r11,r12,r13⟩=>after (if ((({ ({ x0 with State:=2}:aR) with Files:=IntKind.wrap .i64 (x0.Files+1)}:aR).Pool)==0)=true then (after (aT (λs=>v9 m p0 p1 x0 r6 r9 r11 s.1 s.2) m (r12,0)) λ⟨r14,r15⟩=>some (.brk r14)) else some (.brk r12):Option (Lp ((List aA)) (Lp (Int×fE) (Lp (Int×fE) (Lp (Int×fE) (Int×Int×fE)))))) λj2=>some (.brk (r6,r11,j2,r9,(p0.Vols.set p1.Vol.toNat ({ x0 with State:=2})).set p1.Vol.toNat ({ ({ x0 with State:=2}:aR) with Files:=IntKind.wrap .i64 (x0.Files+1)})))) else after (if (p1.Kind==4)=true then ((HC m ({ Seq:=p0.Seq,Snaps:=p0.Snaps,Chunks:=p0.Chunks,Exps:=p0.Exps,Vols:=p0.Vols}:aB) p1.Vol 2 2).bind λy3=>if (!y3)=true then (some (.ret (.ret (.ret (.ret (1,p0.Seq,p0.Snaps,p0.Chunks,p0.Exps,p0.Vols)))))) else (ix p0.Vols p1.Vol).bind λx1=>(ix (p0.Vols.set p1.Vol.toNat ({ x1 with State:=3})) p1.Vol).bind λx2=>after (aT (λs=>wA m p0 p1 s.1 s.2) m ([],0)) λ⟨r16,r17⟩=>after (aT (λs=>wB m p1 s.1 s.2) m (p0.Snaps,0)) λ⟨r18,r19⟩=>after (aT (λs=>wC m p0 p1 s.1 s.2) m ([],0)) λ⟨r20,r21⟩=>some (.brk (r18,r16,r20,(p0.Vols.set p1.Vol.toNat ({ x1 with State:=3})).set p1.Vol.toNat ({ x2 with Files:=0})))) else after (if (p1.Kind==5)=true then ((HC m ({ Seq:=p0.Seq,Snaps:=p0.Snaps,Chunks:=p0.Chunks,Exps:=p0.Exps,Vols:=p0.Vols}:aB) p1.Vol 3 3).bind λy4=>if (!y4)=true then (some (.ret (.ret (.ret (.ret (.ret (1,p0.Seq,p0.Snaps,p0.Chunks,p0.Exps,p0.Vols))))))) else (ix p0.Vols p1.Vol).bind λx3=>(ix p0.Vols p1.Vol).bind λx4=>(ix (p0.Vols.set p1.Vol.toNat ({ x4 with State:=1})) p1.Vol).bind λx5=>some (.brk ((p0.Vols.set p1.Vol.toNat ({ x4 with State:=1})).set p1.Vol.toNat ({ x5 with Epoch:=IntKind.wrap .i64 (x3.Epoch+1)})))) else some (.brk p0.Vols):Option (Lp ((List aR)) (Lp (fE) (Lp (Int×fE) (Lp (Int×fE) (Lp (Int×fE) (Int×Int×fE))))))) λj3=>some (.brk (p0.Snaps,p0.Chunks,p0.Exps,j3)):Option (Lp (fE) (Lp (Int×fE) (Lp (Int×fE) (Lp (Int×fE) (Int×Int×fE)))))) λ⟨j4,j5,j6,j7⟩=>some (.brk (p0.Seq,j4,j5,j6,j7)):Option (Lp (Int×fE) (Lp (Int×fE) (Lp (Int×fE) (Int×Int×fE))))) λ⟨j8,j9,j10,j11,j12⟩=>some (.brk (j8,j9,j10,j11,j12)):Option (Lp (Int×fE) (Lp (Int×fE) (Int×Int×fE)))) λ⟨j13,j14,j15,j16,j17⟩=>some (.brk (j13,j14,j15,j16,j17)):Option (Lp (Int×fE) (Int×Int×fE))) λ⟨j18,j19,j20,j21,j22⟩=>some (0,j18,j19,j20,j21,j22)
theorem W91 {w:Nat} {p0:aB} {p1:aP} {o:Int×Int×fE} (h:aF) {p0K:cB} {gS:cR} (ok_Snaps:bK gS 4 p0.Snaps.length) {gC:cR} (oC:bK gC 35 p0.Chunks.length) {gE:cR} (oE:bK gE 3 p0.Exps.length) {gV:cR} (oV:bK gV 4 p0.Vols.length) (K0:bV h (hC p0K p0 gS gC gE gV)) (m:V1 w p0 p1=some o):
 aL Tryz.prog 91 [.ptr p0K 0,.agg (aD p1)] (hp h (hC p0K p0 gS gC gE gV)) (λr h'=>∃g_Snaps':cR,bK g_Snaps' 4 (o.2.2.1:List aG).length∧∃g_Chunks':cR,bK g_Chunks' 35 (o.2.2.2.1:List aA).length∧∃g_Exps':cR,bK g_Exps' 3 (o.2.2.2.2.1:List aQ).length∧∃g_Vols':cR,bK g_Vols' 4 (o.2.2.2.2.2:List aR).length∧bV h (hL p0K o.2.1 g_Snaps' g_Chunks' g_Exps' g_Vols' o.2.2.1 o.2.2.2.1 o.2.2.2.2.1 o.2.2.2.2.2)∧r=nZ o.1∧h'=hp h (hL p0K o.2.1 g_Snaps' g_Chunks' g_Exps' g_Vols' o.2.2.1 o.2.2.2.1 o.2.2.2.2.1 o.2.2.2.2.2)):=by
 refine tH K0 443 [.tmp 4] Tryz.func91 rfl rfl rfl rfl ?_
 unfold V1 at m
 refine vs (v0 (gG rfl rfl λk2 K3=>vs (vs (v0 (dM B0 rfl rfl (vl 0 _ bX rfl rfl rfl (v0 (vs (v0 (o6 m (σ:=Int×fE) (τ:=cR×cR×cR×cR) (λg s=>((some k2,.obj 62 (aD p1))::(hL p0K s.1 g.1 g.2.1 g.2.2.1 g.2.2.2 s.2.1 s.2.2.1 s.2.2.2.1 s.2.2.2.2))) (λg s=>bK g.1 4 (s.2.1:List aG).length∧bK g.2.1 35 (s.2.2.1:List aA).length∧bK g.2.2.1 3 (s.2.2.2.1:List aQ).length∧bK g.2.2.2 4 (s.2.2.2.2:List aR).length) (λg s=>.nil) (λx m=> ?_) ?_))))))))))
 refine v0 ?_
 apply vi m <;> intro c0 m
 refine vs (fB m (σ:=Bool) (λs=>((some k2,.obj 62 (aD p1))::(hC p0K p0 gS gC gE gV))) (λs=>.c 0 (.ptr p0K 0) (.c 3 (.ptr k2 0) (.c 5 (.sc (.bool s)) .nil))) (λx m=> ?_) ?_)
 refine v0 (vU (by kernel_rfl) (dM kT rfl rfl (dM uA rfl rfl (vl 0 _ bX rfl rfl rfl (jL rfl (dM nD rfl rfl (vl 1 _ bX rfl rfl rfl ?_)))))))
 apply vi m <;> intro b0 m
 rw[b0]
 exact dM kT rfl rfl (dM jP rfl rfl (vl 0 _ e8 rfl rfl rfl (cZ iC rfl (gH m))))
 rw[b0]
 exact gH m
 rintro _ j0 m
 refine vs (vs (v0 (iI m (σ:=Bool×Int) (λs=>((some k2,.obj 62 (aD p1))::(hC p0K p0 gS gC gE gV))) (λs=>.c 0 (.ptr p0K 0) (.c 3 (.ptr k2 0) (.c 5 (.sc (.bool s.1)) (.c 6 (nZ s.2) .nil)))) (lx (.k4 .nil)) ?_ ?_)))
 rintro _ ⟨q0,q1⟩ x m
 replace m:yH w p1 q0 q1=some x:=m
 unfold yH at m
 refine vs (vs (v0 (dM mS rfl rfl (vl 0 _ eD rfl rfl rfl (cZ hM rfl (v0 ?_))))))
 apply vi m <;> intro c1 m
 refine v0 (vs (v0 (fB m (σ:=Bool) (λs=>((some k2,.obj 62 (aD p1))::(hC p0K p0 gS gC gE gV))) (λs=>.c 0 (.ptr p0K 0) (.c 3 (.ptr k2 0) (.c 5 (.sc (.bool s)) (.c 6 (nZ q1) .nil)))) (λx m=> ?_) ?_)))
 refine v0 ?_
 apply vi m <;> intro b1 m
 rw[b1]
 refine dM mS rfl rfl (vl 0 _ eD rfl rfl rfl (vx m eU rfl rfl λx0 _ m=>bU (oY n5 rfl rfl) (va (.sc (.bool x0.Staged)) BW rfl rfl ?_)))
 apply vi m <;> intro b2 m
 rw[b2]
 exact dM mS rfl rfl (vl 0 _ eD rfl rfl rfl (vx m eU rfl rfl λx1 _ m=>bU (oY iW rfl rfl) (va (.sl none 4 (List.map aM x1.Locs)) e8 rfl rfl (cZ iC rfl (fR m)))))
 rw[b2]
 exact fR m
 rw[b1]
 exact fR m
 rintro _ j1 m
 exact v0 (fR m)
 exact v0 (vN m)
 rintro _ ⟨r0,r1⟩ m
 refine vs (vs (v0 (v0 ?_)))
 apply vi m <;> intro c2 m
 refine vs (v0 (v0 (fO m λm=> ?_)))
 cases m
 exact vr λu=>dX.of1 (.inl rfl) (fU _ _ (.sc (.int _ _)) rfl) (bG u [1,2,3,4,5] rfl).2 (bH.refl _ _) ⟨gS,ok_Snaps,gC,oC,gE,oE,gV,oV,(bG u [1,2,3,4,5] rfl).1,rfl,rfl⟩
 refine v0 (vs (vs (v0 (vU (by kernel_rfl) (jL rfl (vl 1 (.agg ([nZ p0.Seq,aZ gS,aZ gC,aZ gE,aZ gV])) eV rfl rfl rfl (dM kT rfl rfl (dM n6 rfl rfl (dM LQ rfl rfl (vl 0 _ tI rfl rfl rfl ?_))))))))))
 obtain⟨_,Y0,m⟩:=aC m
 refine vn (λu=>bZ (fH (.cons (Br.agg (.cons (Br.refl _ _) (.cons (Br.aw 2 eM ok_Snaps u rfl) (.cons (Br.aw 3 cO oC u rfl) (.cons (Br.aw 4 fM oE u rfl) (.cons (Br.aw 5 eC oV u rfl) .nil)))))) (.cons (Br.refl _ _) .nil)) rfl (TP _ Y0)) rfl MB rfl) (v0 ?_)
 apply vi m <;> intro c3 m
 refine vs (v0 (v0 (fO m λm=> ?_)))
 cases m
 exact vr λu=>dX.of1 (.inl rfl) (fU _ _ (.sc (.int _ _)) rfl) (bG u [1,2,3,4,5] rfl).2 (bH.refl _ _) ⟨gS,ok_Snaps,gC,oC,gE,oE,gV,oV,(bG u [1,2,3,4,5] rfl).1,rfl,rfl⟩
 refine v0 (vs (v0 (jL rfl (dM nD rfl rfl (vl 1 _ bX rfl rfl rfl (jL rfl (dM nD rfl rfl (ve λu=>aK 1 ([nZ (IntKind.wrap .i64 (p0.Seq+1)),aZ gS,aZ gC,aZ gE,aZ gV]) u rfl rfl rfl rfl yT rfl rfl λK1=>qk K1 rfl (vs (v0 (vz [(11,some p0K,.obj 30 ([nZ (IntKind.wrap .i64 (p0.Seq+1)),aZ gS,aZ gC,aZ gE,aZ gV])),(1000000,some k2,.obj 62 (aD p1))] mixed (λu=>⟨λ_=>aI 1 u rfl,λ_=>aI 0 u rfl,trivial⟩) λu=>zP 0 rfl rfl (zP 1 rfl rfl (zN 2 rfl rfl (zF 3 rfl dW rfl (zL 4 0 (aZ gS) rfl eK rfl rfl rfl (zF 5 rfl kT rfl (zL 6 1 (.agg (bP p1.Snap)) rfl qR rfl rfl rfl (zC 7 rfl (eO (List.map bP ([p1.Snap]:List aG)) vO rfl rfl rfl rfl) ?_))))))))))))))))))
 obtain⟨z0,Z0,m⟩:=aC m
 refine zE 8 rfl (f8 (c:=bP) 2 Z0 vO rfl uB rfl eM rfl rfl ok_Snaps u rfl λag0 O0 K2=>⟨⟨λ_=>aI 1 K2 rfl,λ_=>aI 0 K2 rfl,trivial⟩, ?_⟩)
 refine zN 9 rfl rfl (zF 10 rfl dW rfl (zE 11 rfl (aK 1 ([nZ (IntKind.wrap .i64 (p0.Seq+1)),aZ ag0,aZ gC,aZ gE,aZ gV]) K2 rfl rfl (cC rfl) (cE (bY _ _ _) rfl) F8 rfl rfl λK4=>⟨⟨λe=>absurd e (by decide),λ_=>aI 0 K4 rfl,trivial⟩, ?_⟩)))
 refine zX (qk (f:=SX 95 _ _ _ _ _ _ _ _ _ _ _ _) K4 rfl (vs (v0 (nC m (σ:=(List aA)×Int) (τ:=cR) (λg s=>((some k2,.obj 62 (aD p1))::(hL p0K (IntKind.wrap .i64 (p0.Seq+1)) ag0 g gE gV z0 s.1 p0.Exps p0.Vols))) (λg s=>bK g 35 (s.1:List aA).length) (λg s=>.c 0 (.ptr p0K 0) (.c 3 (.ptr k2 0) (.c 7 (nZ s.2) .nil))) gC oC (lx (.k3 .nil)) ?_ ?_))))
 rintro ag1 ⟨q2,q3⟩ x O1 m
 replace m:yI w p1 q2 q3=some x:=m
 unfold yI at m
 refine vs (vs (v0 (dM mS rfl rfl (vl 0 _ eD rfl rfl rfl (cZ hM rfl (v0 ?_))))))
 apply vi m <;> intro c4 m
 refine v0 (vs (v0 (v0 (vz [(13,some p0K,.obj 30 ([nZ (IntKind.wrap .i64 (p0.Seq+1)),aZ ag0,aZ ag1,aZ gE,aZ gV])),(1000000,some k2,.obj 62 (aD p1))] mixed (λu=>⟨λ_=>aI 1 u rfl,λ_=>aI 0 u rfl,trivial⟩) λu=>zP 0 rfl rfl (zP 1 rfl rfl (zN 2 rfl rfl (zF 3 rfl dZ rfl (zL 4 0 (aZ ag1) rfl eD rfl rfl rfl (zF 5 rfl mS rfl (zL 6 1 (.sl none 35 (List.map aH p1.Chunks)) rfl eD rfl rfl rfl (zI 7 rfl rfl ?_)))))))))))
 obtain⟨x2,X0,m⟩:=aC m
 refine zC 8 rfl (l8 X0 eU rfl rfl) (zC 9 rfl (mN (.agg (aH x2)) lS rfl rfl) ?_)
 obtain⟨_,Y1,m⟩:=aC m
 refine zE 10 rfl (w9 (s:=107) (.sl none 35 (List.map aH q2)) (aS (.cons_cons _ (.cons_cons _ (.cons_cons _ (.cons _ (.refl _))))) u).1 (Fz.aw 3 cO O1 u rfl (.refl _)) (cK (aAW _ Y1) rfl aAX rfl ?_))
 rintro x h' ⟨ag2,O2,K5,rfl,rfl⟩
 rw[iU]
 refine⟨⟨λ_=>aI 2 (bV.co ((aS (.cons_cons _ (.cons_cons _ (.cons_cons _ (.cons _ (.refl _))))) u).2) K5) rfl,λ_=>aI 1 (bV.co ((aS (.cons_cons _ (.cons_cons _ (.cons_cons _ (.cons _ (.refl _))))) u).2) K5) rfl,trivial⟩, ?_⟩
 refine zN 11 rfl rfl (zF 12 rfl dZ rfl (zE 13 rfl (aK 2 ([nZ (IntKind.wrap .i64 (p0.Seq+1)),aZ ag0,aZ ag2,aZ gE,aZ gV]) (bV.co ((aS (.cons_cons _ (.cons_cons _ (.cons_cons _ (.cons _ (.refl _))))) u).2) K5) rfl rfl (cC rfl) (cE (bY _ _ _) rfl) yX rfl rfl λK6=>⟨⟨λe=>absurd e (by decide),λ_=>aI 1 K6 rfl,trivial⟩, ?_⟩)))
 exact zX (qk (f:=SY 115 _ _ _ _ _ _ _ _ _ _ _ _ _ _) K6 rfl (v0 (eY m ag2 O2 (kP [1,2,3,0,4,5] rfl rfl (.k3 .nil)))))
 exact v0 (lA m ag1 O1 (lx (.k3 .nil)))
 rintro ag3 ⟨r2,r3⟩ t0 m
 exact eY m (ag0,ag3,gE,gV) ⟨O0,t0,oE,oV⟩ (lx .nil)
 refine vs (v0 (o6 m (σ:=Int×fE) (τ:=cR×cR×cR×cR) (λg s=>((some k2,.obj 62 (aD p1))::(hL p0K s.1 g.1 g.2.1 g.2.2.1 g.2.2.2 s.2.1 s.2.2.1 s.2.2.2.1 s.2.2.2.2))) (λg s=>bK g.1 4 (s.2.1:List aG).length∧bK g.2.1 35 (s.2.2.1:List aA).length∧bK g.2.2.1 3 (s.2.2.2.1:List aQ).length∧bK g.2.2.2 4 (s.2.2.2.2:List aR).length) (λg s=>.nil) (λx m=> ?_) ?_))
 refine v0 ?_
 apply vi m <;> intro c5 m
 refine vs (v0 (dM S8 rfl rfl (vl 0 _ bX rfl rfl rfl ?_)))
 obtain⟨y0,Y2,m⟩:=aC m
 refine ve λu=>dA ((bC u [1,2,3,4,5,0] rfl rfl).1.trans (cT h (hC p0K p0 gS gC gE gV) [(some k2,.obj 62 (aD p1))]).symm) (cK (aAZ (hp h [(some k2,.obj 62 (aD p1))]) ok_Snaps oC oE oV (cJ (hC p0K p0 gS gC gE gV) [(some k2,.obj 62 (aD p1))] (bC u [1,2,3,4,5,0] rfl rfl).2).2 Y2) rfl R7 rfl ?_)
 rintro x h' ⟨ag4,O3,ag5,O4,K7,rfl,rfl⟩
 have K8:=bC (L':=((some k2,.obj 62 (aD p1))::(hL p0K p0.Seq ag4 ag5 gE gV y0.2.1 y0.2.2 p0.Exps p0.Vols))) (dG (cJ (hC p0K p0 gS gC gE gV) [(some k2,.obj 62 (aD p1))] (bC u [1,2,3,4,5,0] rfl rfl).2).1 K7) [5,0,1,2,3,4] rfl rfl
 refine qk K8.2 ((cT h (hL p0K p0.Seq ag4 ag5 gE gV y0.2.1 y0.2.2 p0.Exps p0.Vols) [(some k2,.obj 62 (aD p1))]).trans K8.1) (v0 ?_)
 apply vi m <;> intro c6 m
 refine vs (v0 (v0 (fO m λm=>fO m λm=> ?_)))
 cases m
 exact vr λu=>dX.of1 (.inl rfl) (fU _ _ (.sc (.int _ _)) rfl) (bG u [1,2,3,4,5] rfl).2 (bH.refl _ _) ⟨ag4,O3,ag5,O4,gE,oE,gV,oV,(bG u [1,2,3,4,5] rfl).1,rfl,rfl⟩
 exact v0 (eY m (ag4,ag5,gE,gV) ⟨O3,O4,oE,oV⟩ (lx .nil))
 refine vs (v0 (o6 m (σ:=Int×fE) (τ:=cR×cR×cR×cR) (λg s=>((some k2,.obj 62 (aD p1))::(hL p0K s.1 g.1 g.2.1 g.2.2.1 g.2.2.2 s.2.1 s.2.2.1 s.2.2.2.1 s.2.2.2.2))) (λg s=>bK g.1 4 (s.2.1:List aG).length∧bK g.2.1 35 (s.2.2.1:List aA).length∧bK g.2.2.1 3 (s.2.2.2.1:List aQ).length∧bK g.2.2.2 4 (s.2.2.2.2:List aR).length) (λg s=>.nil) (λx m=> ?_) ?_))
 refine v0 ?_
 apply vi m <;> intro c7 m
 refine vs (fB m (σ:=Bool) (λs=>((some k2,.obj 62 (aD p1))::(hC p0K p0 gS gC gE gV))) (λs=>.c 0 (.ptr p0K 0) (.c 3 (.ptr k2 0) (.c 8 (.sc (.bool s)) .nil))) (λx m=> ?_) ?_)
 refine v0 (dM fI rfl rfl (vl 0 _ bX rfl rfl rfl ?_))
 obtain⟨_,Y3,m⟩:=aC m
 refine ve λu=>dA ((bC u [1,2,3,4,5,0] rfl rfl).1.trans (cT h (hC p0K p0 gS gC gE gV) [(some k2,.obj 62 (aD p1))]).symm) (cK (UL (hp h [(some k2,.obj 62 (aD p1))]) ok_Snaps oC oE oV (cJ (hC p0K p0 gS gC gE gV) [(some k2,.obj 62 (aD p1))] (bC u [1,2,3,4,5,0] rfl rfl).2).2 Y3) rfl NN rfl ?_)
 rintro x h' ⟨K9,rfl,rfl⟩
 have K10:=bC (L':=((some k2,.obj 62 (aD p1))::(hC p0K p0 gS gC gE gV))) (dG (cJ (hC p0K p0 gS gC gE gV) [(some k2,.obj 62 (aD p1))] (bC u [1,2,3,4,5,0] rfl rfl).2).1 K9) [5,0,1,2,3,4] rfl rfl
 refine qk K10.2 ((cT h (hC p0K p0 gS gC gE gV) [(some k2,.obj 62 (aD p1))]).trans K10.1) ?_
 apply vi m <;> intro b3 m
 rw[b3]
 refine dM gN rfl rfl (vl 0 _ jZ rfl rfl rfl (cZ n3 rfl ?_))
 apply vi m <;> intro b4 m
 rw[b4]
 exact dM gN rfl rfl (vl 0 _ jZ rfl rfl rfl (cZ n3 rfl (gH m)))
 rw[b4]
 exact gH m
 rw[b3]
 exact gH m
 rintro _ j2 m
 refine vs (vs (v0 (iI m (σ:=Bool×Int) (λs=>((some k2,.obj 62 (aD p1))::(hC p0K p0 gS gC gE gV))) (λs=>.c 0 (.ptr p0K 0) (.c 3 (.ptr k2 0) (.c 8 (.sc (.bool s.1)) (.c 9 (nZ s.2) .nil)))) (lx (.k4 .nil)) ?_ ?_)))
 rintro _ ⟨q4,q5⟩ x m
 replace m:CJ w p1 q4 q5=some x:=m
 unfold CJ at m
 refine vs (vs (v0 (dM gN rfl rfl (vl 0 _ jZ rfl rfl rfl (cZ n3 rfl (v0 ?_))))))
 apply vi m <;> intro c8 m
 refine v0 (vs (v0 (fB m (σ:=Bool) (λs=>((some k2,.obj 62 (aD p1))::(hC p0K p0 gS gC gE gV))) (λs=>.c 0 (.ptr p0K 0) (.c 3 (.ptr k2 0) (.c 8 (.sc (.bool s)) (.c 9 (nZ q5) .nil)))) (λx m=> ?_) ?_)))
 refine v0 ?_
 apply vi m <;> intro b5 m
 rw[b5]
 refine dM gN rfl rfl (vl 0 _ jZ rfl rfl rfl (vx m rT rfl rfl λx3 _ m=>bU (oY lR rfl rfl) (va (nZ x3.Kind) bX rfl rfl ?_)))
 apply vi m <;> intro b6 m
 rw[b6]
 exact dM gN rfl rfl (vl 0 _ jZ rfl rfl rfl (vx m rT rfl rfl λx4 _ m=>bU (oY lR rfl rfl) (va (nZ x4.Kind) bX rfl rfl (fR m))))
 rw[b6]
 exact fR m
 rw[b5]
 exact fR m
 rintro _ j3 m
 exact v0 (fR m)
 exact v0 (vN m)
 rintro _ ⟨r4,r5⟩ m
 refine vs (vs (v0 (v0 ?_)))
 apply vi m <;> intro c9 m
 refine vs (v0 (v0 (fO m λm=>fO m λm=>fO m λm=> ?_)))
 cases m
 exact vr λu=>dX.of1 (.inl rfl) (fU _ _ (.sc (.int _ _)) rfl) (bG u [1,2,3,4,5] rfl).2 (bH.refl _ _) ⟨gS,ok_Snaps,gC,oC,gE,oE,gV,oV,(bG u [1,2,3,4,5] rfl).1,rfl,rfl⟩
 refine v0 (vs (v0 (vU (by kernel_rfl) (jL rfl (dM fS rfl rfl (vl 1 (aZ gV) iK rfl rfl rfl (dM fI rfl rfl (vl 0 _ bX rfl rfl rfl ?_))))))))
 obtain⟨x5,X1,m⟩:=aC m
 refine bU (cL X1 lG oV rfl rfl) (vs (v0 (bU (iV (bK.ne oV X1) rfl) (bU (cS (bK.ne oV X1) pF rfl rfl) (vn (λu=>dY (fo:=3) (nZ x5.Files) X1 eC oV bX rfl (aI 5 u rfl) (λ_=>rfl)) (bU (iV (bK.ne oV X1) rfl) (bU (cS (bK.ne oV X1) mR rfl rfl) (ve λu=>cI (fo:=2) ({ x5 with State:=2}:aR) 5 u X1 eC oV rfl rfl rfl rfl (cU.refl _ _) yT rfl rfl λK11=>qk K11 rfl (bU (iV (bK.ne (bK.set oV) (dE (x':=({ x5 with State:=2}:aR)) X1)) rfl) (bU (cS (bK.ne (bK.set oV) (dE (x':=({ x5 with State:=2}:aR)) X1)) pF rfl rfl) (ve λu=>cI (fo:=3) ({ ({ x5 with State:=2}:aR) with Files:=IntKind.wrap .i64 (x5.Files+1)}:aR) 5 u (dE (x':=({ x5 with State:=2}:aR)) X1) eC (bK.set oV) rfl rfl rfl rfl (cU.refl _ _) yT rfl rfl λK12=>qk K12 rfl (vs (vs (v0 (nC m (σ:=Int×(List aG)×(List aA)×(List aQ)×Int) (τ:=cR×cR×cR) (λg s=>((some k2,.obj 62 (aD p1))::(hL p0K s.1 g.1 g.2.1 g.2.2 gV s.2.1 s.2.2.1 s.2.2.2.1 ((p0.Vols.set p1.Vol.toNat ({ x5 with State:=2})).set p1.Vol.toNat ({ ({ x5 with State:=2}:aR) with Files:=IntKind.wrap .i64 (x5.Files+1)}))))) (λg s=>bK g.1 4 (s.2.1:List aG).length∧bK g.2.1 35 (s.2.2.1:List aA).length∧bK g.2.2 3 (s.2.2.2.1:List aQ).length) (λg s=>.c 0 (.ptr p0K 0) (.c 3 (.ptr k2 0) (.c 10 (vK gV.t (p1.Vol.toNat*4+0)) (.c 11 (nZ s.2.2.2.2) .nil)))) (gS,gC,gE) (⟨ok_Snaps,oC,oE⟩) (lx (.k4 .nil)) ?_ ?_)))))))))))))))
 rintro⟨ag6,ag7,ag8⟩ ⟨q6,q7,q8,q9,q10⟩ x ⟨O5,O6,O7⟩ m
 replace m:CK w p0 p1 x5 q6 q7 q8 q9 q10=some x:=m
 unfold CK at m
 refine vs (vs (v0 (dM gN rfl rfl (vl 0 _ jZ rfl rfl rfl (cZ n3 rfl (v0 ?_))))))
 apply vi m <;> intro c10 m
 refine v0 (vs (v0 (vs (v0 (vz [(1000000,some k2,.obj 62 (aD p1)),(1000000,gV.t,.obj 49 (fl cG ((p0.Vols.set p1.Vol.toNat ({ x5 with State:=2})).set p1.Vol.toNat ({ ({ x5 with State:=2}:aR) with Files:=IntKind.wrap .i64 (x5.Files+1)}):List aR) gV.sp))] mixed (λu=>⟨λ_=>aI 0 u rfl,λ_=>aI 5 u rfl,trivial⟩) λu=>zP 0 rfl rfl (zF 1 rfl gN rfl (zL 2 0 (.sl none 37 (List.map aY p1.Items)) rfl jZ rfl rfl rfl (zI 3 rfl rfl ?_))))))))
 obtain⟨x6,X2,m⟩:=aC m
 refine zC 4 rfl (l8 X2 rT rfl rfl) (zC 5 rfl (mN (.agg (aY x6)) GA rfl rfl) (zF 6 rfl fI rfl (zL 7 0 (nZ p1.Vol) rfl bX rfl rfl rfl (zC 8 rfl (eW (vK _ _) rfl) (zC 9 rfl (iV (bK.ne (bK.set (bK.set oV)) (dE (x':=({ ({ x5 with State:=2}:aR) with Files:=IntKind.wrap .i64 (x5.Files+1)}:aR)) (dE (x':=({ x5 with State:=2}:aR)) X1))) rfl) (zC 10 rfl (cS (bK.ne (bK.set (bK.set oV)) (dE (x':=({ ({ x5 with State:=2}:aR) with Files:=IntKind.wrap .i64 (x5.Files+1)}:aR)) (dE (x':=({ x5 with State:=2}:aR)) X1))) pF rfl rfl) (vL 11 rfl (λ_ _ hi hB=>dY (fo:=3) (nZ (({ ({ x5 with State:=2}:aR) with Files:=IntKind.wrap .i64 (x5.Files+1)}:aR).Files)) (dE (x':=({ ({ x5 with State:=2}:aR) with Files:=IntKind.wrap .i64 (x5.Files+1)}:aR)) (dE (x':=({ x5 with State:=2}:aR)) X1)) eC (bK.set (bK.set oV)) bX rfl (fW.get 1 hi rfl (hB 1000000 (by kernel_rfl))) (λ_=>rfl)) (zF 12 rfl gN rfl (zL 13 0 (.sl none 37 (List.map aY p1.Items)) rfl jZ rfl rfl rfl (zI 14 rfl rfl ?_))))))))))
 obtain⟨x7,X3,m⟩:=aC m
 refine zC 15 rfl (l8 X3 rT rfl rfl) (zC 16 rfl (oY GB rfl rfl) (zC 17 rfl (mN (nZ x7.Off) bX rfl rfl) (zF 18 rfl gN rfl (zL 19 0 (.sl none 37 (List.map aY p1.Items)) rfl jZ rfl rfl rfl (zI 20 rfl rfl ?_)))))
 obtain⟨x8,X4,m⟩:=aC m
 refine zC 21 rfl (l8 X4 rT rfl rfl) (zC 22 rfl (oY GC rfl rfl) (zC 23 rfl (mN (nZ x8.Len) bX rfl rfl) (zC 24 rfl (fG (aM ({ Vol:=p1.Vol,File:=({ ({ x5 with State:=2}:aR) with Files:=IntKind.wrap .i64 (x5.Files+1)}:aR).Files,Off:=x7.Off,Len:=x8.Len}:bI)) W5 rfl) ?_)))
 obtain⟨y1,Y4,m⟩:=aC m
 refine zE 25 rfl (dA ((bC u [1,2,3,4,5,0] rfl rfl).1.trans (cT h (hL p0K q6 ag6 ag7 ag8 gV q7 q8 q9 ((p0.Vols.set p1.Vol.toNat ({ x5 with State:=2})).set p1.Vol.toNat ({ ({ x5 with State:=2}:aR) with Files:=IntKind.wrap .i64 (x5.Files+1)}))) [(some k2,.obj 62 (aD p1))]).symm) (cK (aGA (hp h [(some k2,.obj 62 (aD p1))]) O5 O6 O7 (bK.set (bK.set oV)) (cJ (hL p0K q6 ag6 ag7 ag8 gV q7 q8 q9 ((p0.Vols.set p1.Vol.toNat ({ x5 with State:=2})).set p1.Vol.toNat ({ ({ x5 with State:=2}:aR) with Files:=IntKind.wrap .i64 (x5.Files+1)}))) [(some k2,.obj 62 (aD p1))] (bC u [1,2,3,4,5,0] rfl rfl).2).2 Y4) rfl aA0 rfl ?_))
 rintro x h' ⟨ag9,O8,ag10,O9,ag11,O10,K13,rfl,rfl⟩
 have K14:=bC (L':=((some k2,.obj 62 (aD p1))::(hL p0K y1.2.1 ag9 ag10 ag11 gV y1.2.2.1 y1.2.2.2.1 y1.2.2.2.2 ((p0.Vols.set p1.Vol.toNat ({ x5 with State:=2})).set p1.Vol.toNat ({ ({ x5 with State:=2}:aR) with Files:=IntKind.wrap .i64 (x5.Files+1)}))))) (dG (cJ (hL p0K q6 ag6 ag7 ag8 gV q7 q8 q9 ((p0.Vols.set p1.Vol.toNat ({ x5 with State:=2})).set p1.Vol.toNat ({ ({ x5 with State:=2}:aR) with Files:=IntKind.wrap .i64 (x5.Files+1)}))) [(some k2,.obj 62 (aD p1))] (bC u [1,2,3,4,5,0] rfl rfl).2).1 K13) [5,0,1,2,3,4] rfl rfl
 refine kJ ((cT h (hL p0K y1.2.1 ag9 ag10 ag11 gV y1.2.2.1 y1.2.2.2.1 y1.2.2.2.2 ((p0.Vols.set p1.Vol.toNat ({ x5 with State:=2})).set p1.Vol.toNat ({ ({ x5 with State:=2}:aR) with Files:=IntKind.wrap .i64 (x5.Files+1)}))) [(some k2,.obj 62 (aD p1))]).trans K14.1) (⟨⟨λ_=>aI 0 K14.2 rfl,λ_=>aI 5 K14.2 rfl,trivial⟩, ?_⟩)
 refine zC 26 rfl (WH rfl) (zX (qk (f:=aCU 220 _ _ _ _ _ _ _ _ _ _ _ _ _ _ _ _ _ _ _ _ _ _ _ _ _ _ _ _) K14.2 rfl (v0 ?_)))
 apply vi m <;> intro c11 m
 refine vs (v0 (v0 (fO m λm=>fO m λm=>fO m λm=>fO m λm=> ?_)))
 cases m
 exact vr λu=>dX.of1 (.inl rfl) (fU _ _ (.sc (.int _ _)) rfl) (bG u [1,2,3,4,5] rfl).2 (bH.refl _ _) ⟨ag9,O8,ag10,O9,ag11,O10,gV,(bK.set (bK.set oV)),(bG u [1,2,3,4,5] rfl).1,rfl,rfl⟩
 exact v0 (v0 (eY m (ag9,ag10,ag11) ⟨O8,O9,O10⟩ (lx (.k4 .nil))))
 exact v0 (lA m (ag6,ag7,ag8) ⟨O5,O6,O7⟩ (lx (.k4 .nil)))
 rintro⟨ag12,ag13,ag14⟩ ⟨r6,r7,r8,r9,r10⟩ ⟨t1,t2,t3⟩ m
 refine vs (vs (v0 (nC m (σ:=(List aG)×(List aA)×Int) (τ:=cR×cR) (λg s=>((some k2,.obj 62 (aD p1))::(hL p0K r6 g.1 g.2 ag14 gV s.1 s.2.1 r9 ((p0.Vols.set p1.Vol.toNat ({ x5 with State:=2})).set p1.Vol.toNat ({ ({ x5 with State:=2}:aR) with Files:=IntKind.wrap .i64 (x5.Files+1)}))))) (λg s=>bK g.1 4 (s.1:List aG).length∧bK g.2 35 (s.2.1:List aA).length) (λg s=>.c 0 (.ptr p0K 0) (.c 3 (.ptr k2 0) (.c 10 (vK gV.t (p1.Vol.toNat*4+0)) (.c 12 (nZ s.2.2) .nil)))) (ag12,ag13) (⟨t1,t2⟩) (lx (.k4 .nil)) ?_ ?_)))
 rintro⟨ag15,ag16⟩ ⟨q11,q12,q13⟩ x ⟨O11,O12⟩ m
 replace m:CL w p0 p1 x5 r6 r9 q11 q12 q13=some x:=m
 unfold CL at m
 refine vs (vs (v0 (dM gN rfl rfl (vl 0 _ jZ rfl rfl rfl (cZ n3 rfl (v0 ?_))))))
 apply vi m <;> intro c12 m
 refine v0 (vs (v0 (vs (v0 (dM gN rfl rfl (vl 0 _ jZ rfl rfl rfl (vx m rT rfl rfl λx9 _ m=>bU (oY lR rfl rfl) (va (nZ x9.Kind) bX rfl rfl (o6 m (σ:=(List aG)×(List aA)) (τ:=cR×cR) (λg s=>((some k2,.obj 62 (aD p1))::(hL p0K r6 g.1 g.2 ag14 gV s.1 s.2 r9 ((p0.Vols.set p1.Vol.toNat ({ x5 with State:=2})).set p1.Vol.toNat ({ ({ x5 with State:=2}:aR) with Files:=IntKind.wrap .i64 (x5.Files+1)}))))) (λg s=>bK g.1 4 (s.1:List aG).length∧bK g.2 35 (s.2:List aA).length) (λg s=>.c 0 (.ptr p0K 0) (.c 3 (.ptr k2 0) (.c 10 (vK gV.t (p1.Vol.toNat*4+0)) (.c 12 (nZ q13) .nil)))) (λx m=> ?_) ?_)))))))))
 refine v0 ?_
 apply vi m <;> intro c13 m
 refine v0 (dM gN rfl rfl (vl 0 _ jZ rfl rfl rfl (vx m rT rfl rfl λx10 _ m=>bU (oY tZ rfl rfl) (va (nZ x10.Of) bX rfl rfl ?_))))
 obtain⟨y2,Y5,m⟩:=aC m
 refine ve λu=>dA ((bC u [1,2,3,4,5,0] rfl rfl).1.trans (cT h (hL p0K r6 ag15 ag16 ag14 gV q11 q12 r9 ((p0.Vols.set p1.Vol.toNat ({ x5 with State:=2})).set p1.Vol.toNat ({ ({ x5 with State:=2}:aR) with Files:=IntKind.wrap .i64 (x5.Files+1)}))) [(some k2,.obj 62 (aD p1))]).symm) (cK (aAZ (hp h [(some k2,.obj 62 (aD p1))]) O11 O12 t3 (bK.set (bK.set oV)) (cJ (hL p0K r6 ag15 ag16 ag14 gV q11 q12 r9 ((p0.Vols.set p1.Vol.toNat ({ x5 with State:=2})).set p1.Vol.toNat ({ ({ x5 with State:=2}:aR) with Files:=IntKind.wrap .i64 (x5.Files+1)}))) [(some k2,.obj 62 (aD p1))] (bC u [1,2,3,4,5,0] rfl rfl).2).2 Y5) rfl R7 rfl ?_)
 rintro x h' ⟨ag17,O13,ag18,O14,K15,rfl,rfl⟩
 have K16:=bC (L':=((some k2,.obj 62 (aD p1))::(hL p0K r6 ag17 ag18 ag14 gV y2.2.1 y2.2.2 r9 ((p0.Vols.set p1.Vol.toNat ({ x5 with State:=2})).set p1.Vol.toNat ({ ({ x5 with State:=2}:aR) with Files:=IntKind.wrap .i64 (x5.Files+1)}))))) (dG (cJ (hL p0K r6 ag15 ag16 ag14 gV q11 q12 r9 ((p0.Vols.set p1.Vol.toNat ({ x5 with State:=2})).set p1.Vol.toNat ({ ({ x5 with State:=2}:aR) with Files:=IntKind.wrap .i64 (x5.Files+1)}))) [(some k2,.obj 62 (aD p1))] (bC u [1,2,3,4,5,0] rfl rfl).2).1 K15) [5,0,1,2,3,4] rfl rfl
 exact qk K16.2 ((cT h (hL p0K r6 ag17 ag18 ag14 gV y2.2.1 y2.2.2 r9 ((p0.Vols.set p1.Vol.toNat ({ x5 with State:=2})).set p1.Vol.toNat ({ ({ x5 with State:=2}:aR) with Files:=IntKind.wrap .i64 (x5.Files+1)}))) [(some k2,.obj 62 (aD p1))]).trans K16.1) (eY m (ag17,ag18) ⟨O13,O14⟩ (lx (.k4 .nil)))
 exact v0 (eY m (ag15,ag16) ⟨O11,O12⟩ (lx (.k4 .nil)))
 rintro⟨ag19,ag20⟩ ⟨j4,j5⟩ ⟨O15,O16⟩ m
 exact v0 (eY m (ag19,ag20) ⟨O15,O16⟩ (lx (.k4 .nil)))
 exact v0 (lA m (ag15,ag16) ⟨O11,O12⟩ (lx (.k4 .nil)))
 rintro⟨ag21,ag22⟩ ⟨r11,r12,r13⟩ ⟨t4,t5⟩ m
 refine vs (v0 (bU (iV (bK.ne (bK.set (bK.set oV)) (dE (x':=({ ({ x5 with State:=2}:aR) with Files:=IntKind.wrap .i64 (x5.Files+1)}:aR)) (dE (x':=({ x5 with State:=2}:aR)) X1))) rfl) (bU (cS (bK.ne (bK.set (bK.set oV)) (dE (x':=({ ({ x5 with State:=2}:aR) with Files:=IntKind.wrap .i64 (x5.Files+1)}:aR)) (dE (x':=({ x5 with State:=2}:aR)) X1))) LP rfl rfl) (vn (λu=>dY (fo:=0) (nZ (({ ({ x5 with State:=2}:aR) with Files:=IntKind.wrap .i64 (x5.Files+1)}:aR).Pool)) (dE (x':=({ ({ x5 with State:=2}:aR) with Files:=IntKind.wrap .i64 (x5.Files+1)}:aR)) (dE (x':=({ x5 with State:=2}:aR)) X1)) eC (bK.set (bK.set oV)) bX rfl (aI 5 u rfl) (λ_=>rfl)) (o6 m (σ:=(List aA)) (τ:=cR) (λg s=>((some k2,.obj 62 (aD p1))::(hL p0K r6 ag21 g ag14 gV r11 s r9 ((p0.Vols.set p1.Vol.toNat ({ x5 with State:=2})).set p1.Vol.toNat ({ ({ x5 with State:=2}:aR) with Files:=IntKind.wrap .i64 (x5.Files+1)}))))) (λg s=>bK g 35 (s:List aA).length) (λg s=>.nil) (λx m=> ?_) ?_)))))
 refine v0 ?_
 apply vi m <;> intro c14 m
 refine vs (v0 (nC m (σ:=(List aA)×Int) (τ:=cR) (λg s=>((some k2,.obj 62 (aD p1))::(hL p0K r6 ag21 g ag14 gV r11 s.1 r9 ((p0.Vols.set p1.Vol.toNat ({ x5 with State:=2})).set p1.Vol.toNat ({ ({ x5 with State:=2}:aR) with Files:=IntKind.wrap .i64 (x5.Files+1)}))))) (λg s=>bK g 35 (s.1:List aA).length) (λg s=>.c 0 (.ptr p0K 0) (.c 3 (.ptr k2 0) (.c 13 (nZ s.2) .nil))) ag22 t5 (lx (.k3 .nil)) ?_ ?_))
 rintro ag23 ⟨q14,q15⟩ x O17 m
 replace m:v9 w p0 p1 x5 r6 r9 r11 q14 q15=some x:=m
 unfold v9 at m
 refine vs (vs (v0 (dM gN rfl rfl (vl 0 _ jZ rfl rfl rfl (cZ n3 rfl (v0 ?_))))))
 apply vi m <;> intro c15 m
 refine v0 (vs (v0 (vs (v0 (dM gN rfl rfl (vl 0 _ jZ rfl rfl rfl (vx m rT rfl rfl λx11 _ m=>bU (oY lR rfl rfl) (va (nZ x11.Kind) bX rfl rfl (o6 m (σ:=(List aA)) (τ:=cR) (λg s=>((some k2,.obj 62 (aD p1))::(hL p0K r6 ag21 g ag14 gV r11 s r9 ((p0.Vols.set p1.Vol.toNat ({ x5 with State:=2})).set p1.Vol.toNat ({ ({ x5 with State:=2}:aR) with Files:=IntKind.wrap .i64 (x5.Files+1)}))))) (λg s=>bK g 35 (s:List aA).length) (λg s=>.c 0 (.ptr p0K 0) (.c 3 (.ptr k2 0) (.c 13 (nZ q15) .nil))) (λx m=> ?_) ?_)))))))))
 refine v0 ?_
 apply vi m <;> intro c16 m
 refine vs (v0 (vU (by kernel_rfl) (jL rfl (vl 1 (.agg ([nZ r6,aZ ag21,aZ ag23,aZ ag14,aZ gV])) eV rfl rfl rfl (dM gN rfl rfl (vl 0 _ jZ rfl rfl rfl (vx m rT rfl rfl λx12 _ m=>bU (oY tY rfl rfl) (va (.agg (bJ x12.Id)) fK rfl rfl ?_))))))))
 obtain⟨_,Y6,m⟩:=aC m
 refine vn (λu=>bZ (fH (.cons (Br.agg (.cons (Br.refl _ _) (.cons (Br.aw 2 eM t4 u rfl) (.cons (Br.aw 3 cO O17 u rfl) (.cons (Br.aw 4 fM t3 u rfl) (.cons (Br.aw 5 eC (bK.set (bK.set oV)) u rfl) .nil)))))) (.cons (Br.refl _ _) .nil)) rfl (W88 _ Y6)) rfl P6 rfl) (vs (v0 (o6 m (σ:=(List aA)) (τ:=cR) (λg s=>((some k2,.obj 62 (aD p1))::(hL p0K r6 ag21 g ag14 gV r11 s r9 ((p0.Vols.set p1.Vol.toNat ({ x5 with State:=2})).set p1.Vol.toNat ({ ({ x5 with State:=2}:aR) with Files:=IntKind.wrap .i64 (x5.Files+1)}))))) (λg s=>bK g 35 (s:List aA).length) (λg s=>.c 0 (.ptr p0K 0) (.c 3 (.ptr k2 0) (.c 13 (nZ q15) .nil))) (λx m=> ?_) ?_)))
 refine v0 ?_
 apply vi m <;> intro c17 m
 refine v0 (vz [(1000000,some p0K,.obj 30 ([nZ r6,aZ ag21,aZ ag23,aZ ag14,aZ gV]))] mixed (λu=>⟨λ_=>aI 1 u rfl,trivial⟩) λu=>zP 0 rfl rfl (zN 1 rfl rfl (zF 2 rfl dZ rfl (zL 3 0 (aZ ag23) rfl eD rfl rfl rfl (zI 4 rfl rfl (zP 5 rfl rfl (zN 6 rfl rfl (zF 7 rfl dZ rfl (zL 8 0 (aZ ag23) rfl eD rfl rfl rfl (zI 9 rfl rfl ?_))))))))))
 obtain⟨x13,X5,m⟩:=aC m
 refine zC 10 rfl (cL X5 eU O17 rfl rfl) (zC 11 rfl (cS (bK.ne O17 X5) n5 rfl rfl) (zE 12 rfl (cI (fo:=32) ({ x13 with Staged:=false}:aA) 3 u X5 cO O17 rfl rfl rfl rfl (cU.refl _ _) VL rfl rfl λK17=>⟨⟨λ_=>aI 1 K17 rfl,trivial⟩, ?_⟩)))
 obtain⟨x14,X6,m⟩:=aC m
 refine zC 13 rfl (cL X6 eU (bK.set O17) rfl rfl) (zC 14 rfl (cS (bK.ne (bK.set O17) X6) jO rfl rfl) (zE 15 rfl (cI (fo:=33) ({ x14 with Data:=([]:List Int)}:aA) 3 K17 X6 cO (bK.set O17) rfl rfl rfl rfl (.cons (aX _) .nil) BY rfl rfl λK18=>⟨⟨λ_=>aI 1 K18 rfl,trivial⟩, ?_⟩)))
 exact zX (qk (f:=SZ 287 _ _ _ _ _ _ _ _ _ _ _ _ _ _ _) K18 rfl (eY m ag23 (bK.set (bK.set O17)) (lx (.k3 .nil))))
 exact v0 (eY m ag23 O17 (lx (.k3 .nil)))
 rintro ag24 j6 O18 m
 exact eY m ag24 O18 (lx (.k3 .nil))
 exact v0 (eY m ag23 O17 (lx (.k3 .nil)))
 rintro ag25 j7 O19 m
 exact v0 (eY m ag25 O19 (lx (.k3 .nil)))
 exact v0 (lA m ag23 O17 (lx (.k3 .nil)))
 rintro ag26 ⟨r14,r15⟩ t6 m
 exact eY m ag26 t6 (lx .nil)
 exact v0 (eY m ag22 t5 (lx .nil))
 rintro ag27 j8 O20 m
 exact eY m (ag21,ag27,ag14,gV) ⟨t4,O20,t3,(bK.set (bK.set oV))⟩ (lx .nil)
 refine vs (v0 (o6 m (σ:=fE) (τ:=cR×cR×cR×cR) (λg s=>((some k2,.obj 62 (aD p1))::(hL p0K p0.Seq g.1 g.2.1 g.2.2.1 g.2.2.2 s.1 s.2.1 s.2.2.1 s.2.2.2))) (λg s=>bK g.1 4 (s.1:List aG).length∧bK g.2.1 35 (s.2.1:List aA).length∧bK g.2.2.1 3 (s.2.2.1:List aQ).length∧bK g.2.2.2 4 (s.2.2.2:List aR).length) (λg s=>.nil) (λx m=> ?_) ?_))
 refine v0 ?_
 apply vi m <;> intro c18 m
 refine vs (vs (v0 (dM fI rfl rfl (vl 0 _ bX rfl rfl rfl ?_))))
 obtain⟨_,Y7,m⟩:=aC m
 refine ve λu=>dA ((bC u [1,2,3,4,5,0] rfl rfl).1.trans (cT h (hC p0K p0 gS gC gE gV) [(some k2,.obj 62 (aD p1))]).symm) (cK (UL (hp h [(some k2,.obj 62 (aD p1))]) ok_Snaps oC oE oV (cJ (hC p0K p0 gS gC gE gV) [(some k2,.obj 62 (aD p1))] (bC u [1,2,3,4,5,0] rfl rfl).2).2 Y7) rfl NN rfl ?_)
 rintro x h' ⟨K19,rfl,rfl⟩
 have K20:=bC (L':=((some k2,.obj 62 (aD p1))::(hC p0K p0 gS gC gE gV))) (dG (cJ (hC p0K p0 gS gC gE gV) [(some k2,.obj 62 (aD p1))] (bC u [1,2,3,4,5,0] rfl rfl).2).1 K19) [5,0,1,2,3,4] rfl rfl
 refine qk K20.2 ((cT h (hC p0K p0 gS gC gE gV) [(some k2,.obj 62 (aD p1))]).trans K20.1) (v0 ?_)
 apply vi m <;> intro c19 m
 refine vs (v0 (v0 (fO m λm=>fO m λm=>fO m λm=>fO m λm=> ?_)))
 cases m
 exact vr λu=>dX.of1 (.inl rfl) (fU _ _ (.sc (.int _ _)) rfl) (bG u [1,2,3,4,5] rfl).2 (bH.refl _ _) ⟨gS,ok_Snaps,gC,oC,gE,oE,gV,oV,(bG u [1,2,3,4,5] rfl).1,rfl,rfl⟩
 refine v0 (vs (v0 (vz [(1000000,some p0K,.obj 30 ([nZ p0.Seq,aZ gS,aZ gC,aZ gE,aZ gV])),(1000000,some k2,.obj 62 (aD p1))] mixed (λu=>⟨λ_=>aI 1 u rfl,λ_=>aI 0 u rfl,trivial⟩) λu=>zP 0 rfl rfl (zN 1 rfl rfl (zF 2 rfl fS rfl (zL 3 0 (aZ gV) rfl iK rfl rfl rfl (zF 4 rfl fI rfl (zL 5 1 (nZ p1.Vol) rfl bX rfl rfl rfl (zP 6 rfl rfl (zN 7 rfl rfl (zF 8 rfl fS rfl (zL 9 0 (aZ gV) rfl iK rfl rfl rfl (zF 10 rfl fI rfl (zL 11 1 (nZ p1.Vol) rfl bX rfl rfl rfl ?_))))))))))))))
 obtain⟨x15,X7,m⟩:=aC m
 refine zC 12 rfl (cL X7 lG oV rfl rfl) (zC 13 rfl (cS (bK.ne oV X7) mR rfl rfl) (zE 14 rfl (cI (fo:=2) ({ x15 with State:=3}:aR) 5 u X7 eC oV rfl rfl rfl rfl (cU.refl _ _) yT rfl rfl λK21=>⟨⟨λ_=>aI 1 K21 rfl,λ_=>aI 0 K21 rfl,trivial⟩, ?_⟩)))
 obtain⟨x16,X8,m⟩:=aC m
 refine zC 15 rfl (cL X8 lG (bK.set oV) rfl rfl) (zC 16 rfl (cS (bK.ne (bK.set oV) X8) pF rfl rfl) (zE 17 rfl (cI (fo:=3) ({ x16 with Files:=0}:aR) 5 K21 X8 eC (bK.set oV) rfl rfl rfl rfl (cU.refl _ _) yT rfl rfl λK22=>⟨⟨λ_=>aI 1 K22 rfl,λ_=>aI 0 K22 rfl,trivial⟩, ?_⟩)))
 refine zX (qk (f:=S0 310 _ _ _ _ _ _ _ _ _ _ _ _ _ _ _ _ _) K22 rfl (vs (v0 (vs (vs (v0 (pU (FE (.obj 44 (fl aH ([]:List aA) g0.sp)) 15 (aZ g0) (fZ _)) (nC m (σ:=(List aA)×Int) (τ:=cR) (λg s=>((cF g s.1)::(some k2,.obj 62 (aD p1))::(hL p0K p0.Seq gS gC gE gV p0.Snaps p0.Chunks p0.Exps ((p0.Vols.set p1.Vol.toNat ({ x15 with State:=3})).set p1.Vol.toNat ({ x16 with Files:=0}))))) (λg s=>bK g 35 (s.1:List aA).length) (λg s=>.c 0 (.ptr p0K 0) (.c 3 (.ptr k2 0) (.c 15 (aZ g) (.c 16 (nZ s.2) .nil)))) g0 (bK.g0 35) (lx (.k4 .nil)) ?_ ?_))))))))
 rintro ag28 ⟨q16,q17⟩ x O21 m
 replace m:wA w p0 p1 q16 q17=some x:=m
 unfold wA at m
 refine vs (vs (v0 (jL rfl (dM dZ rfl rfl (vl 2 (aZ gC) eD rfl rfl rfl (bU (dR hM oC rfl) (v0 ?_)))))))
 apply vi m <;> intro c20 m
 refine v0 (vs (v0 (vs (v0 (jL rfl (dM dZ rfl rfl (vl 2 (aZ gC) eD rfl rfl rfl ?_)))))))
 obtain⟨x17,X9,m⟩:=aC m
 refine bU (cL X9 eU oC rfl rfl) (vn (λu=>dY (fo:=0) (.agg (aH x17)) X9 cO oC lS rfl (aI 4 u rfl) (λ_=>rfl)) (ve λu=>bD (bJ jX++(KK:List AV)) u nE rfl rfl λk15855 K23=>qk K23 rfl (ve λu=>aK 0 (aH x17) u rfl rfl rfl rfl xD rfl rfl λK24=>qk K24 rfl (vs (v0 (dM iW rfl rfl (vl 0 _ e8 rfl rfl rfl (dM fI rfl rfl (vl 2 _ bX rfl rfl rfl (vk UK NM m rfl rfl λy3 m=>dM iW rfl rfl (ve λu=>aK 0 (aH { x17 with Locs:=y3}) u rfl rfl rfl rfl nL rfl rfl λK25=>qk K25 rfl (vs (fB m (σ:=Bool) (λs=>((some k15855,.obj 44 (aH { x17 with Locs:=y3}))::(cF ag28 q16)::(some k2,.obj 62 (aD p1))::(hL p0K p0.Seq gS gC gE gV p0.Snaps p0.Chunks p0.Exps ((p0.Vols.set p1.Vol.toNat ({ x15 with State:=3})).set p1.Vol.toNat ({ x16 with Files:=0}))))) (λs=>.c 0 (.ptr p0K 0) (.c 3 (.ptr k2 0) (.c 15 (aZ ag28) (.c 16 (nZ q17) (.c 17 (.ptr k15855 0) (.c 340 (.sc (.bool s)) .nil)))))) (λx m=> ?_) ?_)))))))))))))
 refine v0 (dM n5 rfl rfl (vl 0 _ BW rfl rfl rfl ?_))
 apply vi m <;> intro b7 m
 rw[b7]
 exact oZ m
 rw[b7]
 exact dM iW rfl rfl (vl 0 _ e8 rfl rfl rfl (cZ iC rfl (oZ m)))
 rintro _ j9 m
 refine o6 m (σ:=(List aA)) (τ:=cR) (λg s=>((some k15855,.obj 44 (aH { x17 with Locs:=y3}))::(cF g s)::(some k2,.obj 62 (aD p1))::(hL p0K p0.Seq gS gC gE gV p0.Snaps p0.Chunks p0.Exps ((p0.Vols.set p1.Vol.toNat ({ x15 with State:=3})).set p1.Vol.toNat ({ x16 with Files:=0}))))) (λg s=>bK g 35 (s:List aA).length) (λg s=>.c 0 (.ptr p0K 0) (.c 3 (.ptr k2 0) (.c 15 (aZ g) (.c 16 (nZ q17) .nil)))) (λx m=> ?_) ?_
 refine v0 ?_
 apply vi m <;> intro c21 m
 refine v0 (vl 0 (.agg (aH { x17 with Locs:=y3})) lS rfl rfl rfl (bU (eO (List.map aH ([{ x17 with Locs:=y3}]:List aA)) lF rfl rfl rfl rfl) ?_))
 obtain⟨z1,Z1,m⟩:=aC m
 exact ve λu=>f8 (c:=aH) 1 Z1 lF rfl nE rfl cO rfl rfl O21 u rfl λag29 O22 K26=>qk K26 rfl (eY m ag29 O22 (lx (.k4 .nil)))
 exact v0 (eY m ag28 O21 (lx (.k4 .nil)))
 rintro ag30 j10 O23 m
 exact v0 (eY m ag30 O23 (kP [1,2,3,4,5,6,7] rfl rfl (.k4 .nil)))
 exact v0 (lA m ag28 O21 (lx (.k4 .nil)))
 rintro ag31 ⟨r16,r17⟩ t7 m
 refine vs (v0 (jL rfl (dM dZ rfl rfl (ve λu=>aK 2 ([nZ p0.Seq,aZ gS,aZ ag31,aZ gE,aZ gV]) u rfl rfl (cC rfl) (cE (bY _ _ _) rfl) yX rfl rfl λK27=>qk K27 rfl (vs (vs (v0 (nC m (σ:=(List aG)×Int) (τ:=cR) (λg s=> [(cF ag31 r16),(some k2,.obj 62 (aD p1)),(hO p0K p0.Seq g ag31 gE gV),(dN g s.1),(cF gC p0.Chunks),(fA gE p0.Exps),(kV gV ((p0.Vols.set p1.Vol.toNat ({ x15 with State:=3})).set p1.Vol.toNat ({ x16 with Files:=0})))]) (λg s=>bK g 4 (s.1:List aG).length) (λg s=>.c 0 (.ptr p0K 0) (.c 3 (.ptr k2 0) (.c 18 (nZ s.2) .nil))) gS ok_Snaps (lx (.k3 .nil)) ?_ ?_))))))))
 rintro ag32 ⟨q18,q19⟩ x O24 m
 replace m:wB w p1 q18 q19=some x:=m
 unfold wB at m
 refine vs (vs (v0 (jL rfl (dM dW rfl rfl (vl 2 (aZ ag32) eK rfl rfl rfl (bU (dR iJ O24 rfl) (v0 ?_)))))))
 apply vi m <;> intro c22 m
 refine v0 (vs (v0 (v0 (vz [(1000000,some p0K,.obj 30 ([nZ p0.Seq,aZ ag32,aZ ag31,aZ gE,aZ gV])),(18,ag32.t,.obj 60 (fl bP (q18:List aG) ag32.sp)),(1000000,some k2,.obj 62 (aD p1))] mixed (λu=>⟨λ_=>aI 2 u rfl,λ_=>aI 3 u rfl,λ_=>aI 1 u rfl,trivial⟩) λu=>zP 0 rfl rfl (zN 1 rfl rfl (zF 2 rfl dW rfl (zL 3 0 (aZ ag32) rfl eK rfl rfl rfl (zI 4 rfl rfl (zP 5 rfl rfl (zN 6 rfl rfl (zF 7 rfl dW rfl (zL 8 0 (aZ ag32) rfl eK rfl rfl rfl (zI 9 rfl rfl ?_)))))))))))))
 obtain⟨x18,X10,m⟩:=aC m
 refine zC 10 rfl (cL X10 gJ O24 rfl rfl) (zC 11 rfl (cS (bK.ne O24 X10) jP rfl rfl) (vL 12 rfl (λ_ _ hi hB=>dY (fo:=3) (.sl none 4 (List.map aM x18.Locs)) X10 eM O24 e8 rfl (fW.get 1 hi rfl (hB 18 (by kernel_rfl))) (λ_=>rfl)) (zF 13 rfl fI rfl (zL 14 2 (nZ p1.Vol) rfl bX rfl rfl rfl ?_))))
 obtain⟨y4,Y8,m⟩:=aC m
 refine zC 15 rfl (bZ (UK _ Y8) rfl NM rfl) ?_
 obtain⟨x19,X11,m⟩:=aC m
 refine zC 16 rfl (cL X11 gJ O24 rfl rfl) (zC 17 rfl (cS (bK.ne O24 X11) jP rfl rfl) (zE 18 rfl (cI (fo:=3) ({ x19 with Locs:=y4}:aG) 3 u X11 eM O24 rfl rfl rfl rfl (cU.refl _ _) nL rfl rfl λK28=>⟨⟨λ_=>aI 2 K28 rfl,λe=>absurd e (by decide),λ_=>aI 1 K28 rfl,trivial⟩, ?_⟩)))
 exact zX (qk (f:=aCS 375 _ _ _ _ _ _ _ _ _ _ _ _ _ _ _ _ _ _ _) K28 rfl (v0 (eY m ag32 (bK.set O24) (lx (.k3 .nil)))))
 exact v0 (lA m ag32 O24 (lx (.k3 .nil)))
 rintro ag33 ⟨r18,r19⟩ t8 m
 refine vs (v0 (vs (vs (v0 (pU (FE (.obj 99 (fl cD ([]:List aQ) g0.sp)) 19 (aZ g0) (fZ _)) (nC m (σ:=(List aQ)×Int) (τ:=cR) (λg s=> [(fA g s.1),(cF ag31 r16),(some k2,.obj 62 (aD p1)),(hO p0K p0.Seq ag33 ag31 gE gV),(dN ag33 r18),(cF gC p0.Chunks),(fA gE p0.Exps),(kV gV ((p0.Vols.set p1.Vol.toNat ({ x15 with State:=3})).set p1.Vol.toNat ({ x16 with Files:=0})))]) (λg s=>bK g 3 (s.1:List aQ).length) (λg s=>.c 0 (.ptr p0K 0) (.c 3 (.ptr k2 0) (.c 19 (aZ g) (.c 20 (nZ s.2) .nil)))) g0 (bK.g0 3) (lx (.k4 .nil)) ?_ ?_))))))
 rintro ag34 ⟨q20,q21⟩ x O25 m
 replace m:wC w p0 p1 q20 q21=some x:=m
 unfold wC at m
 refine vs (vs (v0 (jL rfl (dM eT rfl rfl (vl 3 (aZ gE) hX rfl rfl rfl (bU (dR nK oE rfl) (v0 ?_)))))))
 apply vi m <;> intro c23 m
 refine v0 (vs (v0 (vs (v0 (jL rfl (dM eT rfl rfl (vl 3 (aZ gE) hX rfl rfl rfl ?_)))))))
 obtain⟨x20,X12,m⟩:=aC m
 refine bU (cL X12 hU oE rfl rfl) (vn (λu=>dY (fo:=0) (.agg (cD x20)) X12 fM oE qS rfl (aI 6 u rfl) (λ_=>rfl)) (ve λu=>bD ([nZ 0,nZ 0,sZ]) u n9 rfl rfl λk16100 K29=>qk K29 rfl (ve λu=>aK 0 (cD x20) u rfl rfl rfl rfl xG rfl rfl λK30=>qk K30 rfl (vs (v0 (dM kU rfl rfl (vl 0 _ e8 rfl rfl rfl (dM fI rfl rfl (vl 3 _ bX rfl rfl rfl (vk UK NM m rfl rfl λy5 m=>dM kU rfl rfl (ve λu=>aK 0 (cD { x20 with Locs:=y5}) u rfl rfl rfl rfl nL rfl rfl λK31=>qk K31 rfl (vs (v0 (dM kU rfl rfl (vl 0 _ e8 rfl rfl rfl (cZ iC rfl (o6 m (σ:=(List aQ)) (τ:=cR) (λg s=> [(some k16100,.obj 99 (cD { x20 with Locs:=y5})),(fA g s),(cF ag31 r16),(some k2,.obj 62 (aD p1)),(hO p0K p0.Seq ag33 ag31 gE gV),(dN ag33 r18),(cF gC p0.Chunks),(fA gE p0.Exps),(kV gV ((p0.Vols.set p1.Vol.toNat ({ x15 with State:=3})).set p1.Vol.toNat ({ x16 with Files:=0})))]) (λg s=>bK g 3 (s:List aQ).length) (λg s=>.c 0 (.ptr p0K 0) (.c 3 (.ptr k2 0) (.c 19 (aZ g) (.c 20 (nZ q21) .nil)))) (λx m=> ?_) ?_)))))))))))))))))
 refine v0 ?_
 apply vi m <;> intro c24 m
 refine v0 (vl 0 (.agg (cD { x20 with Locs:=y5})) qS rfl rfl rfl (bU (eO (List.map cD ([{ x20 with Locs:=y5}]:List aQ)) o0 rfl rfl rfl rfl) ?_))
 obtain⟨z2,Z2,m⟩:=aC m
 exact ve λu=>f8 (c:=cD) 1 Z2 o0 rfl n9 rfl fM rfl rfl O25 u rfl λag35 O26 K32=>qk K32 rfl (eY m ag35 O26 (lx (.k4 .nil)))
 exact v0 (eY m ag34 O25 (lx (.k4 .nil)))
 rintro ag36 j11 O27 m
 exact v0 (eY m ag36 O27 (kP [1,2,3,4,5,6,7,8] rfl rfl (.k4 .nil)))
 exact v0 (lA m ag34 O25 (lx (.k4 .nil)))
 rintro ag37 ⟨r20,r21⟩ t9 m
 exact v0 (jL rfl (dM eT rfl rfl (ve λu=>aK 3 ([nZ p0.Seq,aZ ag33,aZ ag31,aZ ag37,aZ gV]) u rfl rfl (cC rfl) (cE (bY _ _ _) rfl) JG rfl rfl λK33=>qk K33 rfl (eY m (ag33,ag31,ag37,gV) ⟨t8,t7,t9,(bK.set (bK.set oV))⟩ (kP [2,3,4,1,0,7] rfl rfl .nil)))))
 refine vs (v0 (o6 m (σ:=(List aR)) (τ:=cR) (λg s=>((some k2,.obj 62 (aD p1))::(hL p0K p0.Seq gS gC gE g p0.Snaps p0.Chunks p0.Exps s))) (λg s=>bK g 4 (s:List aR).length) (λg s=>.nil) (λx m=> ?_) ?_))
 refine v0 ?_
 apply vi m <;> intro c25 m
 refine vs (vs (v0 (dM fI rfl rfl (vl 0 _ bX rfl rfl rfl ?_))))
 obtain⟨_,Y9,m⟩:=aC m
 refine ve λu=>dA ((bC u [1,2,3,4,5,0] rfl rfl).1.trans (cT h (hC p0K p0 gS gC gE gV) [(some k2,.obj 62 (aD p1))]).symm) (cK (UL (hp h [(some k2,.obj 62 (aD p1))]) ok_Snaps oC oE oV (cJ (hC p0K p0 gS gC gE gV) [(some k2,.obj 62 (aD p1))] (bC u [1,2,3,4,5,0] rfl rfl).2).2 Y9) rfl NN rfl ?_)
 rintro x h' ⟨K34,rfl,rfl⟩
 have K35:=bC (L':=((some k2,.obj 62 (aD p1))::(hC p0K p0 gS gC gE gV))) (dG (cJ (hC p0K p0 gS gC gE gV) [(some k2,.obj 62 (aD p1))] (bC u [1,2,3,4,5,0] rfl rfl).2).1 K34) [5,0,1,2,3,4] rfl rfl
 refine qk K35.2 ((cT h (hC p0K p0 gS gC gE gV) [(some k2,.obj 62 (aD p1))]).trans K35.1) (v0 ?_)
 apply vi m <;> intro c26 m
 refine vs (v0 (v0 (fO m λm=>fO m λm=>fO m λm=>fO m λm=>fO m λm=> ?_)))
 cases m
 exact vr λu=>dX.of1 (.inl rfl) (fU _ _ (.sc (.int _ _)) rfl) (bG u [1,2,3,4,5] rfl).2 (bH.refl _ _) ⟨gS,ok_Snaps,gC,oC,gE,oE,gV,oV,(bG u [1,2,3,4,5] rfl).1,rfl,rfl⟩
 refine v0 (v0 (vz [(1000000,some p0K,.obj 30 ([nZ p0.Seq,aZ gS,aZ gC,aZ gE,aZ gV])),(1000000,some k2,.obj 62 (aD p1)),(24,gV.t,.obj 49 (fl cG (p0.Vols:List aR) gV.sp))] mixed (λu=>⟨λ_=>aI 1 u rfl,λ_=>aI 0 u rfl,λ_=>aI 5 u rfl,trivial⟩) λu=>zP 0 rfl rfl (zN 1 rfl rfl (zF 2 rfl fS rfl (zL 3 0 (aZ gV) rfl iK rfl rfl rfl (zF 4 rfl fI rfl (zL 5 1 (nZ p1.Vol) rfl bX rfl rfl rfl (zP 6 rfl rfl (zN 7 rfl rfl (zF 8 rfl fS rfl (zL 9 0 (aZ gV) rfl iK rfl rfl rfl (zF 10 rfl fI rfl (zL 11 1 (nZ p1.Vol) rfl bX rfl rfl rfl (zP 12 rfl rfl (zN 13 rfl rfl (zF 14 rfl fS rfl (zL 15 0 (aZ gV) rfl iK rfl rfl rfl (zF 16 rfl fI rfl (zL 17 1 (nZ p1.Vol) rfl bX rfl rfl rfl ?_)))))))))))))))))))
 obtain⟨x21,X13,m⟩:=aC m
 refine zC 18 rfl (cL X13 lG oV rfl rfl) (zC 19 rfl (cS (bK.ne oV X13) BZ rfl rfl) (vL 20 rfl (λ_ _ hi hB=>dY (fo:=1) (nZ x21.Epoch) X13 eC oV bX rfl (fW.get 2 hi rfl (hB 24 (by kernel_rfl))) (λ_=>rfl)) (zC 21 rfl (lE rfl rfl rfl trivial) ?_)))
 obtain⟨x22,X14,m⟩:=aC m
 refine zC 22 rfl (cL X14 lG oV rfl rfl) (zC 23 rfl (cS (bK.ne oV X14) mR rfl rfl) (zE 24 rfl (cI (fo:=2) ({ x22 with State:=1}:aR) 5 u X14 eC oV rfl rfl rfl rfl (cU.refl _ _) yT rfl rfl λK36=>⟨⟨λ_=>aI 1 K36 rfl,λ_=>aI 0 K36 rfl,λe=>absurd e (by decide),trivial⟩, ?_⟩)))
 obtain⟨x23,X15,m⟩:=aC m
 refine zC 25 rfl (cL X15 lG (bK.set oV) rfl rfl) (zC 26 rfl (cS (bK.ne (bK.set oV) X15) BZ rfl rfl) (zE 27 rfl (cI (fo:=1) ({ x23 with Epoch:=IntKind.wrap .i64 (x21.Epoch+1)}:aR) 5 K36 X15 eC (bK.set oV) rfl rfl rfl rfl (cU.refl _ _) yT rfl rfl λK37=>⟨⟨λ_=>aI 1 K37 rfl,λ_=>aI 0 K37 rfl,λe=>absurd e (by decide),trivial⟩, ?_⟩)))
 exact zX (qk (f:=aCT 442 _ _ _ _ _ _ _ _ _ _ _ _ _ _ _ _ _ _ _ _ _ _ _ _ _ _ _) K37 rfl (eY m gV (bK.set (bK.set oV)) (lx .nil)))
 exact v0 (eY m gV oV (lx .nil))
 rintro ag38 j12 O28 m
 exact eY m (gS,gC,gE,ag38) ⟨ok_Snaps,oC,oE,O28⟩ (lx .nil)
 rintro⟨ag39,ag40,ag41,ag42⟩ ⟨j13,j14,j15,j16⟩ ⟨O29,O30,O31,O32⟩ m
 exact eY m (ag39,ag40,ag41,ag42) ⟨O29,O30,O31,O32⟩ (lx .nil)
 rintro⟨ag43,ag44,ag45,ag46⟩ ⟨j17,j18,j19,j20,j21⟩ ⟨O33,O34,O35,O36⟩ m
 exact eY m (ag43,ag44,ag45,ag46) ⟨O33,O34,O35,O36⟩ (lx .nil)
 rintro⟨ag47,ag48,ag49,ag50⟩ ⟨j22,j23,j24,j25,j26⟩ ⟨O37,O38,O39,O40⟩ m
 exact eY m (ag47,ag48,ag49,ag50) ⟨O37,O38,O39,O40⟩ (lx .nil)
 rintro⟨ag51,ag52,ag53,ag54⟩ ⟨j27,j28,j29,j30,j31⟩ ⟨O41,O42,O43,O44⟩ m
 refine vs (v0 (v0 ?_))
 cases m
 exact vr λu=>dX.of1 (.inl rfl) (fU _ _ (.sc (.int _ _)) rfl) (bG u [1,2,3,4,5] rfl).2 (bH.refl _ _) ⟨ag51,O41,ag52,O42,ag53,O43,ag54,O44,(bG u [1,2,3,4,5] rfl).1,rfl,rfl⟩
theorem aGB:aO Tryz.prog 91=true:=by kernel_rfl
open Go.Vm
def M36 (m:Nat) (p0:aB) (p1:aP):Option (aB×Int):=
 after ((TQ m p0).bind λy0=>if (!y0)=true then (some (.brk true)) else if (decide (p1.Kind < 1))=true then (some (.brk true)) else some (.brk (decide (5 < p1.Kind))):Option (Lp (Bool) (aB×Int))) λj0=>if j0=true then (some (({ Seq:=0,Snaps:= [],Chunks:= [],Exps:= [],Vols:= []}:aB),1)) else (NJ m p0).bind λy1=>(V0 m p1).bind λy2=>(V1 m ({ Seq:=y1.Seq,Snaps:=y1.Snaps,Chunks:=y1.Chunks,Exps:=y1.Exps,Vols:=y1.Vols}:aB) y2).bind λy3=>if (y3.1 !=0)=true then (some (({ Seq:=0,Snaps:= [],Chunks:= [],Exps:= [],Vols:= []}:aB),y3.1)) else (TQ m ({ Seq:=y3.2.1,Snaps:=y3.2.2.1,Chunks:=y3.2.2.2.1,Exps:=y3.2.2.2.2.1,Vols:=y3.2.2.2.2.2}:aB)).bind λy4=>if (!y4)=true then (some (({ Seq:=0,Snaps:= [],Chunks:= [],Exps:= [],Vols:= []}:aB),1)) else some (({ Seq:=y3.2.1,Snaps:=y3.2.2.1,Chunks:=y3.2.2.2.1,Exps:=y3.2.2.2.2.1,Vols:=y3.2.2.2.2.2}:aB),0)
theorem W36 {w:Nat} {p0:aB} {p1:aP} {o:aB×Int} (h:aF) (m:M36 w p0 p1=some o):
 aL Tryz.prog 36 [.agg (aE p0),.agg (aD p1)] h (λr h'=>r= .tup [.agg (aE o.1),nZ o.2]∧h'=h):=by
 refine fN 36 [.cell 4 30,.tmp 5] Tryz.func36 rfl rfl rfl rfl ?_
 unfold M36 at m
 refine vs (v0 (gG rfl rfl λk2 K3=>gG rfl rfl λk5 K6=>ve λu=>bD (gR) u pE rfl rfl λk8 K9=>qk K9 rfl (vs (vs (fB m (σ:=Bool) (λs=> [(some k8,.obj 30 (gR)),(some k5,.obj 62 (aD p1)),(some k2,.obj 30 (aE p0))]) (λs=>.c 2 (.ptr k2 0) (.c 3 (.ptr k5 0) (.c 4 (.ptr k8 0) (.c 20 (.sc (.bool s)) .nil)))) (λx m=> ?_) ?_)))))
 refine v0 (vl 2 (.agg (aE p0)) eV rfl rfl rfl (vk W89 XW m rfl rfl λ_ m=> ?_))
 apply vi m <;> intro b0 m
 rw[b0]
 exact fR m
 rw[b0]
 refine dM B0 rfl rfl (vl 1 _ bX rfl rfl rfl ?_)
 apply vi m <;> intro b1 m
 rw[b1]
 exact fR m
 rw[b1]
 exact dM B0 rfl rfl (vl 1 _ bX rfl rfl rfl (fR m))
 rintro _ j0 m
 refine v0 ?_
 apply vi m <;> intro c0 m
 refine vs (v0 (bU (fG (gR) yY rfl) (ve λu=>aK 0 (gR) u rfl rfl rfl rfl lQ rfl rfl λK0=>qk K0 rfl (v0 ?_))))
 cases m
 exact vr λu=>dX.of2 (.inl rfl) (qD (.agg (gR)) eV rfl (a9 0 u rfl) rfl) (fU _ _ (.sc (.int _ _)) rfl) (aS (List.nil_sublist _) u).1 (bH.agg (.cons (bH.refl _ _) (.cons (aX _) (.cons (aX _) (.cons (aX _) (.cons (aX _) .nil)))))) (bH.refl _ _) ⟨rfl,rfl⟩
 refine v0 (vs (v0 (vl 2 (.agg (aE p0)) eV rfl rfl rfl ?_)))
 obtain⟨y0,Y0,m⟩:=aC m
 refine ve λu=>cK (aF4 _ Y0) rfl aEM rfl ?_
 rintro x h' ⟨ag0,O0,ag1,O1,ag2,O2,ag3,O3,K1,rfl,rfl⟩
 refine qk (dG u K1) (cT h [(dN ag0 y0.Snaps),(cF ag1 y0.Chunks),(fA ag2 y0.Exps),(kV ag3 y0.Vols)] [(some k8,.obj 30 (gR)),(some k5,.obj 62 (aD p1)),(some k2,.obj 30 (aE p0))]) (ve λu=>bD (gR) u pE rfl rfl λk42 K2=>qk K2 rfl (ve λu=>aK 0 ([nZ y0.Seq,aZ ag0,aZ ag1,aZ ag2,aZ ag3]) u rfl rfl rfl (by repeat (first | exact rfl | refine cE (iH _ _ _) ?_ | refine cE (bY _ _ _) ?_ | refine cE (f9 _ _ _ _) ?_ | refine cE rfl ?_)) lQ rfl rfl λK4=>qk K4 rfl ?_))
 refine vs (v0 (vl 6 (.agg (aD p1)) n7 rfl rfl rfl (vk W92 aF6 m rfl rfl λ_ m=> ?_)))
 obtain⟨y1,Y1,m⟩:=aC m
 refine ve λu=>dA ((bC u [0,1,2,3,4,5,6,7] rfl rfl).1.trans (cT h (hC k42 y0 ag0 ag1 ag2 ag3) [(some k8,.obj 30 (gR)),(some k5,.obj 62 (aD p1)),(some k2,.obj 30 (aE p0))]).symm) (cK (W91 (hp h [(some k8,.obj 30 (gR)),(some k5,.obj 62 (aD p1)),(some k2,.obj 30 (aE p0))]) O0 O1 O2 O3 (cJ (hC k42 y0 ag0 ag1 ag2 ag3) [(some k8,.obj 30 (gR)),(some k5,.obj 62 (aD p1)),(some k2,.obj 30 (aE p0))] (bC u [0,1,2,3,4,5,6,7] rfl rfl).2).2 Y1) rfl aGB rfl ?_)
 rintro x h' ⟨ag4,O4,ag5,O5,ag6,O6,ag7,O7,K5,rfl,rfl⟩
 have K7:=bC (L':= [(hO k42 y1.2.1 ag4 ag5 ag6 ag7),(dN ag4 y1.2.2.1),(cF ag5 y1.2.2.2.1),(fA ag6 y1.2.2.2.2.1),(kV ag7 y1.2.2.2.2.2),(some k8,.obj 30 (gR)),(some k5,.obj 62 (aD p1)),(some k2,.obj 30 (aE p0))]) (dG (cJ (hC k42 y0 ag0 ag1 ag2 ag3) [(some k8,.obj 30 (gR)),(some k5,.obj 62 (aD p1)),(some k2,.obj 30 (aE p0))] (bC u [0,1,2,3,4,5,6,7] rfl rfl).2).1 K5) [0,1,2,3,4,5,6,7] rfl rfl
 refine qk K7.2 ((cT h (hL k42 y1.2.1 ag4 ag5 ag6 ag7 y1.2.2.1 y1.2.2.2.1 y1.2.2.2.2.1 y1.2.2.2.2.2) [(some k8,.obj 30 (gR)),(some k5,.obj 62 (aD p1)),(some k2,.obj 30 (aE p0))]).trans K7.1) (vs (vs (v0 (v0 ?_))))
 apply vi m <;> intro c1 m
 refine vs (v0 (bU (fG (gR) yY rfl) (ve λu=>aK 5 (gR) u rfl rfl rfl rfl lQ rfl rfl λK8=>qk K8 rfl (v0 ?_))))
 cases m
 exact vr λu=>dX.of2 (.inl rfl) (qD (.agg (gR)) eV rfl (a9 5 u rfl) rfl) (fU _ _ (.sc (.int _ _)) rfl) (aS (List.nil_sublist _) u).1 (bH.agg (.cons (bH.refl _ _) (.cons (aX _) (.cons (aX _) (.cons (aX _) (.cons (aX _) .nil)))))) (bH.refl _ _) ⟨rfl,rfl⟩
 refine v0 (vs (vs (v0 (vl 0 (.agg ([nZ y1.2.1,aZ ag4,aZ ag5,aZ ag6,aZ ag7])) eV rfl rfl rfl ?_))))
 obtain⟨_,Y2,m⟩:=aC m
 refine vn (λu=>bZ (fH (.cons (Br.agg (.cons (Br.refl _ _) (.cons (Br.aw 1 eM O4 u rfl) (.cons (Br.aw 2 cO O5 u rfl) (.cons (Br.aw 3 fM O6 u rfl) (.cons (Br.aw 4 eC O7 u rfl) .nil)))))) .nil) rfl (W89 _ Y2)) rfl XW rfl) (v0 ?_)
 apply vi m <;> intro c2 m
 refine vs (v0 (bU (fG (gR) yY rfl) (ve λu=>aK 5 (gR) u rfl rfl rfl rfl lQ rfl rfl λK73=>qk K73 rfl (v0 ?_))))
 cases m
 exact vr λu=>dX.of2 (.inl rfl) (qD (.agg (gR)) eV rfl (a9 5 u rfl) rfl) (fU _ _ (.sc (.int _ _)) rfl) (aS (List.nil_sublist _) u).1 (bH.agg (.cons (bH.refl _ _) (.cons (aX _) (.cons (aX _) (.cons (aX _) (.cons (aX _) .nil)))))) (bH.refl _ _) ⟨rfl,rfl⟩
 refine v0 (vs (v0 (vl 0 (.agg ([nZ y1.2.1,aZ ag4,aZ ag5,aZ ag6,aZ ag7])) eV rfl rfl rfl (ve λu=>aK 5 ([nZ y1.2.1,aZ ag4,aZ ag5,aZ ag6,aZ ag7]) u rfl rfl rfl (by repeat (first | exact rfl | refine cE (iH _ _ _) ?_ | refine cE (bY _ _ _) ?_ | refine cE (f9 _ _ _ _) ?_ | refine cE rfl ?_)) lQ rfl rfl λK75=>qk K75 rfl ?_))))
 refine v0 ?_
 cases m
 refine vrl λu=> ?_
 obtain⟨K76,le0⟩:=i7.fzO (n:=36) (f:=_) 1 4 ([nZ y1.2.1,.sl none 4 (List.map bP y1.2.2.1),aZ ag5,aZ ag6,aZ ag7]) u rfl (.cons (Fz.refl _ _ _) (.cons (Fz.aw 1 eM O4 u rfl (.refl _)) (.cons (Fz.refl _ _ _) (.cons (Fz.refl _ _ _) (.cons (Fz.refl _ _ _) .nil)))))
 obtain⟨K78,le1⟩:=i7.fzO (n:=36) (f:=_) 1 3 ([nZ y1.2.1,.sl none 4 (List.map bP y1.2.2.1),.sl none 35 (List.map aH y1.2.2.2.1),aZ ag6,aZ ag7]) K76 rfl (.cons (Fz.refl _ _ _) (.cons (Fz.refl _ _ _) (.cons (Fz.aw 1 cO O5 K76 rfl (.refl _)) (.cons (Fz.refl _ _ _) (.cons (Fz.refl _ _ _) .nil)))))
 obtain⟨K80,le2⟩:=i7.fzO (n:=36) (f:=_) 1 2 ([nZ y1.2.1,.sl none 4 (List.map bP y1.2.2.1),.sl none 35 (List.map aH y1.2.2.2.1),.sl none 3 (List.map cD y1.2.2.2.2.1),aZ ag7]) K78 rfl (.cons (Fz.refl _ _ _) (.cons (Fz.refl _ _ _) (.cons (Fz.refl _ _ _) (.cons (Fz.aw 1 fM O6 K78 rfl (.refl _)) (.cons (Fz.refl _ _ _) .nil)))))
 obtain⟨K82,le3⟩:=i7.fzO (n:=36) (f:=_) 1 1 ([nZ y1.2.1,.sl none 4 (List.map bP y1.2.2.1),.sl none 35 (List.map aH y1.2.2.2.1),.sl none 3 (List.map cD y1.2.2.2.2.1),.sl none 4 (List.map cG y1.2.2.2.2.2)]) K80 rfl (.cons (Fz.refl _ _ _) (.cons (Fz.refl _ _ _) (.cons (Fz.refl _ _ _) (.cons (Fz.refl _ _ _) (.cons (Fz.aw 1 eC O7 K80 rfl (.refl _)) .nil)))))
 exact OO.mk (i7.trans (i7.trans (i7.trans le0 le1) le2) le3) (dX.of2 (.inl rfl) (qD (.agg (aE ({ Seq:=y1.2.1,Snaps:=y1.2.2.1,Chunks:=y1.2.2.2.1,Exps:=y1.2.2.2.2.1,Vols:=y1.2.2.2.2.2}:aB))) eV rfl (a9 1 K82 rfl) rfl) (fU _ _ (.sc (.int _ _)) rfl) (aS (List.nil_sublist _) K82).1 (bH.refl _ _) (bH.refl _ _) ⟨rfl,rfl⟩)
theorem aGC:aO Tryz.prog 36=true:=by kernel_rfl
open Go.Vm
def tB (m:Nat) (p0:List dS) (q0:Int):Option (Lp (Int) (Bool)):=
 if (decide (q0 < (p0.length:Int)))=true then ((ix p0 q0).bind λx0=>if (decide (200 < (x0.Data.length:Int)))=true then (some (.ret true)) else some (.go (IntKind.wrap .i64 (q0+1)))) else some (.brk q0)
def J6 (m:Nat) (p0:List dS):Option (Bool):=
 if (decide (6 < (p0.length:Int)))=true then (some true) else after (aT (λs=>tB m p0 s) m 0) λr0=>some false
theorem aA2 {u:Nat} {p0:List dS} {o:Bool} (h:aF) (m:J6 u p0=some o):
 aL Tryz.prog 139 [.sl none 2 (List.map eX p0)] h (λr h'=>r= .sc (.bool o)∧h'=h):=by
 refine fN 20 [.tmp 2] Tryz.func139 rfl rfl rfl rfl ?_
 unfold J6 at m
 refine v (v (cZ zB rfl (v ?_)))
 apply vi m <;> intro c4 m
 refine v (v ?_)
 obtain rfl:=eB m
 exact dQ rfl
 refine v (v (iI m (σ:=Int) (λs=> []) (λs=>.c 0 (.sl none 2 (List.map eX p0)) (.c 3 (nZ s) .nil)) (lx (.k2 .nil)) ?_ ?_))
 rintro _ q0 x m
 replace m:tB u p0 q0=some x:=m
 unfold tB at m
 refine v (cZ zB rfl (v ?_))
 apply vi m <;> intro c0 m
 refine v (v (v (vx m o3 rfl rfl λ_ _ m=>cZ kK rfl (v ?_))))
 apply vi m <;> intro c1 m
 refine v (v (fO m λm=> ?_))
 obtain rfl:=eB m
 exact dQ rfl
 exact v (v (qO m))
 exact v (OP m)
 rintro _ r0 m
 refine v (v ?_)
 obtain rfl:=eB m
 exact dQ rfl
theorem R8:aO Tryz.prog 139=true:=by kernel_rfl
def CM (m:Nat) (p0:List dS) (q0:Int):Option (Lp (Int) ((List dS)×Int)):=
 if (decide (q0 < (p0.length:Int)))=true then ((ix p0 q0).bind λx0=>(B7 m x0.Path).bind λy0=>if (!y0)=true then (some (.ret ([],1))) else some (.go (IntKind.wrap .i64 (q0+1)))) else some (.brk q0)
def CN (m:Nat) (p0:List dS) (q0:List dS) (q1:Int) (q2:Int):Option (Lp (Int) (Lp ((List dS)×Int) ((List dS)×Int))):=
 after (if (decide (q2 < (q0.length:Int)))=true then ((ix q0 q2).bind λx0=>(ix p0 q1).bind λx1=>some (.brk (Op.bytesLess x0.Path.toList x1.Path.toList))) else some (.brk false):Option (Lp (Bool) (Lp (Int) (Lp ((List dS)×Int) ((List dS)×Int))))) λj0=>if j0=true then (some (.go (IntKind.wrap .i64 (q2+1)))) else some (.brk q2)
def CO (m:Nat) (p0:List dS) (q0:List dS) (q1:Int):Option (Lp ((List dS)×Int) ((List dS)×Int)):=
 if (decide (q1 < (p0.length:Int)))=true then (after (aT (λs=>CN m p0 q0 q1 s) m 0) λr0=>after (if (decide (r0 < (q0.length:Int)))=true then ((ix q0 r0).bind λx0=>(ix p0 q1).bind λx1=>some (.brk (x0.Path.toList==x1.Path.toList))) else some (.brk false):Option (Lp (Bool) (Lp ((List dS)×Int) ((List dS)×Int)))) λj0=>if j0=true then (some (.ret ([],9))) else (slc q0 0 r0).bind λx2=>(ix p0 q1).bind λx3=>(ix p0 q1).bind λx4=>(app ([]:List dS) x2).bind λz0=>(zQ m x4.Data).bind λy0=>(app z0 ([({ Path:=x3.Path,Data:=y0}:dS)]:List dS)).bind λz1=>(slc q0 r0 (q0.length:Int)).bind λx5=>(app z1 x5).bind λz2=>some (.go (z2,IntKind.wrap .i64 (q1+1)))) else some (.brk (q0,q1))
def M85 (m:Nat) (p0:List dS):Option ((List dS)×Int):=
 (J6 m p0).bind λy4=>if y4=true then (some ([],2)) else after (aT (λs=>CM m p0 s) m 0) λr0=>after (aT (λs=>CO m p0 s.1 s.2) m ([],0)) λ⟨r1,r2⟩=>some (r1,0)
theorem W85 {w:Nat} {p0:List dS} {o:(List dS)×Int} (h:aF) (m:M85 w p0=some o):
 aL Tryz.prog 85 [.sl none 2 (List.map eX p0)] h (λr h'=>r= .tup [.sl none 2 (List.map eX o.1),nZ o.2]∧h'=h):=by
 refine fN 91 [.tmp 2,.tmp 3] Tryz.func85 rfl rfl rfl rfl ?_
 unfold M85 at m
 refine v (v (vk aA2 R8 m rfl rfl λ_ m=>v ?_))
 apply vi m <;> intro c6 m
 refine v (v ?_)
 cases m
 exact vr λu=>dX.of2 (.inl rfl) (fU _ _ (.sc (.slice _ _ _)) rfl) (fU _ _ (.sc (.int _ _)) rfl) (h9.refl _) (aX _) (bH.refl _ _) ⟨rfl,rfl⟩
 refine v (v (iI m (σ:=Int) (λs=> []) (λs=>.c 0 (.sl none 2 (List.map eX p0)) (.c 4 (nZ s) .nil)) (lx (.k2 .nil)) ?_ ?_))
 rintro _ q0 x m
 replace m:CM w p0 q0=some x:=m
 unfold CM at m
 refine v (cZ zB rfl (v ?_))
 apply vi m <;> intro c0 m
 refine v (v (v (vx m o3 rfl rfl λ_ _ m=>vk MA D9 m rfl rfl λ_ m=>v ?_)))
 apply vi m <;> intro c1 m
 refine v (v (fO m λm=> ?_))
 cases m
 exact vr λu=>dX.of2 (.inl rfl) (fU _ _ (.sc (.slice _ _ _)) rfl) (fU _ _ (.sc (.int _ _)) rfl) (h9.refl _) (aX _) (bH.refl _ _) ⟨rfl,rfl⟩
 exact v (v (qO m))
 exact v (OP m)
 rintro _ r0 m
 refine v (v (pU (FE (.tok 95 2 (([]:List dS).length*2)) 5 (ow none 2 (List.map eX [])) (jE _ _)) (nC m (σ:=(List dS)×Int) (τ:=Option cB) (λg s=> [(g,.tok 95 2 ((s.1:List dS).length*2))]) (λg s=>(g=none→s.1= [])) (λg s=>.c 0 (.sl none 2 (List.map eX p0)) (.c 5 (ow g 2 (List.map eX s.1)) (.c 6 (nZ s.2) .nil))) none (λ_=>rfl) (lx (.k3 .nil)) ?_ ?_)))
 rintro tg0 ⟨q1,q2⟩ x t0 m
 replace m:CO w p0 q1 q2=some x:=m
 unfold CO at m
 refine v (cZ zB rfl (v ?_))
 apply vi m <;> intro c2 m
 refine v (v (v (vs (iI m (σ:=Int) (λs=> [(tg0,.tok 95 2 ((q1:List dS).length*2))]) (λs=>.c 0 (.sl none 2 (List.map eX p0)) (.c 5 (ow tg0 2 (List.map eX q1)) (.c 6 (nZ q2) (.c 7 (nZ s) .nil)))) (lx (.k4 .nil)) ?_ ?_))))
 rintro _ q3 x m
 replace m:CN w p0 q1 q2 q3=some x:=m
 unfold CN at m
 refine vs (vs (fB m (σ:=Bool) (λs=> [(tg0,.tok 95 2 ((q1:List dS).length*2))]) (λs=>.c 0 (.sl none 2 (List.map eX p0)) (.c 5 (ow tg0 2 (List.map eX q1)) (.c 6 (nZ q2) (.c 7 (nZ q3) (.c 46 (.sc (.bool s)) .nil))))) (λx m=> ?_) ?_))
 refine v (vq (by kernel_rfl) (bU (tU zB t0 rfl) ?_))
 apply vi m <;> intro b0 m
 rw[b0]
 obtain⟨_,X0,m⟩:=aC m
 exact bU (RA X0 o3 t0 rfl rfl) (vx m o3 rfl rfl λ_ _ m=>bU (vI rfl rfl rfl trivial) (mC m))
 rw[b0]
 exact mC m
 rintro _ j0 m
 refine v ?_
 apply vi m <;> intro c3 m
 exact v (v (v (fR m)))
 exact v (vN m)
 rintro _ r1 m
 refine vs (vs (fB m (σ:=Bool) (λs=> [(tg0,.tok 95 2 ((q1:List dS).length*2))]) (λs=>.c 0 (.sl none 2 (List.map eX p0)) (.c 5 (ow tg0 2 (List.map eX q1)) (.c 6 (nZ q2) (.c 7 (nZ r1) (.c 65 (.sc (.bool s)) .nil))))) (λx m=> ?_) ?_))
 refine v (vq (by kernel_rfl) (bU (tU zB t0 rfl) ?_))
 apply vi m <;> intro b1 m
 rw[b1]
 obtain⟨_,X1,m⟩:=aC m
 exact bU (RA X1 o3 t0 rfl rfl) (vx m o3 rfl rfl λ_ _ m=>bU (vI rfl rfl rfl trivial) (mC m))
 rw[b1]
 exact mC m
 rintro _ j1 m
 refine v ?_
 apply vi m <;> intro c4 m
 refine v (v (fO m λm=> ?_))
 cases m
 exact vr λu=>dX.of2 (.inl rfl) (fU _ _ (.sc (.slice _ _ _)) rfl) (fU _ _ (.sc (.int _ _)) rfl) (aS (List.nil_sublist _) u).1 (aX _) (bH.refl _ _) ⟨rfl,rfl⟩
 refine v (v (v (vz [] mixed (λu=>trivial) λu=>zC 0 rfl (eW (.sc (.slice _ _ _)) rfl) (zC 1 rfl (eW (ow _ _ _) rfl) (zI 2 rfl rfl ?_)))))
 obtain⟨_,X2,m⟩:=aC m
 refine zC 3 rfl (BP X2 o3 rfl t0 rfl rfl rfl) (zC 5 rfl (eW (.sl _ _ _) rfl) (zI 6 rfl rfl ?_))
 obtain⟨x0,X3,m⟩:=aC m
 refine zC 7 rfl (l8 X3 o3 rfl rfl) (zC 8 rfl (oY LV rfl rfl) (zC 9 rfl (mN (.sc (.string x0.Path)) tI rfl rfl) (zC 10 rfl (eW (.sl _ _ _) rfl) (zI 11 rfl rfl ?_))))
 obtain⟨x1,X4,m⟩:=aC m
 refine zC 12 rfl (l8 X4 o3 rfl rfl) (zC 13 rfl (oY LW rfl rfl) (zC 14 rfl (mN (.sl none 1 (List.map dD x1.Data)) lH rfl rfl) ?_))
 obtain⟨z0,Z0,m⟩:=aC m
 refine zE 4 rfl (nX (c:=eX) Z0 P0 rfl rfl u nofun (nI (rR X2 t0)) λtg1 t1 K0=>⟨trivial, ?_⟩)
 obtain⟨y0,Y0,m⟩:=aC m
 refine zC 15 rfl (bZ (MJ _ Y0) rfl EG rfl) (zC 16 rfl (fG (eX ({ Path:=x0.Path,Data:=y0}:dS)) aDB rfl) (zC 17 rfl (eO (List.map eX ([({ Path:=x0.Path,Data:=y0}:dS)]:List dS)) P0 rfl rfl rfl rfl) ?_))
 obtain⟨z1,Z1,m⟩:=aC m
 refine zE 18 rfl (fF (c:=eX) 0 Z1 P0 rfl rfl rfl t1 K0 rfl λtg2 t2 K1=>⟨trivial, ?_⟩)
 refine zC 19 rfl (iB (ow _ _ _) rfl) (zX (qk (f:=.c 8 _ (PP 84 _ _ _ _ (.c 70 _ (JC 80 _ _ _ _ _ _ _ _ _ _ (PP 69 _ _ _ _ _))))) K1 rfl (v ?_)))
 obtain⟨_,X5,m⟩:=aC m
 refine bU (BP X5 o3 rfl t0 rfl rfl rfl) ?_
 obtain⟨z2,Z2,m⟩:=aC m
 exact ve λu=>fF (c:=eX) 0 Z2 P0 rfl rfl rfl t2 u (nI (rR X5 t0)) λtg3 t3 K2=>qk K2 rfl (v (eY m tg3 t3 (kP [0] rfl rfl (.k3 .nil))))
 exact v (lA m tg0 t0 (lx (.k3 .nil)))
 rintro tg4 ⟨r2,r3⟩ t4 m
 refine v (v ?_)
 cases m
 exact vr λu=>dX.of2 (.inl rfl) (fU _ _ (ow _ _ _) rfl) (fU _ _ (.sc (.int _ _)) rfl) (aS (List.nil_sublist _) u).1 ((eZ _ 0 t4 u rfl)) (bH.refl _ _) ⟨rfl,rfl⟩
theorem aGD:aO Tryz.prog 85=true:=by kernel_rfl
def UM (m:Nat):Option ((Ar 64)):=
 some (⟨[1116352408,1899447441,3049323471,3921009573,961987163,1508970993,2453635748,2870763221,3624381080,310598401,607225278,1426881987,1925078388,2162078206,2614888103,3248222580,3835390401,4022224774,264347078,604807628,770255983,1249150122,1555081692,1996064986,2554220882,2821834349,2952996808,3210313671,3336571891,3584528711,113926993,338241895,666307205,773529912,1294757372,1396182291,1695183700,1986661051,2177026350,2456956037,2730485921,2820302411,3259730800,3345764771,3516065817,3600352804,4094571909,275423344,430227734,506948616,659060556,883997877,958139571,1322822218,1537002063,1747873779,1955562222,2024104815,2227730452,2361852424,2428436474,2756734187,3204031479,3329325298],rfl⟩:Ar 64)
theorem aGE {w:Nat} {o:(Ar 64)} (h:aF) (m:UM w=some o):
 aL Tryz.prog 144 [] h (λr h'=>r= .agg (dB o)∧h'=h):=by
 refine fN 2 [.cell 0 181] Tryz.func144 rfl rfl rfl rfl ?_
 unfold UM at m
 refine v (ve λu=>bD (dB (VI 64)) u L0 rfl rfl λk2 K3=>qk K3 rfl (v (bU (BQ [1116352408,1899447441,3049323471,3921009573,961987163,1508970993,2453635748,2870763221,3624381080,310598401,607225278,1426881987,1925078388,2162078206,2614888103,3248222580,3835390401,4022224774,264347078,604807628,770255983,1249150122,1555081692,1996064986,2554220882,2821834349,2952996808,3210313671,3336571891,3584528711,113926993,338241895,666307205,773529912,1294757372,1396182291,1695183700,1986661051,2177026350,2456956037,2730485921,2820302411,3259730800,3345764771,3516065817,3600352804,4094571909,275423344,430227734,506948616,659060556,883997877,958139571,1322822218,1537002063,1747873779,1955562222,2024104815,2227730452,2361852424,2428436474,2756734187,3204031479,3329325298] rfl TM rfl rfl rfl) (ve λu=>aK 0 (dB (⟨[1116352408,1899447441,3049323471,3921009573,961987163,1508970993,2453635748,2870763221,3624381080,310598401,607225278,1426881987,1925078388,2162078206,2614888103,3248222580,3835390401,4022224774,264347078,604807628,770255983,1249150122,1555081692,1996064986,2554220882,2821834349,2952996808,3210313671,3336571891,3584528711,113926993,338241895,666307205,773529912,1294757372,1396182291,1695183700,1986661051,2177026350,2456956037,2730485921,2820302411,3259730800,3345764771,3516065817,3600352804,4094571909,275423344,430227734,506948616,659060556,883997877,958139571,1322822218,1537002063,1747873779,1955562222,2024104815,2227730452,2361852424,2428436474,2756734187,3204031479,3329325298],rfl⟩:Ar 64)) u rfl rfl rfl rfl RF rfl rfl λK6=>qk K6 rfl ?_))))
 refine v ?_
 cases m
 exact vr λu=>dX.of1 (.inl rfl) (qD (.agg (dB (⟨[1116352408,1899447441,3049323471,3921009573,961987163,1508970993,2453635748,2870763221,3624381080,310598401,607225278,1426881987,1925078388,2162078206,2614888103,3248222580,3835390401,4022224774,264347078,604807628,770255983,1249150122,1555081692,1996064986,2554220882,2821834349,2952996808,3210313671,3336571891,3584528711,113926993,338241895,666307205,773529912,1294757372,1396182291,1695183700,1986661051,2177026350,2456956037,2730485921,2820302411,3259730800,3345764771,3516065817,3600352804,4094571909,275423344,430227734,506948616,659060556,883997877,958139571,1322822218,1537002063,1747873779,1955562222,2024104815,2227730452,2361852424,2428436474,2756734187,3204031479,3329325298],rfl⟩:Ar 64))) W9 rfl (a9 0 u rfl) rfl) (aS (List.nil_sublist _) u).1 (bH.refl _ _) ⟨rfl,rfl⟩
theorem aA4:aO Tryz.prog 144=true:=by kernel_rfl
def wD (m:Nat) (q0:List Int):Option (Lp ((List Int)) ((List Int))):=
 if (((IntKind.wrap .i64 ((q0.length:Int)+8)).tmod 64) !=0)=true then ((app q0 ([0]:List Int)).bind λz0=>some (.go z0)) else some (.brk q0)
def wE (m:Nat) (p0:List Int) (q0:List Int) (q1:Int):Option (Lp ((List Int)×Int) ((List Int))):=
 if (decide (0≤q1))=true then (grd (decide (0≤(IntKind.wrap .u64 (8*(IntKind.wrap .u64 q1))))) <| (app q0 ([IntKind.wrap .u8 ((IntKind.wrap .u64 ((IntKind.wrap .u64 (p0.length:Int))*8)).fdiv (2 ^ (min ((IntKind.wrap .u64 (8*(IntKind.wrap .u64 q1))):Int).toNat (IntKind.bits .u64))))]:List Int)).bind λz0=>some (.go (z0,IntKind.wrap .i64 (q1 - 1)))) else some (.brk (q0,q1))
def NP (m:Nat) (p0:List Int):Option ((List Int)):=
 (app ([]:List Int) p0).bind λz4=>(app z4 ([128]:List Int)).bind λz0=>after (aT (λs=>wD m s) m z0) λr0=>after (aT (λs=>wE m p0 s.1 s.2) m (r0,7)) λ⟨r1,r2⟩=>some r1
theorem aGF {w:Nat} {p0:List Int} {o:(List Int)} (h:aF) (m:NP w p0=some o):
 aL Tryz.prog 145 [.sl none 1 (List.map dD p0)] h (λr h'=>r= .sl none 1 (List.map dD o)∧h'=h):=by
 refine fN 37 [.tmp 2] Tryz.func145 rfl rfl rfl rfl ?_
 unfold NP at m
 refine v (v (v ?_))
 obtain⟨z4,Z5,m⟩:=aC m
 refine ve λu=>nX (c:=dD) Z5 jH rfl rfl u nofun rfl λtg6 t7 K8=>qk K8 rfl (bU (eO (List.map dD ([128]:List Int)) jH rfl rfl rfl rfl) ?_)
 obtain⟨z0,Z0,m⟩:=aC m
 refine ve λu=>fF (c:=dD) 0 Z0 jH rfl rfl rfl t7 u rfl λtg0 t0 K0=>qk K0 rfl (vs (nC m (σ:=(List Int)) (τ:=Option cB) (λg s=> [(g,.tok 5 1 ((s:List Int).length*1))]) (λg s=>(g=none→s= [])) (λg s=>.c 0 (.sl none 1 (List.map dD p0)) (.c 3 (ow g 1 (List.map dD s)) .nil)) tg0 t0 (lx (.k2 .nil)) ?_ ?_))
 rintro tg1 q0 x t1 m
 replace m:wD w q0=some x:=m
 unfold wD at m
 refine v (bU (tU kK t1 rfl) (v ?_))
 apply vi m <;> intro c0 m
 refine v (v (v (bU (eO (List.map dD ([0]:List Int)) jH rfl rfl rfl rfl) ?_)))
 obtain⟨z1,Z1,m⟩:=aC m
 exact ve λu=>fF (c:=dD) 0 Z1 jH rfl rfl rfl t1 u rfl λtg2 t2 K1=>qk K1 rfl (eY m tg2 t2 (lx (.k2 .nil)))
 exact v (lA m tg1 t1 (lx (.k2 .nil)))
 rintro tg3 r0 t3 m
 refine v (cZ kK rfl (v (nC m (σ:=(List Int)×Int) (τ:=Option cB) (λg s=> [(g,.tok 5 1 ((s.1:List Int).length*1))]) (λg s=>(g=none→s.1= [])) (λg s=>.c 3 (ow g 1 (List.map dD s.1)) (.c 4 (.sc (.int .u64 (IntKind.wrap .u64 ((IntKind.wrap .u64 (p0.length:Int))*8)))) (.c 5 (nZ s.2) .nil))) tg3 t3 (lx (.k3 .nil)) ?_ ?_)))
 rintro tg4 ⟨q1,q2⟩ x t4 m
 replace m:wE w p0 q1 q2=some x:=m
 unfold wE at m
 refine v (v ?_)
 apply vi m <;> intro c1 m
 refine v (v (v (S1 m λ_ m=>bU (eO (List.map dD ([IntKind.wrap .u8 ((IntKind.wrap .u64 ((IntKind.wrap .u64 (p0.length:Int))*8)).fdiv (2 ^ (min ((IntKind.wrap .u64 (8*(IntKind.wrap .u64 q2))):Int).toNat (IntKind.bits .u64))))]:List Int)) jH rfl rfl rfl rfl) ?_)))
 obtain⟨z2,Z2,m⟩:=aC m
 exact ve λu=>fF (c:=dD) 0 Z2 jH rfl rfl rfl t4 u rfl λtg5 t5 K2=>qk K2 rfl (v (eY m tg5 t5 (lx (.k3 .nil))))
 exact v (lA m tg4 t4 (lx (.k3 .nil)))
 rintro tg7 ⟨r1,r2⟩ t6 m
 refine v (v ?_)
 obtain rfl:=eB m
 exact vr λu=>dX.of1 (.inl rfl) (fU _ _ (ow _ _ _) rfl) (aS (List.nil_sublist _) u).1 ((eZ _ 0 t6 u rfl)) ⟨rfl,rfl⟩
theorem aA5:aO Tryz.prog 145=true:=by kernel_rfl
def tC (m:Nat) (p0:Int) (p1:Int):Option (Int):=
 grd (decide (0≤p1)) <| grd (decide (0≤(IntKind.wrap .u64 (32 - p1)))) <| some (cH .or .u32 (p0.fdiv (2 ^ (min (p1:Int).toNat (IntKind.bits .u32)))) (IntKind.wrap .u32 (p0*2 ^ (min ((IntKind.wrap .u64 (32 - p1)):Int).toNat (IntKind.bits .u32)))))
theorem zR {u:Nat} {p0:Int} {p1:Int} {o:Int} (h:aF) (m:tC u p0 p1=some o):
 aL Tryz.prog 146 [.sc (.int .u32 p0),.sc (.int .u64 p1)] h (λr h'=>r= .sc (.int .u32 o)∧h'=h):=by
 refine fN 13 [.tmp 4] Tryz.func146 rfl rfl rfl rfl ?_
 unfold tC at m
 refine v (v (S1 m λ_ m=>S1 m λ_ m=>v ?_))
 cases m
 exact dQ rfl
theorem qG:aO Tryz.prog 146=true:=by kernel_rfl
def CP (m:Nat) (y0:(List Int)) (q0:Int) (q1:Int) (q2:Ar 64) (q3:Int):Option (Lp ((Ar 64)×Int) (Lp ((Ar 64)) (Lp ((Ar 64)×Int) (Lp ((Ar 8)×Int) (bL))))):=
 if (decide (q3 < 4))=true then ((ix q2.1 q1).bind λx0=>(ix y0 (IntKind.wrap .i64 ((IntKind.wrap .i64 (q0+(IntKind.wrap .i64 (4*q1))))+q3))).bind λx1=>(ix q2.1 q1).bind λ_=>some (.go (RB q2 q1.toNat (cH .or .u32 (IntKind.wrap .u32 (x0*2 ^ (min (8:Int).toNat (IntKind.bits .u32)))) (IntKind.wrap .u32 x1)),IntKind.wrap .i64 (q3+1)))) else some (.brk (q2,q3))
def CQ (m:Nat) (y0:(List Int)) (q0:Int) (q1:Ar 64) (q2:Int):Option (Lp ((Ar 64)×Int) (Lp ((Ar 8)×Int) (bL))):=
 if (decide (q2 < 64))=true then (after (if (decide (q2 < 16))=true then (after (aT (λs=>CP m y0 q0 q2 s.1 s.2) m (q1,0)) λ⟨r0,r1⟩=>some (.brk r0)) else (ix q1.1 (IntKind.wrap .i64 (q2 - 15))).bind λx0=>(ix q1.1 (IntKind.wrap .i64 (q2 - 2))).bind λx1=>(ix q1.1 (IntKind.wrap .i64 (q2 - 16))).bind λx2=>(ix q1.1 (IntKind.wrap .i64 (q2 - 7))).bind λx3=>(tC m x0 7).bind λy1=>(tC m x0 18).bind λy2=>(tC m x1 17).bind λy3=>(tC m x1 19).bind λy4=>(ix q1.1 q2).bind λ_=>some (.brk (RB q1 q2.toNat (IntKind.wrap .u32 ((IntKind.wrap .u32 ((IntKind.wrap .u32 (x2+x3))+(cH .xor .u32 (cH .xor .u32 y1 y2) (x0.fdiv (2 ^ (min (3:Int).toNat (IntKind.bits .u32)))))))+(cH .xor .u32 (cH .xor .u32 y3 y4) (x1.fdiv (2 ^ (min (10:Int).toNat (IntKind.bits .u32))))))))):Option (Lp ((Ar 64)) (Lp ((Ar 64)×Int) (Lp ((Ar 8)×Int) (bL))))) λj0=>some (.go (j0,IntKind.wrap .i64 (q2+1)))) else some (.brk (q1,q2))
def CR (m:Nat) (y6:(Ar 64)) (r0:Ar 64) (q0:Ar 8) (q1:Int):Option (Lp ((Ar 8)×Int) (Lp ((Ar 8)×Int) (bL))):=
 if (decide (q1 < 64))=true then ((ix q0.1 0).bind λx0=>(ix q0.1 4).bind λx1=>(ix q0.1 7).bind λx2=>(tC m x1 6).bind λy0=>(tC m x1 11).bind λy1=>(tC m x1 25).bind λy2=>(ix q0.1 5).bind λx3=>(ix q0.1 6).bind λx4=>(ix y6.1 q1).bind λx5=>(ix r0.1 q1).bind λx6=>(tC m x0 2).bind λy3=>(tC m x0 13).bind λy4=>(tC m x0 22).bind λy5=>(ix q0.1 1).bind λx7=>(ix q0.1 2).bind λx8=>(ix q0.1 1).bind λx9=>(ix q0.1 2).bind λx10=>(ix q0.1 0).bind λx11=>(ix q0.1 1).bind λx12=>(ix q0.1 2).bind λx13=>(ix q0.1 3).bind λx14=>(ix q0.1 4).bind λx15=>(ix q0.1 5).bind λx16=>(ix q0.1 6).bind λx17=>some (.go ((⟨[IntKind.wrap .u32 ((IntKind.wrap .u32 ((IntKind.wrap .u32 ((IntKind.wrap .u32 ((IntKind.wrap .u32 (x2+(cH .xor .u32 (cH .xor .u32 y0 y1) y2)))+(cH .xor .u32 (cH .and .u32 x1 x3) (cH .and .u32 (cH .xor .u32 (IntKind.max .u32) x1) x4))))+x5))+x6))+(IntKind.wrap .u32 ((cH .xor .u32 (cH .xor .u32 y3 y4) y5)+(cH .xor .u32 (cH .xor .u32 (cH .and .u32 x0 x7) (cH .and .u32 x0 x8)) (cH .and .u32 x9 x10))))),x11,x12,x13,IntKind.wrap .u32 (x14+(IntKind.wrap .u32 ((IntKind.wrap .u32 ((IntKind.wrap .u32 ((IntKind.wrap .u32 (x2+(cH .xor .u32 (cH .xor .u32 y0 y1) y2)))+(cH .xor .u32 (cH .and .u32 x1 x3) (cH .and .u32 (cH .xor .u32 (IntKind.max .u32) x1) x4))))+x5))+x6))),x15,x16,x17],rfl⟩:Ar 8),IntKind.wrap .i64 (q1+1)))) else some (.brk (q0,q1))
def CS (m:Nat) (r0:Ar 8) (q0:Ar 8) (q1:Int):Option (Lp ((Ar 8)×Int) (Lp ((Ar 8)×Int) (bL))):=
 if (decide (q1 < 8))=true then ((ix q0.1 q1).bind λx0=>(ix r0.1 q1).bind λx1=>(ix q0.1 q1).bind λ_=>some (.go (RB q0 q1.toNat (IntKind.wrap .u32 (x0+x1)),IntKind.wrap .i64 (q1+1)))) else some (.brk (q0,q1))
def CT (m:Nat) (y6:(Ar 64)) (y0:(List Int)) (q0:Ar 8) (q1:Int):Option (Lp ((Ar 8)×Int) (bL)):=
 if (decide (q1 < (y0.length:Int)))=true then (after (aT (λs=>CQ m y0 q1 s.1 s.2) m ((VI 64),0)) λ⟨r0,r1⟩=>after (aT (λs=>CR m y6 r0 s.1 s.2) m (q0,0)) λ⟨r2,r3⟩=>after (aT (λs=>CS m r2 s.1 s.2) m (q0,0)) λ⟨r4,r5⟩=>some (.go (r4,IntKind.wrap .i64 (q1+64)))) else some (.brk (q0,q1))
def wG (m:Nat) (r0:Ar 8) (q0:bL) (q1:Int):Option (Lp (bL×Int) (bL)):=
 if (decide (q1 < 32))=true then ((ix r0.1 (IntKind.wrap .i64 (q1.tdiv 4))).bind λx0=>grd (decide (0≤(IntKind.wrap .u64 (IntKind.wrap .i64 (24 - (IntKind.wrap .i64 (8*(q1.tmod 4)))))))) <| (ix q0.1 q1).bind λ_=>some (.go (RB q0 q1.toNat (IntKind.wrap .u8 (x0.fdiv (2 ^ (min ((IntKind.wrap .u64 (IntKind.wrap .i64 (24 - (IntKind.wrap .i64 (8*(q1.tmod 4)))))):Int).toNat (IntKind.bits .u32))))),IntKind.wrap .i64 (q1+1)))) else some (.brk (q0,q1))
def V2 (m:Nat) (p0:List Int):Option (bL):=
 (UM m).bind λy6=>(NP m p0).bind λy0=>after (aT (λs=>CT m y6 y0 s.1 s.2) m ((⟨[1779033703,3144134277,1013904242,2773480762,1359893119,2600822924,528734635,1541459225],rfl⟩:Ar 8),0)) λ⟨r0,r1⟩=>after (aT (λs=>wG m r0 s.1 s.2) m (jX,0)) λ⟨r2,r3⟩=>some r2
theorem W87 {w:Nat} {p0:List Int} {o:bL} (h:aF) (m:V2 w p0=some o):
 aL Tryz.prog 87 [.sl none 1 (List.map dD p0)] h (λr h'=>r= .agg (bJ o)∧h'=h):=by
 refine fN 208 [.cell 2 36] Tryz.func87 rfl rfl rfl rfl ?_
 unfold V2 at m
 refine v (ve λu=>bD (bJ jX) u JI rfl rfl λk2 K3=>qk K3 rfl (v (vk aGE aA4 m rfl rfl λy6 m=>ve λu=>bD (dB (VI 64)) u L0 rfl rfl λk8 K9=>qk K9 rfl (ve λu=>aK 0 (dB y6) u rfl rfl rfl rfl RF rfl rfl λK0=>qk K0 rfl (v (bU (BQ [1779033703,3144134277,1013904242,2773480762,1359893119,2600822924,528734635,1541459225] rfl L5 rfl rfl rfl) (ve λu=>bD (eH (VI 8)) u RG rfl rfl λk13 K1=>qk K1 rfl (ve λu=>aK 0 (eH (⟨[1779033703,3144134277,1013904242,2773480762,1359893119,2600822924,528734635,1541459225],rfl⟩:Ar 8)) u rfl rfl rfl rfl L4 rfl rfl λK2=>qk K2 rfl (v (vk aGF aA5 m rfl rfl λy0 m=>v (iI m (σ:=(Ar 8)×Int) (λs=> [(some k13,.obj 183 (eH s.1)),(some k8,.obj 181 (dB y6)),(some k2,.obj 36 (bJ jX))]) (λs=>.c 2 (.ptr k2 0) (.c 3 (.ptr k8 0) (.c 4 (.ptr k13 0) (.c 5 (.sl none 1 (List.map dD y0)) (.c 6 (nZ s.2) .nil))))) (lx (.k5 .nil)) ?_ ?_)))))))))))
 rintro _ ⟨q0,q1⟩ x m
 replace m:CT w y6 y0 q0 q1=some x:=m
 unfold CT at m
 refine v (cZ kK rfl (v ?_))
 apply vi m <;> intro c0 m
 refine v (v (v (ve λu=>bD (dB (VI 64)) u L0 rfl rfl λk1783 K4=>qk K4 rfl (v (iI m (σ:=(Ar 64)×Int) (λs=> [(some k1783,.obj 181 (dB s.1)),(some k13,.obj 183 (eH q0)),(some k8,.obj 181 (dB y6)),(some k2,.obj 36 (bJ jX))]) (λs=>.c 2 (.ptr k2 0) (.c 3 (.ptr k8 0) (.c 4 (.ptr k13 0) (.c 5 (.sl none 1 (List.map dD y0)) (.c 6 (nZ q1) (.c 7 (.ptr k1783 0) (.c 8 (nZ s.2) .nil))))))) (lx (.k7 .nil)) ?_ ?_)))))
 rintro _ ⟨q2,q3⟩ x m
 replace m:CQ w y0 q1 q2 q3=some x:=m
 unfold CQ at m
 refine v (v ?_)
 apply vi m <;> intro c1 m
 refine v (vs (fB m (σ:=(Ar 64)) (λs=> [(some k1783,.obj 181 (dB s)),(some k13,.obj 183 (eH q0)),(some k8,.obj 181 (dB y6)),(some k2,.obj 36 (bJ jX))]) (λs=>.c 2 (.ptr k2 0) (.c 3 (.ptr k8 0) (.c 4 (.ptr k13 0) (.c 5 (.sl none 1 (List.map dD y0)) (.c 6 (nZ q1) (.c 7 (.ptr k1783 0) (.c 8 (nZ q3) .nil))))))) (λx m=> ?_) ?_))
 refine v (v (v ?_))
 apply vi m <;> intro c2 m
 refine v (iI m (σ:=(Ar 64)×Int) (λs=> [(some k1783,.obj 181 (dB s.1)),(some k13,.obj 183 (eH q0)),(some k8,.obj 181 (dB y6)),(some k2,.obj 36 (bJ jX))]) (λs=>.c 2 (.ptr k2 0) (.c 3 (.ptr k8 0) (.c 4 (.ptr k13 0) (.c 5 (.sl none 1 (List.map dD y0)) (.c 6 (nZ q1) (.c 7 (.ptr k1783 0) (.c 8 (nZ q3) (.c 9 (nZ s.2) .nil)))))))) (lx (.k8 .nil)) ?_ ?_)
 rintro _ ⟨q4,q5⟩ x m
 replace m:CP w y0 q1 q3 q4 q5=some x:=m
 unfold CP at m
 refine v (v ?_)
 apply vi m <;> intro c3 m
 refine v (v (v (vz [(17,some k1783,.obj 181 (dB q4))] mixed (λu=>⟨λ_=>aI 0 u rfl,trivial⟩) λu=>zI 0 rfl rfl (zI 1 rfl rfl ?_))))
 obtain⟨x0,X0,m⟩:=aC m
 refine zC 2 rfl (eF (y:=q4) X0 rW rfl rfl) (vL 3 rfl (λ_ _ hi hB=>eP (y:=q4) 0 X0 iA rfl (At.s (fW.get 0 hi rfl (hB 17 (by kernel_rfl)))) (eQ _)) (zC 4 rfl (SK rfl rfl rfl (by decide)) (zC 5 rfl (eW (.sl _ _ _) rfl) (zI 6 rfl rfl (zI 7 rfl rfl (zC 8 rfl (lE rfl rfl rfl trivial) (zC 9 rfl (lE rfl rfl rfl trivial) (zI 10 rfl rfl (zC 11 rfl (lE rfl rfl rfl trivial) ?_)))))))))
 obtain⟨x1,X1,m⟩:=aC m
 refine zC 12 rfl (l8 X1 GD rfl rfl) (zC 13 rfl (mN (.sc (.int .u8 x1)) BX rfl rfl) (zC 14 rfl (I7 ti5 W8 rfl) (zC 15 rfl (lE rfl rfl rfl trivial) ?_)))
 obtain⟨_,X2,m⟩:=aC m
 refine zC 16 rfl (eF (y:=q4) X2 rW rfl rfl) (zE 17 rfl (vS (y:=q4) (v:=cH .or .u32 (IntKind.wrap .u32 (x0*2 ^ (min (8:Int).toNat (IntKind.bits .u32)))) (IntKind.wrap .u32 x1)) 0 u X2 rfl rfl rfl LZ λK5=>⟨⟨λe=>absurd e (by decide),trivial⟩, ?_⟩))
 exact zX (qk (f:=vM 57 _ _ _ _ _ _ _ _ _ _ _ _ _ _ _ _ _ _) K5 rfl (v (F6 m)))
 exact v (bq8 m)
 rintro _ ⟨r0,r1⟩ m
 exact v (p8 m)
 refine v (v (vq (by kernel_rfl) ?_))
 obtain⟨x2,X3,m⟩:=aC m
 refine bU (eF (y:=q2) X3 rW rfl rfl) (vn (λu=>eP (y:=q2) 0 X3 iA rfl (a9 0 u rfl) (eQ _)) ?_)
 obtain⟨x3,X4,m⟩:=aC m
 refine bU (eF (y:=q2) X4 rW rfl rfl) (vn (λu=>eP (y:=q2) 0 X4 iA rfl (a9 0 u rfl) (eQ _)) (v (vz [(29,some k1783,.obj 181 (dB q2))] mixed (λu=>⟨λ_=>aI 0 u rfl,trivial⟩) λu=>zI 0 rfl rfl (zI 1 rfl rfl (zC 2 rfl (lE rfl rfl rfl trivial) ?_)))))
 obtain⟨x4,X5,m⟩:=aC m
 refine zC 3 rfl (eF (y:=q2) X5 rW rfl rfl) (vL 4 rfl (λ_ _ hi hB=>eP (y:=q2) 0 X5 iA rfl (At.s (fW.get 0 hi rfl (hB 29 (by kernel_rfl)))) (eQ _)) (zI 5 rfl rfl (zC 6 rfl (lE rfl rfl rfl trivial) ?_)))
 obtain⟨x5,X6,m⟩:=aC m
 refine zC 7 rfl (eF (y:=q2) X6 rW rfl rfl) (vL 8 rfl (λ_ _ hi hB=>eP (y:=q2) 0 X6 iA rfl (At.s (fW.get 0 hi rfl (hB 29 (by kernel_rfl)))) (eQ _)) (zC 9 rfl (lE rfl rfl rfl trivial) (zI 10 rfl rfl ?_)))
 obtain⟨y1,Y0,m⟩:=aC m
 refine zC 11 rfl (bZ (zR _ Y0) rfl qG rfl) (zI 12 rfl rfl ?_)
 obtain⟨y2,Y1,m⟩:=aC m
 refine zC 13 rfl (bZ (zR _ Y1) rfl qG rfl) (zC 14 rfl (lE rfl rfl rfl trivial) (zI 15 rfl rfl (zC 16 rfl (SK rfl rfl rfl (by decide)) (zC 17 rfl (lE rfl rfl rfl trivial) (zC 18 rfl (lE rfl rfl rfl trivial) (zI 19 rfl rfl ?_))))))
 obtain⟨y3,Y2,m⟩:=aC m
 refine zC 20 rfl (bZ (zR _ Y2) rfl qG rfl) (zI 21 rfl rfl ?_)
 obtain⟨y4,Y3,m⟩:=aC m
 refine zC 22 rfl (bZ (zR _ Y3) rfl qG rfl) (zC 23 rfl (lE rfl rfl rfl trivial) (zI 24 rfl rfl (zC 25 rfl (SK rfl rfl rfl (by decide)) (zC 26 rfl (lE rfl rfl rfl trivial) (zC 27 rfl (lE rfl rfl rfl trivial) ?_)))))
 obtain⟨_,X7,m⟩:=aC m
 refine zC 28 rfl (eF (y:=q2) X7 rW rfl rfl) (zE 29 rfl (vS (y:=q2) (v:=IntKind.wrap .u32 ((IntKind.wrap .u32 ((IntKind.wrap .u32 (x4+x5))+(cH .xor .u32 (cH .xor .u32 y1 y2) (x2.fdiv (2 ^ (min (3:Int).toNat (IntKind.bits .u32)))))))+(cH .xor .u32 (cH .xor .u32 y3 y4) (x3.fdiv (2 ^ (min (10:Int).toNat (IntKind.bits .u32))))))) 0 u X7 rfl rfl rfl LZ λK6=>⟨⟨λe=>absurd e (by decide),trivial⟩, ?_⟩))
 exact zX (qk (f:=aCV 94 _ _ _ _ _ _ _ _ _ _ _ _ _ _ _ _ _ _ _ _ _ _ _ _ _ _ _ _ _ _) K6 rfl (p8 m))
 rintro _ j0 m
 exact v (p8 m)
 exact v (bq7 m)
 rintro _ ⟨r2,r3⟩ m
 refine v (vl 1 (.agg (eH q0)) XA rfl rfl rfl (ve λu=>bD (eH (VI 8)) u RG rfl rfl λk2413 K7=>qk K7 rfl (ve λu=>aK 0 (eH q0) u rfl rfl rfl rfl L4 rfl rfl λK8=>qk K8 rfl (v (iI m (σ:=(Ar 8)×Int) (λs=> [(some k2413,.obj 183 (eH s.1)),(some k1783,.obj 181 (dB r2)),(some k13,.obj 183 (eH q0)),(some k8,.obj 181 (dB y6)),(some k2,.obj 36 (bJ jX))]) (λs=>.c 2 (.ptr k2 0) (.c 3 (.ptr k8 0) (.c 4 (.ptr k13 0) (.c 5 (.sl none 1 (List.map dD y0)) (.c 6 (nZ q1) (.c 7 (.ptr k1783 0) (.c 12 (.ptr k2413 0) (.c 13 (nZ s.2) .nil)))))))) (lx (.k8 .nil)) ?_ ?_)))))
 rintro _ ⟨q6,q7⟩ x m
 replace m:CR w y6 r2 q6 q7=some x:=m
 unfold CR at m
 refine v (v ?_)
 apply vi m <;> intro c4 m
 refine v (v (v (vq (by kernel_rfl) ?_)))
 obtain⟨x6,X8,m⟩:=aC m
 refine bU (eF (y:=q6) X8 jY rfl rfl) (vn (λu=>eP (y:=q6) 0 X8 iA rfl (a9 0 u rfl) (eQ _)) ?_)
 obtain⟨x7,X9,m⟩:=aC m
 refine bU (eF (y:=q6) X9 jY rfl rfl) (vn (λu=>eP (y:=q6) 0 X9 iA rfl (a9 0 u rfl) (eQ _)) (v (vq (by kernel_rfl) ?_)))
 obtain⟨x8,X10,m⟩:=aC m
 refine bU (eF (y:=q6) X10 jY rfl rfl) (vn (λu=>eP (y:=q6) 0 X10 iA rfl (a9 0 u rfl) (eQ _)) (vk zR qG m rfl rfl λy5 m=>vk zR qG m rfl rfl λy7 m=>vk zR qG m rfl rfl λy8 m=> ?_))
 obtain⟨x9,X11,m⟩:=aC m
 refine bU (eF (y:=q6) X11 jY rfl rfl) (vn (λu=>eP (y:=q6) 0 X11 iA rfl (a9 0 u rfl) (eQ _)) (bU (WU rfl rfl) ?_))
 obtain⟨x10,X12,m⟩:=aC m
 refine bU (eF (y:=q6) X12 jY rfl rfl) (vn (λu=>eP (y:=q6) 0 X12 iA rfl (a9 0 u rfl) (eQ _)) ?_)
 obtain⟨x11,X13,m⟩:=aC m
 refine bU (eF (y:=y6) X13 rW rfl rfl) (vn (λu=>eP (y:=y6) 0 X13 iA rfl (a9 3 u rfl) (eQ _)) ?_)
 obtain⟨x12,X14,m⟩:=aC m
 refine bU (eF (y:=r2) X14 rW rfl rfl) (vn (λu=>eP (y:=r2) 0 X14 iA rfl (a9 1 u rfl) (eQ _)) (v (vq (by kernel_rfl) (vk zR qG m rfl rfl λy9 m=>vk zR qG m rfl rfl λy10 m=>vk zR qG m rfl rfl λy11 m=> ?_))))
 obtain⟨x13,X15,m⟩:=aC m
 refine bU (eF (y:=q6) X15 jY rfl rfl) (vn (λu=>eP (y:=q6) 0 X15 iA rfl (a9 0 u rfl) (eQ _)) ?_)
 obtain⟨x14,X16,m⟩:=aC m
 refine bU (eF (y:=q6) X16 jY rfl rfl) (vn (λu=>eP (y:=q6) 0 X16 iA rfl (a9 0 u rfl) (eQ _)) ?_)
 obtain⟨x15,X17,m⟩:=aC m
 refine bU (eF (y:=q6) X17 jY rfl rfl) (vn (λu=>eP (y:=q6) 0 X17 iA rfl (a9 0 u rfl) (eQ _)) ?_)
 obtain⟨x16,X18,m⟩:=aC m
 refine bU (eF (y:=q6) X18 jY rfl rfl) (vn (λu=>eP (y:=q6) 0 X18 iA rfl (a9 0 u rfl) (eQ _)) (v ?_))
 obtain⟨x17,X19,m⟩:=aC m
 refine bU (eF (y:=q6) X19 jY rfl rfl) (vn (λu=>eP (y:=q6) 0 X19 iA rfl (a9 0 u rfl) (eQ _)) ?_)
 obtain⟨x18,X20,m⟩:=aC m
 refine bU (eF (y:=q6) X20 jY rfl rfl) (vn (λu=>eP (y:=q6) 0 X20 iA rfl (a9 0 u rfl) (eQ _)) ?_)
 obtain⟨x19,X21,m⟩:=aC m
 refine bU (eF (y:=q6) X21 jY rfl rfl) (vn (λu=>eP (y:=q6) 0 X21 iA rfl (a9 0 u rfl) (eQ _)) ?_)
 obtain⟨x20,X22,m⟩:=aC m
 refine bU (eF (y:=q6) X22 jY rfl rfl) (vn (λu=>eP (y:=q6) 0 X22 iA rfl (a9 0 u rfl) (eQ _)) ?_)
 obtain⟨x21,X23,m⟩:=aC m
 refine bU (eF (y:=q6) X23 jY rfl rfl) (vn (λu=>eP (y:=q6) 0 X23 iA rfl (a9 0 u rfl) (eQ _)) ?_)
 obtain⟨x22,X24,m⟩:=aC m
 refine bU (eF (y:=q6) X24 jY rfl rfl) (vn (λu=>eP (y:=q6) 0 X24 iA rfl (a9 0 u rfl) (eQ _)) ?_)
 obtain⟨x23,X25,m⟩:=aC m
 refine bU (eF (y:=q6) X25 jY rfl rfl) (vn (λu=>eP (y:=q6) 0 X25 iA rfl (a9 0 u rfl) (eQ _)) (bU (BQ [IntKind.wrap .u32 ((IntKind.wrap .u32 ((IntKind.wrap .u32 ((IntKind.wrap .u32 ((IntKind.wrap .u32 (x8+(cH .xor .u32 (cH .xor .u32 y5 y7) y8)))+(cH .xor .u32 (cH .and .u32 x7 x9) (cH .and .u32 (cH .xor .u32 (IntKind.max .u32) x7) x10))))+x11))+x12))+(IntKind.wrap .u32 ((cH .xor .u32 (cH .xor .u32 y9 y10) y11)+(cH .xor .u32 (cH .xor .u32 (cH .and .u32 x6 x13) (cH .and .u32 x6 x14)) (cH .and .u32 x15 x16))))),x17,x18,x19,IntKind.wrap .u32 (x20+(IntKind.wrap .u32 ((IntKind.wrap .u32 ((IntKind.wrap .u32 ((IntKind.wrap .u32 (x8+(cH .xor .u32 (cH .xor .u32 y5 y7) y8)))+(cH .xor .u32 (cH .and .u32 x7 x9) (cH .and .u32 (cH .xor .u32 (IntKind.max .u32) x7) x10))))+x11))+x12))),x21,x22,x23] rfl L5 rfl rfl rfl) (ve λu=>aK 0 (eH (⟨[IntKind.wrap .u32 ((IntKind.wrap .u32 ((IntKind.wrap .u32 ((IntKind.wrap .u32 ((IntKind.wrap .u32 (x8+(cH .xor .u32 (cH .xor .u32 y5 y7) y8)))+(cH .xor .u32 (cH .and .u32 x7 x9) (cH .and .u32 (cH .xor .u32 (IntKind.max .u32) x7) x10))))+x11))+x12))+(IntKind.wrap .u32 ((cH .xor .u32 (cH .xor .u32 y9 y10) y11)+(cH .xor .u32 (cH .xor .u32 (cH .and .u32 x6 x13) (cH .and .u32 x6 x14)) (cH .and .u32 x15 x16))))),x17,x18,x19,IntKind.wrap .u32 (x20+(IntKind.wrap .u32 ((IntKind.wrap .u32 ((IntKind.wrap .u32 ((IntKind.wrap .u32 (x8+(cH .xor .u32 (cH .xor .u32 y5 y7) y8)))+(cH .xor .u32 (cH .and .u32 x7 x9) (cH .and .u32 (cH .xor .u32 (IntKind.max .u32) x7) x10))))+x11))+x12))),x21,x22,x23],rfl⟩:Ar 8)) u rfl rfl rfl rfl L4 rfl rfl λK10=>qk K10 rfl ?_)))
 exact v (F6 m)
 exact v (bq8 m)
 rintro _ ⟨r4,r5⟩ m
 refine v (iI m (σ:=(Ar 8)×Int) (λs=> [(some k2413,.obj 183 (eH r4)),(some k1783,.obj 181 (dB r2)),(some k13,.obj 183 (eH s.1)),(some k8,.obj 181 (dB y6)),(some k2,.obj 36 (bJ jX))]) (λs=>.c 2 (.ptr k2 0) (.c 3 (.ptr k8 0) (.c 4 (.ptr k13 0) (.c 5 (.sl none 1 (List.map dD y0)) (.c 6 (nZ q1) (.c 12 (.ptr k2413 0) (.c 18 (nZ s.2) .nil))))))) (lx (.k7 .nil)) ?_ ?_)
 rintro _ ⟨q8,q9⟩ x m
 replace m:CS w r4 q8 q9=some x:=m
 unfold CS at m
 refine v (v ?_)
 apply vi m <;> intro c5 m
 refine v (v (v (vz [(8,some k13,.obj 183 (eH q8)),(1000000,some k2413,.obj 183 (eH r4))] mixed (λu=>⟨λ_=>aI 2 u rfl,λ_=>aI 0 u rfl,trivial⟩) λu=>zI 0 rfl rfl ?_)))
 obtain⟨x24,X26,m⟩:=aC m
 refine zC 1 rfl (eF (y:=q8) X26 jY rfl rfl) (vL 2 rfl (λ_ _ hi hB=>eP (y:=q8) 0 X26 iA rfl (At.s (fW.get 0 hi rfl (hB 8 (by kernel_rfl)))) (eQ _)) (zI 3 rfl rfl ?_))
 obtain⟨x25,X27,m⟩:=aC m
 refine zC 4 rfl (eF (y:=r4) X27 jY rfl rfl) (vL 5 rfl (λ_ _ hi hB=>eP (y:=r4) 0 X27 iA rfl (At.s (fW.get 1 hi rfl (hB 1000000 (by kernel_rfl)))) (eQ _)) (zC 6 rfl (lE rfl rfl rfl trivial) ?_))
 obtain⟨_,X28,m⟩:=aC m
 refine zC 7 rfl (eF (y:=q8) X28 jY rfl rfl) (zE 8 rfl (vS (y:=q8) (v:=IntKind.wrap .u32 (x24+x25)) 2 u X28 rfl rfl rfl LZ λK12=>⟨⟨λe=>absurd e (by decide),λ_=>aI 0 K12 rfl,trivial⟩, ?_⟩))
 exact zX (qk (f:=PQ 189 _ _ _ _ _ _ _ _ _) K12 rfl (v (p8 m)))
 exact v (bq7 m)
 rintro _ ⟨r6,r7⟩ m
 exact v (uZ m (kP [2,3,4] rfl rfl (.k5 .nil)))
 exact v (VK m)
 rintro _ ⟨r8,r9⟩ m
 refine v (ve λu=>bD (bJ jX) u JI rfl rfl λk2657 K13=>qk K13 rfl (v (iI m (σ:=bL×Int) (λs=> [(some k2657,.obj 36 (bJ s.1)),(some k13,.obj 183 (eH r8)),(some k8,.obj 181 (dB y6)),(some k2,.obj 36 (bJ jX))]) (λs=>.c 2 (.ptr k2 0) (.c 4 (.ptr k13 0) (.c 19 (.ptr k2657 0) (.c 20 (nZ s.2) .nil)))) (lx (.k4 .nil)) ?_ ?_)))
 rintro _ ⟨q10,q11⟩ x m
 replace m:wG w r8 q10 q11=some x:=m
 unfold wG at m
 refine v (v ?_)
 apply vi m <;> intro c6 m
 refine v (v (v ?_))
 obtain⟨x26,X29,m⟩:=aC m
 refine bU (eF (y:=r8) X29 jY rfl rfl) (vn (λu=>eP (y:=r8) 0 X29 iA rfl (a9 1 u rfl) (eQ _)) (S1 m λ_ m=> ?_))
 obtain⟨_,X30,m⟩:=aC m
 exact bU (mA X30 rU rfl rfl) (ve λu=>vS (y:=q10) (v:=IntKind.wrap .u8 (x26.fdiv (2 ^ (min ((IntKind.wrap .u64 (IntKind.wrap .i64 (24 - (IntKind.wrap .i64 (8*(q11.tmod 4)))))):Int).toNat (IntKind.bits .u32))))) 0 u X30 rfl rfl rfl sz5 λK15=>qk K15 rfl (v (fR m)))
 exact v (vN m)
 rintro _ ⟨r10,r11⟩ m
 refine v (vl 0 (.agg (bJ r10)) fK rfl rfl rfl (ve λu=>aK 3 (bJ r10) u rfl rfl rfl rfl JH rfl rfl λK17=>qk K17 rfl (v ?_)))
 obtain rfl:=eB m
 exact vr λu=>dX.of1 (.inl rfl) (qD (.agg (bJ r10)) fK rfl (a9 3 u rfl) rfl) (aS (List.nil_sublist _) u).1 (bH.refl _ _) ⟨rfl,rfl⟩
theorem aA6:aO Tryz.prog 87=true:=by kernel_rfl
open Go.Vm
def wH (m:Nat) (p0:List dS) (q0:Int):Option (Lp (Int) (Int)):=
 if (decide (q0 < (p0.length:Int)))=true then (after ((ix p0 q0).bind λx0=>(B7 m x0.Path).bind λy0=>if (!y0)=true then (some (.brk true)) else if (decide (0 < q0))=true then ((ix p0 q0).bind λx1=>(ix p0 (IntKind.wrap .i64 (q0 - 1))).bind λx2=>some (.brk (Op.bytesLess x1.Path.toList x2.Path.toList || x1.Path.toList==x2.Path.toList))) else some (.brk false):Option (Lp (Bool) (Lp (Int) (Int)))) λj0=>if j0=true then (some (.ret 1)) else some (.go (IntKind.wrap .i64 (q0+1)))) else some (.brk q0)
def NQ (m:Nat) (p0:List dS):Option (Int):=
 (J6 m p0).bind λy4=>if y4=true then (some 2) else after (aT (λs=>wH m p0 s) m 0) λr0=>some 0
theorem aGG {u:Nat} {p0:List dS} {o:Int} (h:aF) (m:NQ u p0=some o):
 aL Tryz.prog 142 [.sl none 2 (List.map eX p0)] h (λr h'=>r=nZ o∧h'=h):=by
 refine fN 37 [.tmp 2] Tryz.func142 rfl rfl rfl rfl ?_
 unfold NQ at m
 refine v (v (vk aA2 R8 m rfl rfl λ_ m=>v ?_))
 apply vi m <;> intro c6 m
 refine v (v ?_)
 obtain rfl:=eB m
 exact dQ rfl
 refine v (v (iI m (σ:=Int) (λs=> []) (λs=>.c 0 (.sl none 2 (List.map eX p0)) (.c 3 (nZ s) .nil)) (lx (.k2 .nil)) ?_ ?_))
 rintro _ q0 x m
 replace m:wH u p0 q0=some x:=m
 unfold wH at m
 refine v (cZ zB rfl (v ?_))
 apply vi m <;> intro c0 m
 refine v (v (vs (fB m (σ:=Bool) (λs=> []) (λs=>.c 0 (.sl none 2 (List.map eX p0)) (.c 3 (nZ q0) (.c 36 (.sc (.bool s)) .nil))) (λx m=> ?_) ?_)))
 refine v (vq (by kernel_rfl) (vx m o3 rfl rfl λ_ _ m=>vk MA D9 m rfl rfl λ_ m=> ?_))
 apply vi m <;> intro b0 m
 rw[b0]
 exact gH m
 rw[b0]
 apply vi m <;> intro b1 m
 rw[b1]
 exact vx m o3 rfl rfl λ_ _ m=>vx m o3 rfl rfl λ_ _ m=>bU (vI rfl rfl rfl trivial) (gH m)
 rw[b1]
 exact gH m
 rintro _ j0 m
 refine v ?_
 apply vi m <;> intro c1 m
 refine v (v (fO m λm=> ?_))
 obtain rfl:=eB m
 exact dQ rfl
 exact v (v (qO m))
 exact v (OP m)
 rintro _ r0 m
 refine v (v ?_)
 obtain rfl:=eB m
 exact dQ rfl
theorem aA7:aO Tryz.prog 142=true:=by kernel_rfl
def wJ (m:Nat) (p0:List Int) (q0:Int) (q1:Int):Option (Lp (Int×Int) (Int)):=
 if (decide (q1 < (p0.length:Int)))=true then ((ix p0 q1).bind λx0=>after (if (decide (8≤(IntKind.wrap .i64 (q1+1))))=true then (if (((IntKind.wrap .u32 ((IntKind.wrap .u32 (q0*2))+(IntKind.wrap .u32 ((IntKind.wrap .u32 ((IntKind.wrap .u32 x0)+1))*2654435761)))).fdiv (2 ^ (min (28:Int).toNat (IntKind.bits .u32))))==0)=true then (some (.brk true)) else some (.brk ((IntKind.wrap .i64 (q1+1))==64))) else some (.brk ((IntKind.wrap .i64 (q1+1))==64)):Option (Lp (Bool) (Lp (Int×Int) (Int)))) λj0=>if j0=true then (some (.ret (IntKind.wrap .i64 (q1+1)))) else some (.go (IntKind.wrap .u32 ((IntKind.wrap .u32 (q0*2))+(IntKind.wrap .u32 ((IntKind.wrap .u32 ((IntKind.wrap .u32 x0)+1))*2654435761))),IntKind.wrap .i64 (q1+1)))) else some (.brk (q0,q1))
def NR (m:Nat) (p0:List Int):Option (Int):=
 after (aT (λs=>wJ m p0 s.1 s.2) m (0,0)) λ⟨r0,r1⟩=>some (p0.length:Int)
theorem aGH {u:Nat} {p0:List Int} {o:Int} (h:aF) (m:NR u p0=some o):
 aL Tryz.prog 184 [.sl none 1 (List.map dD p0)] h (λr h'=>r=nZ o∧h'=h):=by
 refine fN 38 [.tmp 2] Tryz.func184 rfl rfl rfl rfl ?_
 unfold NR at m
 refine v (v (v (iI m (σ:=Int×Int) (λs=> []) (λs=>.c 0 (.sl none 1 (List.map dD p0)) (.c 3 (.sc (.int .u32 s.1)) (.c 4 (nZ s.2) .nil))) (lx (.k3 .nil)) ?_ ?_)))
 rintro _ ⟨q0,q1⟩ x m
 replace m:wJ u p0 q0 q1=some x:=m
 unfold wJ at m
 refine v (cZ kK rfl (v ?_))
 apply vi m <;> intro c0 m
 refine v (v (v (vx m GD rfl rfl λx0 _ m=>vs (fB m (σ:=Bool) (λs=> []) (λs=>.c 0 (.sl none 1 (List.map dD p0)) (.c 3 (.sc (.int .u32 (IntKind.wrap .u32 ((IntKind.wrap .u32 (q0*2))+(IntKind.wrap .u32 ((IntKind.wrap .u32 ((IntKind.wrap .u32 x0)+1))*2654435761)))))) (.c 4 (nZ q1) (.c 33 (.sc (.bool s)) .nil)))) (λx m=> ?_) ?_))))
 refine v ?_
 apply vi m <;> intro b0 m
 rw[b0]
 apply vi m <;> intro b1 m
 rw[b1]
 exact fR m
 rw[b1]
 exact fR m
 rw[b0]
 exact fR m
 rintro _ j0 m
 refine v ?_
 apply vi m <;> intro c1 m
 refine v (v (fO m λm=> ?_))
 cases m
 exact dQ rfl
 exact v (v (gH m))
 exact v (xC m)
 rintro _ ⟨r0,r1⟩ m
 refine v (cZ kK rfl (v ?_))
 cases m
 exact dQ rfl
theorem aA8:aO Tryz.prog 184=true:=by kernel_rfl
def wK (m:Nat) (q0:List (List Int)) (q1:List Int):Option (Lp ((List (List Int))×(List Int)) ((List (List Int)))):=
 if (decide (0 < (q1.length:Int)))=true then ((NR m q1).bind λy0=>(slc q1 0 y0).bind λx0=>(zQ m x0).bind λy1=>(app q0 ([y1]:List (List Int))).bind λz0=>(slc q1 y0 (q1).length).bind λx1=>some (.go (z0,x1))) else some (.brk (q0,q1))
def NS (m:Nat) (p0:List Int):Option ((List (List Int))):=
 after (aT (λs=>wK m s.1 s.2) m ([],p0)) λ⟨r0,r1⟩=>some r0
theorem aGI {w:Nat} {p0:List Int} {o:(List (List Int))} (h:aF) (m:NS w p0=some o):
 aL Tryz.prog 143 [.sl none 1 (List.map dD p0)] h (λr h'=>r= .sl none 1 (List.map gY o)∧h'=h):=by
 refine fN 21 [.tmp 2] Tryz.func143 rfl rfl rfl rfl ?_
 unfold NS at m
 refine v (v (vs (pU (FE (.tok 41 1 (([]:List (List Int)).length*1)) 3 (ow none 1 (List.map gY [])) (jE _ _)) (nC m (σ:=(List (List Int))×(List Int)) (τ:=Option cB) (λg s=> [(g,.tok 41 1 ((s.1:List (List Int)).length*1))]) (λg s=>(g=none→s.1= [])) (λg s=>.c 0 (.sl none 1 (List.map dD s.2)) (.c 3 (ow g 1 (List.map gY s.1)) .nil)) none (λ_=>rfl) (lx (.k2 .nil)) ?_ ?_))))
 rintro tg0 ⟨q0,q1⟩ x t0 m
 replace m:wK w q0 q1=some x:=m
 unfold wK at m
 refine v (cZ kK rfl (v ?_))
 apply vi m <;> intro c0 m
 refine v (v (v (vk aGH aA8 m rfl rfl λ_ m=>v ?_)))
 obtain⟨_,X0,m⟩:=aC m
 refine bU (pA X0 GD rfl rfl rfl rfl) (vk MJ EG m rfl rfl λy0 m=>bU (eO (List.map gY ([y0]:List (List Int))) AM rfl rfl rfl rfl) ?_)
 obtain⟨z0,Z0,m⟩:=aC m
 refine ve λu=>fF (c:=gY) 0 Z0 AM rfl rfl rfl t0 u rfl λtg1 t1 K0=>qk K0 rfl (v ?_)
 obtain⟨_,X1,m⟩:=aC m
 exact bU (pA X1 GD rfl rfl rfl rfl) (eY m tg1 t1 (lx (.k2 .nil)))
 exact v (lA m tg0 t0 (lx (.k2 .nil)))
 rintro tg2 ⟨r0,r1⟩ t2 m
 refine v (v ?_)
 obtain rfl:=eB m
 exact vr λu=>dX.of1 (.inl rfl) (fU _ _ (ow _ _ _) rfl) (aS (List.nil_sublist _) u).1 ((eZ _ 0 t2 u rfl)) ⟨rfl,rfl⟩
theorem aA9:aO Tryz.prog 143=true:=by kernel_rfl
def CU (m:Nat) (y0:(List (List Int))) (q0:List bL) (q1:List (List Int)) (q2:List bL) (q3:Int):Option (Lp ((List bL)×(List (List Int))×(List bL)×Int) (Lp ((List dH)×(List (List Int))×(List bL)×Int) (bB×(List (List Int))×Int))):=
 if (decide (q3 < (y0.length:Int)))=true then ((ix y0 q3).bind λx0=>(V2 m x0).bind λy1=>(app q0 ([y1]:List bL)).bind λz0=>(EA m q2 y1).bind λy2=>after (if y2.2.2=true then ((slc q1 0 y2.2.1).bind λx1=>(ix y0 q3).bind λx2=>(app ([]:List (List Int)) x1).bind λz1=>(app z1 ([x2]:List (List Int))).bind λz2=>(slc q1 y2.2.1 (q1.length:Int)).bind λx3=>(app z2 x3).bind λz3=>some (.brk z3)) else some (.brk q1):Option (Lp ((List (List Int))) (Lp ((List bL)×(List (List Int))×(List bL)×Int) (Lp ((List dH)×(List (List Int))×(List bL)×Int) (bB×(List (List Int))×Int))))) λj0=>some (.go (z0,j0,y2.1,IntKind.wrap .i64 (q3+1)))) else some (.brk (q0,q1,q2,q3))
def CV (m:Nat) (p1:List dS) (q0:List dH) (q1:List (List Int)) (q2:List bL) (q3:Int):Option (Lp ((List dH)×(List (List Int))×(List bL)×Int) (bB×(List (List Int))×Int)):=
 if (decide (q3 < (p1.length:Int)))=true then ((ix p1 q3).bind λx0=>(ix p1 q3).bind λx1=>(ix p1 q3).bind λx2=>(NS m x2.Data).bind λy0=>after (aT (λs=>CU m y0 s.1 s.2.1 s.2.2.1 s.2.2.2) m ([],q1,q2,0)) λ⟨r0,r1,r2,r3⟩=>(app q0 ([({ Path:=x0.Path,Size:=(x1.Data.length:Int),Ids:=r0}:dH)]:List dH)).bind λz0=>some (.go (z0,r1,r2,IntKind.wrap .i64 (q3+1)))) else some (.brk (q0,q1,q2,q3))
def M86 (m:Nat) (p0:ByteArray) (p1:List dS):Option (bB×(List (List Int))×Int):=
 (B7 m p0).bind λy7=>if (!y7)=true then (some (({ Name:=ByteArray.empty,Parts:= []}:bB), [],1)) else (NQ m p1).bind λy0=>if (y0 !=0)=true then (some (({ Name:=ByteArray.empty,Parts:= []}:bB), [],y0)) else after (aT (λs=>CV m p1 s.1 s.2.1 s.2.2.1 s.2.2.2) m ([], [], [],0)) λ⟨r0,r1,r2,r3⟩=>some (({ Name:=p0,Parts:=r0}:bB),r1,0)
theorem W86 {w:Nat} {p0:ByteArray} {p1:List dS} {o:bB×(List (List Int))×Int} (h:aF) (m:M86 w p0 p1=some o):
 aL Tryz.prog 86 [.sc (.string p0),.sl none 2 (List.map eX p1)] h (λr h'=>r= .tup [.agg (aU o.1),.sl none 1 (List.map gY o.2.1),nZ o.2.2]∧h'=h):=by
 refine fN 106 [.cell 4 58,.tmp 5,.tmp 6] Tryz.func86 rfl rfl rfl rfl ?_
 unfold M86 at m
 refine v (ve λu=>bD ([.sc (.string ByteArray.empty),sZ]) u LR rfl rfl λk2 K3=>qk K3 rfl (v (vk MA D9 m rfl rfl λ_ m=>v ?_)))
 apply vi m <;> intro c9 m
 refine v (bU (fG ([.sc (.string ByteArray.empty),sZ]) PZ rfl) (ve λu=>aK 0 ([.sc (.string ByteArray.empty),sZ]) u rfl rfl rfl rfl zA rfl rfl λK0=>qk K0 rfl (v ?_)))
 cases m
 exact vr λu=>dX.of3 (.inl rfl) (qD (.agg ([.sc (.string ByteArray.empty),sZ])) lI rfl (a9 0 u rfl) rfl) (fU _ _ (.sc (.slice _ _ _)) rfl) (fU _ _ (.sc (.int _ _)) rfl) (aS (List.nil_sublist _) u).1 (bH.agg (.cons (bH.refl _ _) (.cons (aX _) .nil))) (aX _) (bH.refl _ _) ⟨rfl,rfl⟩
 refine v (v (vk aGG aA7 m rfl rfl λ_ m=>v (v ?_)))
 apply vi m <;> intro c0 m
 refine v (bU (fG ([.sc (.string ByteArray.empty),sZ]) PZ rfl) (ve λu=>aK 0 ([.sc (.string ByteArray.empty),sZ]) u rfl rfl rfl rfl zA rfl rfl λK1=>qk K1 rfl (v ?_)))
 cases m
 exact vr λu=>dX.of3 (.inl rfl) (qD (.agg ([.sc (.string ByteArray.empty),sZ])) lI rfl (a9 0 u rfl) rfl) (fU _ _ (.sc (.slice _ _ _)) rfl) (fU _ _ (.sc (.int _ _)) rfl) (aS (List.nil_sublist _) u).1 (bH.agg (.cons (bH.refl _ _) (.cons (aX _) .nil))) (aX _) (bH.refl _ _) ⟨rfl,rfl⟩
 refine v (v (bU (fG ([.sc (.string p0),sZ]) PZ rfl) (ve λu=>bD ([.sc (.string ByteArray.empty),sZ]) u LR rfl rfl λk21 K2=>qk K2 rfl (ve λu=>aK 0 ([.sc (.string p0),sZ]) u rfl rfl rfl rfl zA rfl rfl λK4=>qk K4 rfl (v (v (v (pU (FE (.tok 41 1 (([]:List (List Int)).length*1)) 10 (ow none 1 (List.map gY [])) (jE _ _)) (pU (WX (.tok 70 3 (([]:List dH).length*3)) 2 ([.sc (.string p0),ow none 3 (List.map bT [])]) rfl (.cons (bH.refl _ _) (.cons (jE (c:=bT) _ 3) .nil))) (nC m (σ:=(List dH)×(List (List Int))×(List bL)×Int) (τ:=Option cB×Option cB) (λg s=> [(g.1,.tok 70 3 ((s.1:List dH).length*3)),(g.2,.tok 41 1 ((s.2.1:List (List Int)).length*1)),(some k21,.obj 58 ([.sc (.string p0),ow g.1 3 (List.map bT s.1)])),(some k2,.obj 58 ([.sc (.string ByteArray.empty),sZ]))]) (λg s=>(g.1=none→s.1= [])∧(g.2=none→s.2.1= [])) (λg s=>.c 1 (.sl none 2 (List.map eX p1)) (.c 4 (.ptr k2 0) (.c 8 (.ptr k21 0) (.c 9 (.sl none 32 (List.map bJ s.2.2.1)) (.c 10 (ow g.2 1 (List.map gY s.2.1)) (.c 11 (nZ s.2.2.2) .nil)))))) (none,none) (⟨(λ_=>rfl),(λ_=>rfl)⟩) (lx (.k3 (.cons (aX _) (.k2 .nil)))) ?_ ?_))))))))))
 rintro⟨tg0,tg1⟩ ⟨q0,q1,q2,q3⟩ x ⟨t0,t1⟩ m
 replace m:CV w p1 q0 q1 q2 q3=some x:=m
 unfold CV at m
 refine v (cZ zB rfl (v ?_))
 apply vi m <;> intro c1 m
 refine v (v (v (vz [] mixed (λu=>trivial) λu=>zC 0 rfl (eW (.sl _ _ _) rfl) (zI 1 rfl rfl ?_))))
 obtain⟨x0,X0,m⟩:=aC m
 refine zC 2 rfl (l8 X0 o3 rfl rfl) (zC 3 rfl (oY LV rfl rfl) (zC 4 rfl (mN (.sc (.string x0.Path)) tI rfl rfl) (zC 5 rfl (eW (.sl _ _ _) rfl) (zI 6 rfl rfl ?_))))
 obtain⟨x1,X1,m⟩:=aC m
 refine zC 7 rfl (l8 X1 o3 rfl rfl) (zC 8 rfl (oY LW rfl rfl) (zC 9 rfl (mN (.sl none 1 (List.map dD x1.Data)) lH rfl rfl) (zC 10 rfl (tT kK rfl) (zC 11 rfl (fG ([.sc (.string x0.Path),nZ (x1.Data.length:Int),sZ]) aDA rfl) (zE 12 rfl (bD (OL) u xF rfl rfl λk2233 K5=>⟨trivial, ?_⟩))))))
 refine zE 13 rfl (aK 0 ([.sc (.string x0.Path),nZ (x1.Data.length:Int),sZ]) K5 rfl rfl rfl rfl zD rfl rfl λK6=>⟨trivial, ?_⟩)
 refine zX (qk (f:=.c 12 _ (JD 49 _ _ _ _ _ _ _ _ _ _ _ _ _)) K6 rfl (v (vx m o3 rfl rfl λ_ _ m=>vk aGI aA9 m rfl rfl λy0 m=>v (pU (WX (.tok 36 32 (([]:List bL).length*32)) 1 ([.sc (.string x0.Path),nZ (x1.Data.length:Int),ow none 32 (List.map bJ [])]) rfl (.k2 (.cons (jE (c:=bJ) _ 32) .nil))) (nC m (σ:=(List bL)×(List (List Int))×(List bL)×Int) (τ:=Option cB×Option cB) (λg s=> [(g.1,.tok 36 32 ((s.1:List bL).length*32)),(some k2233,.obj 70 ([.sc (.string x0.Path),nZ (x1.Data.length:Int),ow g.1 32 (List.map bJ s.1)])),(tg0,.tok 70 3 ((q0:List dH).length*3)),(g.2,.tok 41 1 ((s.2.1:List (List Int)).length*1)),(some k21,.obj 58 ([.sc (.string p0),ow tg0 3 (List.map bT q0)])),(some k2,.obj 58 ([.sc (.string ByteArray.empty),sZ]))]) (λg s=>(g.1=none→s.1= [])∧(g.2=none→s.2.1= [])) (λg s=>.c 1 (.sl none 2 (List.map eX p1)) (.c 4 (.ptr k2 0) (.c 8 (.ptr k21 0) (.c 9 (.sl none 32 (List.map bJ s.2.2.1)) (.c 10 (ow g.2 1 (List.map gY s.2.1)) (.c 11 (nZ q3) (.c 12 (.ptr k2233 0) (.c 13 (.sl none 1 (List.map gY y0)) (.c 14 (nZ s.2.2.2) .nil))))))))) (none,tg1) (⟨(λ_=>rfl),t1⟩) (lx (.k9 .nil)) ?_ ?_)))))
 rintro⟨tg2,tg3⟩ ⟨q4,q5,q6,q7⟩ x ⟨t2,t3⟩ m
 replace m:CU w y0 q4 q5 q6 q7=some x:=m
 unfold CU at m
 refine v (cZ RC rfl (v ?_))
 apply vi m <;> intro c2 m
 refine v (v (v (vx m AL rfl rfl λ_ _ m=>vk W87 aA6 m rfl rfl λy1 m=>ve λu=>bD (bJ jX) u JI rfl rfl λk2604 K7=>qk K7 rfl (ve λu=>aK 0 (bJ y1) u rfl rfl rfl rfl JH rfl rfl λK8=>qk K8 rfl (v (vl 2 (ow tg2 32 (List.map bJ q4)) pH rfl rfl rfl (vl 0 (.agg (bJ y1)) fK rfl rfl rfl (bU (eO (List.map bJ ([y1]:List bL)) B2 rfl rfl rfl rfl) ?_))))))))
 obtain⟨z0,Z0,m⟩:=aC m
 refine ve λu=>fF (c:=bJ) 1 Z0 B2 rfl rfl rfl t2 u rfl λtg4 t4 K9=>qk K9 rfl (ve λu=>aK 2 ([.sc (.string x0.Path),nZ (x1.Data.length:Int),ow tg4 32 (List.map bJ z0)]) u rfl rfl (jF rfl) (o9 _ _ _) TH rfl rfl λK10=>qk K10 rfl (v (vl 0 (.agg (bJ y1)) fK rfl rfl rfl (vk XU RN m rfl rfl λy2 m=>v (o6 m (σ:=(List (List Int))) (τ:=Option cB) (λg s=> [(some k2604,.obj 36 (bJ y1)),(tg4,.tok 36 32 ((z0:List bL).length*32)),(some k2233,.obj 70 ([.sc (.string x0.Path),nZ (x1.Data.length:Int),ow tg4 32 (List.map bJ z0)])),(tg0,.tok 70 3 ((q0:List dH).length*3)),(g,.tok 41 1 ((s:List (List Int)).length*1)),(some k21,.obj 58 ([.sc (.string p0),ow tg0 3 (List.map bT q0)])),(some k2,.obj 58 ([.sc (.string ByteArray.empty),sZ]))]) (λg s=>(g=none→s= [])) (λg s=>.c 1 (.sl none 2 (List.map eX p1)) (.c 4 (.ptr k2 0) (.c 8 (.ptr k21 0) (.c 10 (ow g 1 (List.map gY s)) (.c 11 (nZ q3) (.c 12 (.ptr k2233 0) (.c 13 (.sl none 1 (List.map gY y0)) (.c 14 (nZ q7) (.c 16 (.sl none 32 (List.map bJ y2.1)) .nil))))))))) (λx m=> ?_) ?_)))))
 refine v ?_
 apply vi m <;> intro c3 m
 refine v (v (vz [] mixed (λu=>trivial) λu=>zC 0 rfl (eW (.sc (.slice _ _ _)) rfl) (zC 1 rfl (eW (ow _ _ _) rfl) (zI 2 rfl rfl ?_))))
 obtain⟨_,X2,m⟩:=aC m
 refine zC 3 rfl (BP X2 AL rfl t3 rfl rfl rfl) (zC 5 rfl (eW (.sl _ _ _) rfl) (zI 6 rfl rfl ?_))
 obtain⟨x2,X3,m⟩:=aC m
 refine zC 7 rfl (l8 X3 AL rfl rfl) (zC 8 rfl (mN (.sl none 1 (List.map dD x2)) lH rfl rfl) (zC 9 rfl (eO (List.map gY ([x2]:List (List Int))) AM rfl rfl rfl rfl) ?_))
 obtain⟨z1,Z1,m⟩:=aC m
 refine zE 4 rfl (nX (c:=gY) Z1 AM rfl rfl u nofun (nI (rR X2 t3)) λtg5 t5 K12=>⟨trivial, ?_⟩)
 obtain⟨z2,Z2,m⟩:=aC m
 refine zE 10 rfl (fF (c:=gY) 0 Z2 AM rfl rfl rfl t5 K12 rfl λtg6 t6 K13=>⟨trivial, ?_⟩)
 refine zC 11 rfl (iB (ow _ _ _) rfl) (zX (qk (f:=.c 19 _ (.c 91 _ (.c 85 _ (fq5 90 _ _ _ _ _ (PP 84 _ _ _ _ _))))) K13 rfl (v ?_)))
 obtain⟨_,X4,m⟩:=aC m
 refine bU (BP X4 AL rfl t3 rfl rfl rfl) ?_
 obtain⟨z3,Z3,m⟩:=aC m
 exact ve λu=>fF (c:=gY) 0 Z3 AM rfl rfl rfl t6 u (nI (rR X4 t3)) λtg7 t7 K14=>qk K14 rfl (eY m tg7 t7 (kP [1,2,3,4,0,6,7] rfl rfl (.k9 .nil)))
 exact v (eY m tg3 t3 (lx (.k9 .nil)))
 rintro tg8 j0 t8 m
 exact v (v (eY m (tg4,tg8) ⟨t4,t8⟩ (kP [1,2,3,4,5,6] rfl rfl (.k9 .nil))))
 exact v (lA m (tg2,tg3) ⟨t2,t3⟩ (lx (.k9 .nil)))
 rintro⟨tg9,tg10⟩ ⟨r0,r1,r2,r3⟩ ⟨t9,t10⟩ m
 refine v (vl 4 (ow tg0 3 (List.map bT q0)) kR rfl rfl rfl (vl 1 (.agg ([.sc (.string x0.Path),nZ (x1.Data.length:Int),ow tg9 32 (List.map bJ r0)])) xE rfl rfl rfl (ve λu=>BT (t:=100) (.agg (bT ({ Path:=x0.Path,Size:=(x1.Data.length:Int),Ids:=r0}:dH))) (aS (.cons _ (.refl _)) u).1 (bH.agg (.k2 (.cons (mP _ 0 t9 u rfl (.refl _)) .nil))) (a_v (eO (List.map bT ([({ Path:=x0.Path,Size:=(x1.Data.length:Int),Ids:=r0}:dH)]:List dH)) JK rfl rfl rfl rfl) (qk ((aS (.cons _ (.refl _)) u).2) rfl ?_)))))
 obtain⟨z4,Z4,m⟩:=aC m
 exact ve λu=>fF (c:=bT) 1 Z4 JK rfl rfl rfl t0 u rfl λtg11 t11 K15=>qk K15 rfl (ve λu=>aK 3 ([.sc (.string p0),ow tg11 3 (List.map bT z4)]) u rfl rfl (jF rfl) (o9 _ _ _) S6 rfl rfl λK16=>qk K16 rfl (v (eY m (tg11,tg10) ⟨t11,t10⟩ (kP [1,2,3,4] rfl rfl (.k6 .nil)))))
 exact v (lA m (tg0,tg1) ⟨t0,t1⟩ (lx (.k6 .nil)))
 rintro⟨tg12,tg13⟩ ⟨r4,r5,r6,r7⟩ ⟨t12,t13⟩ m
 refine v (vl 2 (.agg ([.sc (.string p0),ow tg12 3 (List.map bT r4)])) lI rfl rfl rfl (ve λu=>aK 3 ([.sc (.string p0),ow tg12 3 (List.map bT r4)]) u rfl rfl rfl (by repeat (first | exact rfl | refine cE (iH _ _ _) ?_ | refine cE (bY _ _ _) ?_ | refine cE (f9 _ _ _ _) ?_ | refine cE rfl ?_)) zA rfl rfl λK17=>qk K17 rfl ?_))
 refine v ?_
 cases m
 exact vr λu=>dX.of3 (.inl rfl) (qD (.agg ([.sc (.string p0),ow tg12 3 (List.map bT r4)])) lI rfl (a9 3 u rfl) rfl) (fU _ _ (ow _ _ _) rfl) (fU _ _ (.sc (.int _ _)) rfl) (aS (List.nil_sublist _) u).1 (bH.agg (.cons (bH.refl _ _) (.cons ((eZ _ 0 t12 u rfl)) .nil))) ((eZ _ 1 t13 u rfl)) (bH.refl _ _) ⟨rfl,rfl⟩
theorem aGJ:aO Tryz.prog 86=true:=by kernel_rfl
def CW (m:Nat) (p0:aB) (y0:bB×(List (List Int))×Int) (q0:List aA) (q1:Int):Option (Lp ((List aA)×Int) (aP×Bool)):=
 if (decide (q1 < (y0.2.1.length:Int)))=true then ((ix y0.2.1 q1).bind λx0=>(V2 m x0).bind λy1=>(OS m p0 y1).bind λy2=>after (if (decide (y2 < 0))=true then ((ix y0.2.1 q1).bind λx1=>(app q0 ([({ Id:=y1,Staged:=true,Data:=x1,Locs:= []}:aA)]:List aA)).bind λz0=>some (.brk z0)) else some (.brk q0):Option (Lp ((List aA)) (Lp ((List aA)×Int) (aP×Bool)))) λj0=>some (.go (j0,IntKind.wrap .i64 (q1+1)))) else some (.brk (q0,q1))
def CX (m:Nat) (p0:aB) (p1:lP) (q0:List bE) (q1:Int) (q2:Int):Option (Lp ((List bE)×Int×Int) (aP×Bool)):=
 after (if (decide (q2 < (IntKind.wrap .i64 ((IntKind.wrap .i64 ((p0.Chunks.length:Int)+(p0.Snaps.length:Int)))+(p0.Exps.length:Int)))))=true then (some (.brk (decide ((q0.length:Int) < 64)))) else some (.brk false):Option (Lp (Bool) (Lp ((List bE)×Int×Int) (aP×Bool)))) λj0=>if j0=true then (after (after (if (decide (q2 < (p1.Pick.length:Int)))=true then ((ix p1.Pick q2).bind λx0=>some (.brk (!x0))) else some (.brk false):Option (Lp (Bool) (Lp ((List bE)×Int) (Lp ((List bE)×Int×Int) (aP×Bool))))) λj1=>if j1=true then (some (.brk (q0,q1))) else after (if (decide (q2 < (p0.Chunks.length:Int)))=true then ((ix p0.Chunks q2).bind λx1=>some (.brk { { ({ Kind:=0,Id:=jX,Seq:=0,Of:=0,Off:=q1,Len:=20}:bE) with Kind:=1} with Id:=x1.Id})) else after (if (decide (q2 < (IntKind.wrap .i64 ((p0.Chunks.length:Int)+(p0.Snaps.length:Int)))))=true then ((ix p0.Snaps (IntKind.wrap .i64 (q2 - (p0.Chunks.length:Int)))).bind λx2=>some (.brk { { ({ Kind:=0,Id:=jX,Seq:=0,Of:=0,Off:=q1,Len:=20}:bE) with Kind:=2} with Seq:=x2.Seq})) else (ix p0.Exps (IntKind.wrap .i64 ((IntKind.wrap .i64 (q2 - (p0.Chunks.length:Int))) - (p0.Snaps.length:Int)))).bind λx3=>some (.brk { { { ({ Kind:=0,Id:=jX,Seq:=0,Of:=0,Off:=q1,Len:=20}:bE) with Kind:=3} with Seq:=x3.Seq} with Of:=x3.Of}):Option (Lp (bE) (Lp (bE) (Lp ((List bE)×Int) (Lp ((List bE)×Int×Int) (aP×Bool)))))) λj2=>some (.brk j2):Option (Lp (bE) (Lp ((List bE)×Int) (Lp ((List bE)×Int×Int) (aP×Bool))))) λj3=>(app q0 ([j3]:List bE)).bind λz0=>some (.brk (z0,IntKind.wrap .i64 (q1+20))):Option (Lp ((List bE)×Int) (Lp ((List bE)×Int×Int) (aP×Bool)))) λ⟨j4,j5⟩=>some (.go (j4,j5,IntKind.wrap .i64 (q2+1)))) else some (.brk (q0,q1,q2))
def V3 (m:Nat) (p0:aB) (p1:lP):Option (aP×Bool):=
 (LM ([IntKind.wrap .u8 (IntKind.wrap .u64 (97+((IntKind.wrap .u64 p1.N).tmod 5)))]:List Int)).bind λst0=>grd (decide ((ByteArray.mk #[110]).size+st0.size≤9223372036854775807)) <| after (if (decide (0 < (p0.Vols.length:Int)))=true then (grd ((IntKind.wrap .u64 (p0.Vols.length:Int)) !=0) <| some (.brk (IntKind.wrap .i64 ((IntKind.wrap .u64 p1.Vol).tmod (IntKind.wrap .u64 (p0.Vols.length:Int)))))) else some (.brk 0):Option (Lp (Int) (aP×Bool))) λj0=>after (if (((IntKind.wrap .u64 p1.Do).tmod 8)==0)=true then (some (.brk (((IntKind.wrap .u64 p1.Do).tmod 8)==0))) else some (.brk (((IntKind.wrap .u64 p1.Do).tmod 8)==1)):Option (Lp (Bool) (aP×Bool))) λj1=>if j1=true then ((M85 m p1.Tree).bind λy0=>if (y0.2 !=0)=true then (some (({ Kind:=0,Snap:=({ Seq:=0,Man:=({ Name:=ByteArray.empty,Parts:= []}:bB),Locs:= []}:aG),Chunks:= [],Seq:=0,Vol:=0,Items:= []}:aP),false)) else (M86 m ((ByteArray.mk #[110])++st0) y0.1).bind λy1=>after (aT (λs=>CW m p0 y1 s.1 s.2) m ([],0)) λ⟨r0,r1⟩=>some (({ Kind:=1,Snap:=({ Seq:=p0.Seq,Man:=y1.1,Locs:= []}:aG),Chunks:=r0,Seq:=0,Vol:=0,Items:= []}:aP),true)) else after (if (((IntKind.wrap .u64 p1.Do).tmod 8)==2)=true then (some (.brk (((IntKind.wrap .u64 p1.Do).tmod 8)==2))) else some (.brk (((IntKind.wrap .u64 p1.Do).tmod 8)==5)):Option (Lp (Bool) (aP×Bool))) λj2=>if j2=true then (if ((p0.Snaps.length:Int)==0)=true then (some (({ Kind:=0,Snap:=({ Seq:=0,Man:=({ Name:=ByteArray.empty,Parts:= []}:bB),Locs:= []}:aG),Chunks:= [],Seq:=0,Vol:=0,Items:= []}:aP),false)) else grd ((IntKind.wrap .u64 (p0.Snaps.length:Int)) !=0) <| (ix p0.Snaps (IntKind.wrap .i64 ((IntKind.wrap .u64 p1.N).tmod (IntKind.wrap .u64 (p0.Snaps.length:Int))))).bind λx0=>if (((IntKind.wrap .u64 p1.Do).tmod 8)==2)=true then (some (({ Kind:=2,Snap:=({ Seq:=0,Man:=({ Name:=ByteArray.empty,Parts:= []}:bB),Locs:= []}:aG),Chunks:= [],Seq:=x0.Seq,Vol:=0,Items:= []}:aP),true)) else some (({ Kind:=3,Snap:=({ Seq:=0,Man:=({ Name:=ByteArray.empty,Parts:= []}:bB),Locs:= []}:aG),Chunks:= [],Seq:=0,Vol:=j0,Items:=([({ Kind:=3,Id:=jX,Seq:=p0.Seq,Of:=x0.Seq,Off:=13,Len:=17}:bE)]:List bE)}:aP),true)) else after (if (((IntKind.wrap .u64 p1.Do).tmod 8)==3)=true then (some (.brk (((IntKind.wrap .u64 p1.Do).tmod 8)==3))) else some (.brk (((IntKind.wrap .u64 p1.Do).tmod 8)==4)):Option (Lp (Bool) (aP×Bool))) λj3=>if j3=true then (after (aT (λs=>CX m p0 p1 s.1 s.2.1 s.2.2) m ([],13,0)) λ⟨r2,r3,r4⟩=>some (({ Kind:=3,Snap:=({ Seq:=0,Man:=({ Name:=ByteArray.empty,Parts:= []}:bB),Locs:= []}:aG),Chunks:= [],Seq:=0,Vol:=j0,Items:=r2}:aP),decide (0 < (r2.length:Int)))) else if (((IntKind.wrap .u64 p1.Do).tmod 8)==6)=true then (some (({ Kind:=4,Snap:=({ Seq:=0,Man:=({ Name:=ByteArray.empty,Parts:= []}:bB),Locs:= []}:aG),Chunks:= [],Seq:=0,Vol:=j0,Items:= []}:aP),true)) else some (({ Kind:=5,Snap:=({ Seq:=0,Man:=({ Name:=ByteArray.empty,Parts:= []}:bB),Locs:= []}:aG),Chunks:= [],Seq:=0,Vol:=j0,Items:= []}:aP),true)
theorem W35 {w:Nat} {p0:aB} {p1:lP} {o:aP×Bool} (h:aF) (m:V3 w p0 p1=some o):
 aL Tryz.prog 35 [.agg (aE p0),.agg (dO p1)] h (λr h'=>r= .tup [.agg (aD o.1),.sc (.bool o.2)]∧h'=h):=by
 refine fN 248 [.cell 4 62,.tmp 5] Tryz.func35 rfl rfl rfl rfl ?_
 unfold V3 at m
 refine v (gG rfl rfl λk2 K3=>gG rfl rfl λk5 K6=>ve λu=>bD (vR) u JM rfl rfl λk8 K9=>qk K9 rfl (v (vl 1 _ bX rfl rfl rfl (bU (eO (List.map dD ([IntKind.wrap .u8 (IntKind.wrap .u64 (97+((IntKind.wrap .u64 p1.N).tmod 5)))]:List Int)) jH rfl rfl rfl rfl) ?_))))
 obtain⟨st0,hs0,m⟩:=aC m
 refine bU (SR (c:=dD) hs0 (λ_=>rfl) u41 u5 u9 rfl) ?_
 obtain⟨Z0,m⟩:=mQ m
 refine bU (vI rfl rfl rfl (of_decide_eq_true Z0)) (v (v (vl 2 _ iK rfl rfl rfl (cZ qP rfl (fB m (σ:=Int) (λs=> [(some k8,.obj 62 (vR)),(some k5,.obj 67 (dO p1)),(some k2,.obj 30 (aE p0))]) (λs=>.c 2 (.ptr k2 0) (.c 3 (.ptr k5 0) (.c 4 (.ptr k8 0) (.c 6 (.sc (.string ((ByteArray.mk #[110])++st0))) (.c 7 (nZ s) .nil))))) (λx m=> ?_) ?_)))))
 refine v ?_
 apply vi m <;> intro c0 m
 exact v (vl 1 _ bX rfl rfl rfl (vl 2 _ iK rfl rfl rfl (cZ qP rfl (S1 m λ_ m=>mC m))))
 exact v (mC m)
 rintro _ j0 m
 refine v (vl 1 _ bX rfl rfl rfl (v (v (fB m (σ:=Bool) (λs=> [(some k8,.obj 62 (vR)),(some k5,.obj 67 (dO p1)),(some k2,.obj 30 (aE p0))]) (λs=>.c 2 (.ptr k2 0) (.c 3 (.ptr k5 0) (.c 4 (.ptr k8 0) (.c 6 (.sc (.string ((ByteArray.mk #[110])++st0))) (.c 7 (nZ j0) (.c 47 (.sc (.int .u64 ((IntKind.wrap .u64 p1.Do).tmod 8))) (.c 48 (.sc (.bool s)) .nil))))))) (λx m=> ?_) ?_))))
 refine v ?_
 apply vi m <;> intro c1 m
 exact v (p8 m)
 exact v (p8 m)
 rintro _ j1 m
 refine v ?_
 apply vi m <;> intro c2 m
 refine v (vl 1 _ aC8 rfl rfl rfl (vk W85 aGD m rfl rfl λ_ m=>v (v ?_)))
 apply vi m <;> intro c3 m
 refine v (bU (fG (vR) B1 rfl) (ve λu=>aK 0 (vR) u rfl rfl rfl rfl uC rfl rfl λK0=>qk K0 rfl (v ?_)))
 cases m
 exact vr λu=>dX.of2 (.inl rfl) (qD (.agg (vR)) n7 rfl (a9 0 u rfl) rfl) (fU _ _ (.sc (.bool _)) rfl) (aS (List.nil_sublist _) u).1 (bH.agg (.k3 (.cons (aX _) (.cons (aX _) (.cons (aX _) (.k2 (.cons (aX _) .nil))))))) (bH.refl _ _) ⟨rfl,rfl⟩
 refine v (v (vk W86 aGJ m rfl rfl λy0 m=>ve λu=>bD ([.sc (.string ByteArray.empty),sZ]) u LR rfl rfl λk44 K1=>qk K1 rfl (ve λu=>aK 0 (aU y0.1) u rfl rfl rfl rfl zA rfl rfl λK2=>qk K2 rfl (v (vl 3 _ bX rfl rfl rfl (vl 0 (.agg (aU y0.1)) lI rfl rfl rfl (bU (fG (([nZ p0.Seq]:List AV)++aU y0.1++([sZ]:List AV)) S7 rfl) (bU (fG (([nZ 1,nZ p0.Seq]:List AV)++aU y0.1++(zq6:List AV)) B1 rfl) (ve λu=>bD (vR) u JM rfl rfl λk49 K4=>qk K4 rfl (ve λu=>aK 0 (([nZ 1,nZ p0.Seq]:List AV)++aU y0.1++(zq6:List AV)) u rfl rfl rfl rfl uC rfl rfl λK5=>qk K5 rfl (v (pU (WX (.tok 44 35 (([]:List aA).length*35)) 1 (([nZ 1,nZ p0.Seq]:List AV)++aU y0.1++([sZ,ow none 35 (List.map aH []),nZ 0,nZ 0,sZ]:List AV)) rfl (.k2 (cU.app 2 rfl (.cons (bH.refl _ _) (.cons (jE (c:=aH) _ 35) (.k3 .nil)))))) (nC m (σ:=(List aA)×Int) (τ:=Option cB) (λg s=> [(g,.tok 44 35 ((s.1:List aA).length*35)),(some k49,.obj 62 (([nZ 1,nZ p0.Seq]:List AV)++aU y0.1++([sZ,ow g 35 (List.map aH s.1),nZ 0,nZ 0,sZ]:List AV))),(some k44,.obj 58 (aU y0.1)),(some k8,.obj 62 (vR)),(some k5,.obj 67 (dO p1)),(some k2,.obj 30 (aE p0))]) (λg s=>(g=none→s.1= [])) (λg s=>.c 2 (.ptr k2 0) (.c 4 (.ptr k8 0) (.c 11 (.sl none 1 (List.map gY y0.2.1)) (.c 13 (.ptr k49 0) (.c 14 (nZ s.2) .nil))))) none (λ_=>rfl) (lx (.k5 .nil)) ?_ ?_)))))))))))))
 rintro tg0 ⟨q0,q1⟩ x t0 m
 replace m:CW w p0 y0 q0 q1=some x:=m
 unfold CW at m
 refine v (cZ RC rfl (v ?_))
 apply vi m <;> intro c4 m
 refine v (v (v (vx m AL rfl rfl λ_ _ m=>vk W87 aA6 m rfl rfl λy1 m=>ve λu=>bD (bJ jX) u JI rfl rfl λk255 K7=>qk K7 rfl (ve λu=>aK 0 (bJ y1) u rfl rfl rfl rfl JH rfl rfl λK8=>qk K8 rfl (v (vl 6 (.agg (aE p0)) eV rfl rfl rfl (vl 0 (.agg (bJ y1)) fK rfl rfl rfl (vk W88 P6 m rfl rfl λ_ m=>o6 m (σ:=(List aA)) (τ:=Option cB) (λg s=> [(some k255,.obj 36 (bJ y1)),(g,.tok 44 35 ((s:List aA).length*35)),(some k49,.obj 62 (([nZ 1,nZ p0.Seq]:List AV)++aU y0.1++([sZ,ow g 35 (List.map aH s),nZ 0,nZ 0,sZ]:List AV))),(some k44,.obj 58 (aU y0.1)),(some k8,.obj 62 (vR)),(some k5,.obj 67 (dO p1)),(some k2,.obj 30 (aE p0))]) (λg s=>(g=none→s= [])) (λg s=>.c 2 (.ptr k2 0) (.c 4 (.ptr k8 0) (.c 11 (.sl none 1 (List.map gY y0.2.1)) (.c 13 (.ptr k49 0) (.c 14 (nZ q1) .nil))))) (λx m=> ?_) ?_))))))))
 refine v ?_
 apply vi m <;> intro c5 m
 refine v (vz [(11,some k49,.obj 62 (([nZ 1,nZ p0.Seq]:List AV)++aU y0.1++([sZ,ow tg0 35 (List.map aH q0),nZ 0,nZ 0,sZ]:List AV))),(1000000,some k255,.obj 36 (bJ y1))] mixed (λu=>⟨λ_=>aI 2 u rfl,λ_=>aI 0 u rfl,trivial⟩) λu=>zF 0 rfl mS rfl (zL 1 0 (ow tg0 35 (List.map aH q0)) rfl eD rfl rfl rfl (zL 2 1 (.agg (bJ y1)) rfl fK rfl rfl rfl (zC 3 rfl (eW (.sl _ _ _) rfl) (zI 4 rfl rfl ?_)))))
 obtain⟨x0,X0,m⟩:=aC m
 refine zC 5 rfl (l8 X0 AL rfl rfl) (zC 6 rfl (mN (.sl none 1 (List.map dD x0)) lH rfl rfl) (zC 7 rfl (fC (y:=.agg (aH ({ Id:=y1,Staged:=true,Data:=x0,Locs:= []}:aA))) (fG (bJ y1++([.sc (.bool true),.sl none 1 (List.map dD x0),sZ]:List AV)) W1 rfl) (bH.agg (cU.app 32 rfl (.k2 (.cons (aX _) .nil))))) (zC 8 rfl (eO (List.map aH ([({ Id:=y1,Staged:=true,Data:=x0,Locs:= []}:aA)]:List aA)) lF rfl rfl rfl rfl) ?_)))
 obtain⟨z0,Z1,m⟩:=aC m
 refine zE 9 rfl (fF (c:=aH) 1 Z1 lF rfl rfl rfl t0 u rfl λtg1 t1 K10=>⟨⟨λ_=>aI 2 K10 rfl,λ_=>aI 0 K10 rfl,trivial⟩, ?_⟩)
 refine zF 10 rfl mS rfl (zE 11 rfl (aK 2 (([nZ 1,nZ p0.Seq]:List AV)++aU y0.1++([sZ,ow tg1 35 (List.map aH z0),nZ 0,nZ 0,sZ]:List AV)) K10 rfl rfl (jF rfl) (o9 _ _ _) yX rfl rfl λK11=>⟨⟨λe=>absurd e (by decide),λ_=>aI 0 K11 rfl,trivial⟩, ?_⟩))
 exact zX (qk (f:=SX 97 _ _ _ _ _ _ _ _ _ _ _ _) K11 rfl (eY m tg1 t1 (lx (.k5 .nil))))
 exact v (eY m tg0 t0 (lx (.k5 .nil)))
 rintro tg2 j2 t2 m
 exact v (eY m tg2 t2 (kP [1,2,3,4,5,6] rfl rfl (.k5 .nil)))
 exact v (lA m tg0 t0 (lx (.k5 .nil)))
 rintro tg3 ⟨r0,r1⟩ t3 m
 refine v (vl 1 (.agg (([nZ 1,nZ p0.Seq]:List AV)++aU y0.1++([sZ,ow tg3 35 (List.map aH r0),nZ 0,nZ 0,sZ]:List AV))) n7 rfl rfl rfl (ve λu=>aK 3 (([nZ 1,nZ p0.Seq]:List AV)++aU y0.1++([sZ,ow tg3 35 (List.map aH r0),nZ 0,nZ 0,sZ]:List AV)) u rfl rfl rfl (by repeat (first | exact rfl | refine cE (iH _ _ _) ?_ | refine cE (bY _ _ _) ?_ | refine cE (f9 _ _ _ _) ?_ | refine cE rfl ?_)) uC rfl rfl λK12=>qk K12 rfl ?_))
 refine v ?_
 cases m
 exact vr λu=>dX.of2 (.inl rfl) (qD (.agg (([nZ 1,nZ p0.Seq]:List AV)++aU y0.1++([sZ,ow tg3 35 (List.map aH r0),nZ 0,nZ 0,sZ]:List AV))) n7 rfl (a9 3 u rfl) rfl) (fU _ _ (.sc (.bool _)) rfl) (aS (List.nil_sublist _) u).1 (bH.agg (.k2 (cU.app 2 rfl (.cons (aX _) (.cons ((eZ _ 0 t3 u rfl)) (.k2 (.cons (aX _) .nil))))))) (bH.refl _ _) ⟨rfl,rfl⟩
 refine v (fB m (σ:=Bool) (λs=> [(some k8,.obj 62 (vR)),(some k5,.obj 67 (dO p1)),(some k2,.obj 30 (aE p0))]) (λs=>.c 2 (.ptr k2 0) (.c 3 (.ptr k5 0) (.c 4 (.ptr k8 0) (.c 7 (nZ j0) (.c 47 (.sc (.int .u64 ((IntKind.wrap .u64 p1.Do).tmod 8))) (.c 99 (.sc (.bool s)) .nil)))))) (λx m=> ?_) ?_)
 refine v ?_
 apply vi m <;> intro c6 m
 exact v (oZ m)
 exact v (oZ m)
 rintro _ j3 m
 refine v ?_
 apply vi m <;> intro c7 m
 refine v (vl 2 _ eK rfl rfl rfl (cZ iJ rfl (v ?_)))
 apply vi m <;> intro c8 m
 refine v (bU (fG (vR) B1 rfl) (ve λu=>aK 0 (vR) u rfl rfl rfl rfl uC rfl rfl λK13=>qk K13 rfl (v ?_)))
 cases m
 exact vr λu=>dX.of2 (.inl rfl) (qD (.agg (vR)) n7 rfl (a9 0 u rfl) rfl) (fU _ _ (.sc (.bool _)) rfl) (aS (List.nil_sublist _) u).1 (bH.agg (.k3 (.cons (aX _) (.cons (aX _) (.cons (aX _) (.k2 (.cons (aX _) .nil))))))) (bH.refl _ _) ⟨rfl,rfl⟩
 refine v (v (vz [(1000000,some k2,.obj 30 (aE p0)),(1000000,some k5,.obj 67 (dO p1))] mixed (λu=>⟨λ_=>aI 2 u rfl,λ_=>aI 1 u rfl,trivial⟩) λu=>zF 0 rfl dW rfl (zL 1 0 (.sl none 4 (List.map bP p0.Snaps)) rfl eK rfl rfl rfl (zF 2 rfl TC rfl (zL 3 1 (nZ p1.N) rfl bX rfl rfl rfl (zC 4 rfl (I7 WZ S9 rfl) (zF 5 rfl dW rfl (zL 6 0 (.sl none 4 (List.map bP p0.Snaps)) rfl eK rfl rfl rfl (zC 7 rfl (tT iJ rfl) (zC 8 rfl (I7 WZ S9 rfl) ?_))))))))))
 obtain⟨Z2,m⟩:=mQ m
 refine zC 9 rfl (lE rfl rfl rfl (WK Z2)) (zC 10 rfl (I7 S9 WZ rfl) ?_)
 obtain⟨x1,X1,m⟩:=aC m
 refine zC 11 rfl (l8 X1 gJ rfl rfl) (zC 12 rfl (mN (.agg (bP x1)) qR rfl rfl) (zE 13 rfl (bD (V6) u uB rfl rfl λk329 K14=>⟨⟨λ_=>aI 3 K14 rfl,λ_=>aI 2 K14 rfl,trivial⟩, ?_⟩)))
 refine zE 14 rfl (aK 0 (bP x1) K14 rfl rfl rfl rfl JL rfl rfl λK15=>⟨⟨λ_=>aI 3 K15 rfl,λ_=>aI 2 K15 rfl,trivial⟩, ?_⟩)
 refine zX (qk (f:=.c 16 _ (SY 119 _ _ _ _ _ _ _ _ _ _ _ _ _ _)) K15 rfl (v (vl 2 _ bX rfl rfl rfl (v ?_))))
 apply vi m <;> intro c9 m
 refine v (vl 0 _ bX rfl rfl rfl (bU (fG ([nZ 2,nZ 0,.sc (.string ByteArray.empty),sZ,sZ,sZ,nZ x1.Seq,nZ 0,sZ]) B1 rfl) (ve λu=>aK 1 ([nZ 2,nZ 0,.sc (.string ByteArray.empty),sZ,sZ,sZ,nZ x1.Seq,nZ 0,sZ]) u rfl rfl rfl rfl uC rfl rfl λK16=>qk K16 rfl (v ?_))))
 cases m
 exact vr λu=>dX.of2 (.inl rfl) (qD (.agg ([nZ 2,nZ 0,.sc (.string ByteArray.empty),sZ,sZ,sZ,nZ x1.Seq,nZ 0,sZ])) n7 rfl (a9 1 u rfl) rfl) (fU _ _ (.sc (.bool _)) rfl) (aS (List.nil_sublist _) u).1 (bH.agg (.k3 (.cons (aX _) (.cons (aX _) (.cons (aX _) (.k2 (.cons (aX _) .nil))))))) (bH.refl _ _) ⟨rfl,rfl⟩
 refine v (v (vl 3 _ bX rfl rfl rfl (vl 0 _ bX rfl rfl rfl (bU (fG (aY ({ Kind:=3,Id:=jX,Seq:=p0.Seq,Of:=x1.Seq,Off:=13,Len:=17}:bE)) W0 rfl) (bU (eO (List.map aY ([({ Kind:=3,Id:=jX,Seq:=p0.Seq,Of:=x1.Seq,Off:=13,Len:=17}:bE)]:List bE)) PX rfl rfl rfl rfl) (bU (fG ([nZ 3,nZ 0,.sc (.string ByteArray.empty),sZ,sZ,sZ,nZ 0,nZ j0,.sl none 37 (List.map aY ([({ Kind:=3,Id:=jX,Seq:=p0.Seq,Of:=x1.Seq,Off:=13,Len:=17}:bE)]:List bE))]) B1 rfl) (ve λu=>aK 1 ([nZ 3,nZ 0,.sc (.string ByteArray.empty),sZ,sZ,sZ,nZ 0,nZ j0,.sl none 37 (List.map aY ([({ Kind:=3,Id:=jX,Seq:=p0.Seq,Of:=x1.Seq,Off:=13,Len:=17}:bE)]:List bE))]) u rfl rfl rfl rfl uC rfl rfl λK17=>qk K17 rfl (v ?_))))))))
 cases m
 exact vr λu=>dX.of2 (.inl rfl) (qD (.agg ([nZ 3,nZ 0,.sc (.string ByteArray.empty),sZ,sZ,sZ,nZ 0,nZ j0,.sl none 37 (List.map aY ([({ Kind:=3,Id:=jX,Seq:=p0.Seq,Of:=x1.Seq,Off:=13,Len:=17}:bE)]:List bE))])) n7 rfl (a9 1 u rfl) rfl) (fU _ _ (.sc (.bool _)) rfl) (aS (List.nil_sublist _) u).1 (bH.agg (.k3 (.cons (aX _) (.cons (aX _) (.cons (aX _) (.k3 .nil)))))) (bH.refl _ _) ⟨rfl,rfl⟩
 refine v (fB m (σ:=Bool) (λs=> [(some k8,.obj 62 (vR)),(some k5,.obj 67 (dO p1)),(some k2,.obj 30 (aE p0))]) (λs=>.c 2 (.ptr k2 0) (.c 3 (.ptr k5 0) (.c 4 (.ptr k8 0) (.c 7 (nZ j0) (.c 47 (.sc (.int .u64 ((IntKind.wrap .u64 p1.Do).tmod 8))) (.c 136 (.sc (.bool s)) .nil)))))) (λx m=> ?_) ?_)
 refine v ?_
 apply vi m <;> intro c10 m
 exact v (oZ m)
 exact v (oZ m)
 rintro _ j4 m
 refine v ?_
 apply vi m <;> intro c11 m
 refine v (v (v (pU (FE (.tok 38 37 (([]:List bE).length*37)) 17 (ow none 37 (List.map aY [])) (jE _ _)) (nC m (σ:=(List bE)×Int×Int) (τ:=Option cB) (λg s=> [(g,.tok 38 37 ((s.1:List bE).length*37)),(some k8,.obj 62 (vR)),(some k5,.obj 67 (dO p1)),(some k2,.obj 30 (aE p0))]) (λg s=>(g=none→s.1= [])) (λg s=>.c 2 (.ptr k2 0) (.c 3 (.ptr k5 0) (.c 4 (.ptr k8 0) (.c 7 (nZ j0) (.c 17 (ow g 37 (List.map aY s.1)) (.c 18 (nZ s.2.1) (.c 19 (nZ s.2.2) .nil))))))) none (λ_=>rfl) (lx (.k7 .nil)) ?_ ?_))))
 rintro tg4 ⟨q2,q3,q4⟩ x t4 m
 replace m:CX w p0 p1 q2 q3 q4=some x:=m
 unfold CX at m
 refine vs (vs (fB m (σ:=Bool) (λs=> [(tg4,.tok 38 37 ((q2:List bE).length*37)),(some k8,.obj 62 (vR)),(some k5,.obj 67 (dO p1)),(some k2,.obj 30 (aE p0))]) (λs=>.c 2 (.ptr k2 0) (.c 3 (.ptr k5 0) (.c 4 (.ptr k8 0) (.c 7 (nZ j0) (.c 17 (ow tg4 37 (List.map aY q2)) (.c 18 (nZ q3) (.c 19 (nZ q4) (.c 156 (.sc (.bool s)) .nil)))))))) (λx m=> ?_) ?_))
 refine v (vl 3 _ eD rfl rfl rfl (cZ hM rfl (vl 3 _ eK rfl rfl rfl (cZ iJ rfl (vl 3 _ hX rfl rfl rfl (cZ nK rfl ?_))))))
 apply vi m <;> intro b0 m
 rw[b0]
 exact bU (tU n3 t4 rfl) (F6 m)
 rw[b0]
 exact F6 m
 rintro _ j5 m
 refine v ?_
 apply vi m <;> intro c12 m
 refine v (vs (o6 m (σ:=(List bE)×Int) (τ:=Option cB) (λg s=> [(g,.tok 38 37 ((s.1:List bE).length*37)),(some k8,.obj 62 (vR)),(some k5,.obj 67 (dO p1)),(some k2,.obj 30 (aE p0))]) (λg s=>(g=none→s.1= [])) (λg s=>.c 2 (.ptr k2 0) (.c 3 (.ptr k5 0) (.c 4 (.ptr k8 0) (.c 7 (nZ j0) (.c 17 (ow g 37 (List.map aY s.1)) (.c 18 (nZ s.2) (.c 19 (nZ q4) .nil))))))) (λx m=> ?_) ?_))
 refine v (vs (vs (fB m (σ:=Bool) (λs=> [(tg4,.tok 38 37 ((q2:List bE).length*37)),(some k8,.obj 62 (vR)),(some k5,.obj 67 (dO p1)),(some k2,.obj 30 (aE p0))]) (λs=>.c 2 (.ptr k2 0) (.c 3 (.ptr k5 0) (.c 4 (.ptr k8 0) (.c 7 (nZ j0) (.c 17 (ow tg4 37 (List.map aY q2)) (.c 18 (nZ q3) (.c 19 (nZ q4) (.c 171 (.sc (.bool s)) .nil)))))))) (λx m=> ?_) ?_)))
 refine v (vl 2 _ W4 rfl rfl rfl (cZ W3 rfl ?_))
 apply vi m <;> intro b1 m
 rw[b1]
 exact vl 2 _ W4 rfl rfl rfl (vx m aC9 rfl rfl λ_ _ m=>F6 m)
 rw[b1]
 exact F6 m
 rintro _ j6 m
 refine v ?_
 apply vi m <;> intro c13 m
 exact v (eY m tg4 t4 (lx (.k7 .nil)))
 refine v (v (bU (fG (aY ({ Kind:=0,Id:=jX,Seq:=0,Of:=0,Off:=q3,Len:=20}:bE)) W0 rfl) (ve λu=>bD (([nZ 0]:List AV)++bJ jX++(HP:List AV)) u S5 rfl rfl λk1523 K18=>qk K18 rfl (ve λu=>aK 0 (aY ({ Kind:=0,Id:=jX,Seq:=0,Of:=0,Off:=q3,Len:=20}:bE)) u rfl rfl rfl rfl S4 rfl rfl λK19=>qk K19 rfl (v (v (vl 4 _ eD rfl rfl rfl (cZ hM rfl (fB m (σ:=bE) (λs=> [(some k1523,.obj 38 (aY s)),(tg4,.tok 38 37 ((q2:List bE).length*37)),(some k8,.obj 62 (vR)),(some k5,.obj 67 (dO p1)),(some k2,.obj 30 (aE p0))]) (λs=>.c 2 (.ptr k2 0) (.c 3 (.ptr k5 0) (.c 4 (.ptr k8 0) (.c 7 (nZ j0) (.c 17 (ow tg4 37 (List.map aY q2)) (.c 18 (nZ q3) (.c 19 (nZ q4) (.c 20 (.ptr k1523 0) .nil)))))))) (λx m=> ?_) ?_)))))))))
 refine v ?_
 apply vi m <;> intro c14 m
 refine v (vz [(1000000,some k2,.obj 30 (aE p0)),(7,some k1523,.obj 38 (aY ({ Kind:=0,Id:=jX,Seq:=0,Of:=0,Off:=q3,Len:=20}:bE)))] mixed (λu=>⟨λ_=>aI 4 u rfl,λ_=>aI 0 u rfl,trivial⟩) λu=>zF 0 rfl dZ rfl (zL 1 0 (.sl none 35 (List.map aH p0.Chunks)) rfl eD rfl rfl rfl (zI 2 rfl rfl ?_)))
 obtain⟨x2,X2,m⟩:=aC m
 refine zC 3 rfl (l8 X2 eU rfl rfl) (zC 4 rfl (oY n4 rfl rfl) (zC 5 rfl (mN (.agg (bJ x2.Id)) fK rfl rfl) (zF 6 rfl lR rfl (zE 7 rfl (aK 0 (aY { ({ Kind:=0,Id:=jX,Seq:=0,Of:=0,Off:=q3,Len:=20}:bE) with Kind:=1}) u rfl rfl rfl rfl yT rfl rfl λK20=>⟨⟨λ_=>aI 4 K20 rfl,λe=>absurd e (by decide),trivial⟩, ?_⟩)))))
 refine zF 8 rfl tY rfl (zE 9 rfl (aK 0 (aY { { ({ Kind:=0,Id:=jX,Seq:=0,Of:=0,Off:=q3,Len:=20}:bE) with Kind:=1} with Id:=x2.Id}) K20 rfl rfl rfl rfl JH rfl rfl λK21=>⟨⟨λ_=>aI 4 K21 rfl,λe=>absurd e (by decide),trivial⟩, ?_⟩))
 exact zX (qk (f:=PQ 207 _ _ _ _ _ _ _ _ _) K21 rfl (F6 m))
 refine v (vl 4 _ eD rfl rfl rfl (cZ hM rfl (vl 4 _ eK rfl rfl rfl (cZ iJ rfl (fB m (σ:=bE) (λs=> [(some k1523,.obj 38 (aY s)),(tg4,.tok 38 37 ((q2:List bE).length*37)),(some k8,.obj 62 (vR)),(some k5,.obj 67 (dO p1)),(some k2,.obj 30 (aE p0))]) (λs=>.c 2 (.ptr k2 0) (.c 3 (.ptr k5 0) (.c 4 (.ptr k8 0) (.c 7 (nZ j0) (.c 17 (ow tg4 37 (List.map aY q2)) (.c 18 (nZ q3) (.c 19 (nZ q4) (.c 20 (.ptr k1523 0) .nil)))))))) (λx m=> ?_) ?_)))))
 refine v ?_
 apply vi m <;> intro c15 m
 refine v (vz [(1000000,some k2,.obj 30 (aE p0)),(11,some k1523,.obj 38 (aY ({ Kind:=0,Id:=jX,Seq:=0,Of:=0,Off:=q3,Len:=20}:bE)))] mixed (λu=>⟨λ_=>aI 4 u rfl,λ_=>aI 0 u rfl,trivial⟩) λu=>zF 0 rfl dW rfl (zL 1 0 (.sl none 4 (List.map bP p0.Snaps)) rfl eK rfl rfl rfl (zI 2 rfl rfl (zF 3 rfl dZ rfl (zL 4 0 (.sl none 35 (List.map aH p0.Chunks)) rfl eD rfl rfl rfl (zC 5 rfl (tT hM rfl) (zC 6 rfl (lE rfl rfl rfl trivial) ?_)))))))
 obtain⟨x3,X3,m⟩:=aC m
 refine zC 7 rfl (l8 X3 gJ rfl rfl) (zC 8 rfl (oY uA rfl rfl) (zC 9 rfl (mN (nZ x3.Seq) bX rfl rfl) (zF 10 rfl lR rfl (zE 11 rfl (aK 0 (aY { ({ Kind:=0,Id:=jX,Seq:=0,Of:=0,Off:=q3,Len:=20}:bE) with Kind:=2}) u rfl rfl rfl rfl yT rfl rfl λK22=>⟨⟨λ_=>aI 4 K22 rfl,λe=>absurd e (by decide),trivial⟩, ?_⟩)))))
 refine zF 12 rfl kQ rfl (zE 13 rfl (aK 0 (aY { { ({ Kind:=0,Id:=jX,Seq:=0,Of:=0,Off:=q3,Len:=20}:bE) with Kind:=2} with Seq:=x3.Seq}) K22 rfl rfl rfl rfl yT rfl rfl λK23=>⟨⟨λ_=>aI 4 K23 rfl,λe=>absurd e (by decide),trivial⟩, ?_⟩))
 exact zX (qk (f:=JD 229 _ _ _ _ _ _ _ _ _ _ _ _ _) K23 rfl (F6 m))
 refine v (vl 4 _ hX rfl rfl rfl (vl 4 _ eD rfl rfl rfl (cZ hM rfl (vl 4 _ eK rfl rfl rfl (cZ iJ rfl (vx m hU rfl rfl λx4 _ m=>va (.agg (cD x4)) qS rfl rfl (ve λu=>bD ([nZ 0,nZ 0,sZ]) u n9 rfl rfl λk1631 K24=>qk K24 rfl (ve λu=>aK 0 (cD x4) u rfl rfl rfl rfl xG rfl rfl λK25=>qk K25 rfl (v (vz [(1000000,some k1631,.obj 99 (cD x4)),(5,some k1523,.obj 38 (aY ({ Kind:=0,Id:=jX,Seq:=0,Of:=0,Off:=q3,Len:=20}:bE)))] mixed (λu=>⟨λ_=>aI 0 u rfl,λ_=>aI 1 u rfl,trivial⟩) λu=>zF 0 rfl GF rfl (zL 1 0 (nZ x4.Seq) rfl bX rfl rfl rfl (zF 2 rfl TL rfl (zL 3 0 (nZ x4.Of) rfl bX rfl rfl rfl (zF 4 rfl lR rfl (zE 5 rfl (aK 1 (aY { ({ Kind:=0,Id:=jX,Seq:=0,Of:=0,Off:=q3,Len:=20}:bE) with Kind:=3}) u rfl rfl rfl rfl yT rfl rfl λK26=>⟨⟨λ_=>aI 0 K26 rfl,λe=>absurd e (by decide),trivial⟩, ?_⟩))))))))))))))))
 refine zF 6 rfl kQ rfl (zE 7 rfl (aK 1 (aY { { ({ Kind:=0,Id:=jX,Seq:=0,Of:=0,Off:=q3,Len:=20}:bE) with Kind:=3} with Seq:=x4.Seq}) K26 rfl rfl rfl rfl yT rfl rfl λK27=>⟨⟨λ_=>aI 0 K27 rfl,λe=>absurd e (by decide),trivial⟩, ?_⟩))
 refine zF 8 rfl tZ rfl (zE 9 rfl (aK 1 (aY { { { ({ Kind:=0,Id:=jX,Seq:=0,Of:=0,Off:=q3,Len:=20}:bE) with Kind:=3} with Seq:=x4.Seq} with Of:=x4.Of}) K27 rfl rfl rfl rfl yT rfl rfl λK28=>⟨⟨λ_=>aI 0 K28 rfl,λe=>absurd e (by decide),trivial⟩, ?_⟩))
 exact zX (qk (f:=fq7 193 _ _ _ _ _ _ _ _) K28 rfl (uZ m (kP [1,2,3,4,5] rfl rfl (.k8 .nil))))
 rintro _ j7 m
 exact F6 m
 rintro _ j8 m
 refine v (vl 0 (.agg (aY j8)) GA rfl rfl rfl (bU (eO (List.map aY ([j8]:List bE)) PX rfl rfl rfl rfl) ?_))
 obtain⟨z1,Z3,m⟩:=aC m
 exact ve λu=>fF (c:=aY) 1 Z3 PX rfl rfl rfl t4 u rfl λtg5 t5 K29=>qk K29 rfl (eY m tg5 t5 (kP [1,2,3,4] rfl rfl (.k7 .nil)))
 rintro tg6 ⟨j9,j10⟩ t6 m
 exact v (eY m tg6 t6 (lx (.k7 .nil)))
 exact v (lA m tg4 t4 (lx (.k7 .nil)))
 rintro tg7 ⟨r2,r3,r4⟩ t7 m
 refine v (bU (fG ([nZ 3,nZ 0,.sc (.string ByteArray.empty),sZ,sZ,sZ,nZ 0,nZ j0,ow tg7 37 (List.map aY r2)]) B1 (by cases tg7 <;> rfl)) (bU (tU n3 t7 rfl) (ve λu=>aK 1 ([nZ 3,nZ 0,.sc (.string ByteArray.empty),sZ,sZ,sZ,nZ 0,nZ j0,ow tg7 37 (List.map aY r2)]) u rfl rfl rfl (by repeat (first | exact rfl | refine cE (iH _ _ _) ?_ | refine cE (bY _ _ _) ?_ | refine cE (f9 _ _ _ _) ?_ | refine cE rfl ?_)) uC rfl rfl λK30=>qk K30 rfl ?_)))
 refine v ?_
 cases m
 exact vr λu=>dX.of2 (.inl rfl) (qD (.agg ([nZ 3,nZ 0,.sc (.string ByteArray.empty),sZ,sZ,sZ,nZ 0,nZ j0,ow tg7 37 (List.map aY r2)])) n7 rfl (a9 1 u rfl) rfl) (fU _ _ (.sc (.bool _)) rfl) (aS (List.nil_sublist _) u).1 (bH.agg (.k3 (.cons (aX _) (.cons (aX _) (.cons (aX _) (.k2 (.cons ((eZ _ 0 t7 u rfl)) .nil))))))) (bH.refl _ _) ⟨rfl,rfl⟩
 refine v (v ?_)
 apply vi m <;> intro c16 m
 refine v (bU (fG ([nZ 4,nZ 0,.sc (.string ByteArray.empty),sZ,sZ,sZ,nZ 0,nZ j0,sZ]) B1 rfl) (ve λu=>aK 0 ([nZ 4,nZ 0,.sc (.string ByteArray.empty),sZ,sZ,sZ,nZ 0,nZ j0,sZ]) u rfl rfl rfl rfl uC rfl rfl λK31=>qk K31 rfl (v ?_)))
 cases m
 exact vr λu=>dX.of2 (.inl rfl) (qD (.agg ([nZ 4,nZ 0,.sc (.string ByteArray.empty),sZ,sZ,sZ,nZ 0,nZ j0,sZ])) n7 rfl (a9 0 u rfl) rfl) (fU _ _ (.sc (.bool _)) rfl) (aS (List.nil_sublist _) u).1 (bH.agg (.k3 (.cons (aX _) (.cons (aX _) (.cons (aX _) (.k2 (.cons (aX _) .nil))))))) (bH.refl _ _) ⟨rfl,rfl⟩
 refine v (v (bU (fG ([nZ 5,nZ 0,.sc (.string ByteArray.empty),sZ,sZ,sZ,nZ 0,nZ j0,sZ]) B1 rfl) (ve λu=>aK 0 ([nZ 5,nZ 0,.sc (.string ByteArray.empty),sZ,sZ,sZ,nZ 0,nZ j0,sZ]) u rfl rfl rfl rfl uC rfl rfl λK32=>qk K32 rfl (v ?_))))
 cases m
 exact vr λu=>dX.of2 (.inl rfl) (qD (.agg ([nZ 5,nZ 0,.sc (.string ByteArray.empty),sZ,sZ,sZ,nZ 0,nZ j0,sZ])) n7 rfl (a9 0 u rfl) rfl) (fU _ _ (.sc (.bool _)) rfl) (aS (List.nil_sublist _) u).1 (bH.agg (.k3 (.cons (aX _) (.cons (aX _) (.cons (aX _) (.k2 (.cons (aX _) .nil))))))) (bH.refl _ _) ⟨rfl,rfl⟩
theorem aBB:aO Tryz.prog 35=true:=by kernel_rfl
end Go.Proofs.YtbbifdfldpfphaaGreat
