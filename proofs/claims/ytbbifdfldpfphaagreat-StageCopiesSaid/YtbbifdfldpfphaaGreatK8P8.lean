import Derived.Test.YtbbifdfldpfphaaGreatK8P4
import Derived.Test.YtbbifdfldpfphaaGreatK8P7
import Derived.Test.YtbbifdfldpfphaaGreatK8P5
set_option linter.unusedSimpArgs false
set_option linter.unusedVariables false
set_option maxHeartbeats 4000000
set_option maxRecDepth 100000
namespace Go.Proofs.YtbbifdfldpfphaaGreat
open Go.Vm
def rK (m:Nat) (p1:aV) (q0:Bool) (q1:Int):Option (Lp (Bool×Int) (Lp (Int×fE) (Int×Int×fE))):=
 if (decide (q1 < (p1.Chunks.length:Int)))=true then (after (if q0=true then ((ix p1.Chunks q1).bind λx0=>if x0.Staged=true then ((ix p1.Chunks q1).bind λx1=>some (.brk ((x1.Locs.length:Int)==0))) else some (.brk false)) else some (.brk false):Option (Lp (Bool) (Lp (Bool×Int) (Lp (Int×fE) (Int×Int×fE))))) λj0=>some (.go (j0,IntKind.wrap .i64 (q1+1)))) else some (.brk (q0,q1))
def vN (m:Nat) (p1:aV) (q0:List aB) (q1:Int):Option (Lp ((List aB)×Int) (Lp (Int×fE) (Int×Int×fE))):=
 if (decide (q1 < (p1.Chunks.length:Int)))=true then ((ix p1.Chunks q1).bind λx0=>(E6 m q0 x0).bind λy0=>some (.go (y0,IntKind.wrap .i64 (q1+1)))) else some (.brk (q0,q1))
def rL (m:Nat) (p1:aV) (q0:Bool) (q1:Int):Option (Lp (Bool×Int) (Lp (Int×fE) (Lp (Int×fE) (Lp (Int×fE) (Int×Int×fE))))):=
 if (decide (q1 < (p1.Items.length:Int)))=true then (after (if q0=true then ((ix p1.Items q1).bind λx0=>if (decide (1≤x0.Kind))=true then ((ix p1.Items q1).bind λx1=>some (.brk (decide (x1.Kind≤3)))) else some (.brk false)) else some (.brk false):Option (Lp (Bool) (Lp (Bool×Int) (Lp (Int×fE) (Lp (Int×fE) (Lp (Int×fE) (Int×Int×fE))))))) λj0=>some (.go (j0,IntKind.wrap .i64 (q1+1)))) else some (.brk (q0,q1))
def p9 (m:Nat) (p0:aA) (p1:aV) (x0:aQ) (q0:Int) (q1:List aH) (q2:List aB) (q3:List aT) (q4:Int):Option (Lp (Int×(List aH)×(List aB)×(List aT)×Int) (Lp (Int×fE) (Lp (Int×fE) (Lp (Int×fE) (Int×Int×fE))))):=
 if (decide (q4 < (p1.Items.length:Int)))=true then ((ix p1.Items q4).bind λx1=>(ix p1.Items q4).bind λx2=>(ix p1.Items q4).bind λx3=>(G9 m ({ Seq:=q0,Snaps:=q1,Chunks:=q2,Exps:=q3,Vols:=(p0.Vols.set p1.Vol.toNat ({ x0 with State:=2})).set p1.Vol.toNat ({ ({ x0 with State:=2}:aQ) with Files:=IntKind.wrap .i64 (x0.Files+1)})}:aA) x1 ({ Vol:=p1.Vol,File:=({ ({ x0 with State:=2}:aQ) with Files:=IntKind.wrap .i64 (x0.Files+1)}:aQ).Files,Off:=x2.Off,Len:=x3.Len}:aR)).bind λy0=>if (!y0.1)=true then (some (.ret (.ret (.ret (.ret (8,y0.2.1,y0.2.2.1,y0.2.2.2.1,y0.2.2.2.2,(p0.Vols.set p1.Vol.toNat ({ x0 with State:=2})).set p1.Vol.toNat ({ ({ x0 with State:=2}:aQ) with Files:=IntKind.wrap .i64 (x0.Files+1)}))))))) else some (.go (y0.2.1,y0.2.2.1,y0.2.2.2.1,y0.2.2.2.2,IntKind.wrap .i64 (q4+1)))) else some (.brk (q0,q1,q2,q3,q4))
def mW (m:Nat) (p0:aA) (p1:aV) (x0:aQ) (r0:Int) (r1:List aT) (q0:List aH) (q1:List aB) (q2:Int):Option (Lp ((List aH)×(List aB)×Int) (Lp (Int×fE) (Lp (Int×fE) (Lp (Int×fE) (Int×Int×fE))))):=
 if (decide (q2 < (p1.Items.length:Int)))=true then ((ix p1.Items q2).bind λx1=>after (if (x1.Kind==3)=true then ((ix p1.Items q2).bind λx2=>(CR m ({ Seq:=r0,Snaps:=q0,Chunks:=q1,Exps:=r1,Vols:=(p0.Vols.set p1.Vol.toNat ({ x0 with State:=2})).set p1.Vol.toNat ({ ({ x0 with State:=2}:aQ) with Files:=IntKind.wrap .i64 (x0.Files+1)})}:aA) x2.Of).bind λy0=>some (.brk (y0.2.1,y0.2.2))) else some (.brk (q0,q1)):Option (Lp ((List aH)×(List aB)) (Lp ((List aH)×(List aB)×Int) (Lp (Int×fE) (Lp (Int×fE) (Lp (Int×fE) (Int×Int×fE))))))) λ⟨j0,j1⟩=>some (.go (j0,j1,IntKind.wrap .i64 (q2+1)))) else some (.brk (q0,q1,q2))
def nI (m:Nat) (p0:aA) (p1:aV) (x0:aQ) (r0:Int) (r1:List aT) (r2:List aH) (q0:List aB) (q1:Int):Option (Lp ((List aB)×Int) (Lp ((List aB)) (Lp (Int×fE) (Lp (Int×fE) (Lp (Int×fE) (Int×Int×fE)))))):=
 if (decide (q1 < (p1.Items.length:Int)))=true then ((ix p1.Items q1).bind λx1=>after (if (x1.Kind==1)=true then ((ix p1.Items q1).bind λx2=>(KS m ({ Seq:=r0,Snaps:=r2,Chunks:=q0,Exps:=r1,Vols:=(p0.Vols.set p1.Vol.toNat ({ x0 with State:=2})).set p1.Vol.toNat ({ ({ x0 with State:=2}:aQ) with Files:=IntKind.wrap .i64 (x0.Files+1)})}:aA) x2.Id).bind λy0=>after (if (decide (0≤y0))=true then ((ix q0 y0).bind λx3=>(ix (q0.set y0.toNat ({ x3 with Staged:=false})) y0).bind λx4=>some (.brk ((q0.set y0.toNat ({ x3 with Staged:=false})).set y0.toNat ({ x4 with Data:=([]:List Int)})))) else some (.brk q0):Option (Lp ((List aB)) (Lp ((List aB)) (Lp ((List aB)×Int) (Lp ((List aB)) (Lp (Int×fE) (Lp (Int×fE) (Lp (Int×fE) (Int×Int×fE))))))))) λj0=>some (.brk j0)) else some (.brk q0):Option (Lp ((List aB)) (Lp ((List aB)×Int) (Lp ((List aB)) (Lp (Int×fE) (Lp (Int×fE) (Lp (Int×fE) (Int×Int×fE)))))))) λj1=>some (.go (j1,IntKind.wrap .i64 (q1+1)))) else some (.brk (q0,q1))
def uC (m:Nat) (p0:aA) (p1:aV) (q0:List aB) (q1:Int):Option (Lp ((List aB)×Int) (Lp (fE) (Lp (Int×fE) (Lp (Int×fE) (Lp (Int×fE) (Int×Int×fE)))))):=
 if (decide (q1 < (p0.Chunks.length:Int)))=true then ((ix p0.Chunks q1).bind λx0=>(G8 m x0.Locs p1.Vol).bind λy0=>after (if ({ x0 with Locs:=y0}.Staged)=true then (some (.brk true)) else some (.brk (decide (0 < (({ x0 with Locs:=y0}.Locs).length:Int)))):Option (Lp (Bool) (Lp ((List aB)×Int) (Lp (fE) (Lp (Int×fE) (Lp (Int×fE) (Lp (Int×fE) (Int×Int×fE)))))))) λj0=>after (if j0=true then ((app q0 ([{ x0 with Locs:=y0}]:List aB)).bind λz0=>some (.brk z0)) else some (.brk q0):Option (Lp ((List aB)) (Lp ((List aB)×Int) (Lp (fE) (Lp (Int×fE) (Lp (Int×fE) (Lp (Int×fE) (Int×Int×fE)))))))) λj1=>some (.go (j1,IntKind.wrap .i64 (q1+1)))) else some (.brk (q0,q1))
def uD (m:Nat) (p1:aV) (q0:List aH) (q1:Int):Option (Lp ((List aH)×Int) (Lp (fE) (Lp (Int×fE) (Lp (Int×fE) (Lp (Int×fE) (Int×Int×fE)))))):=
 if (decide (q1 < (q0.length:Int)))=true then ((ix q0 q1).bind λx0=>(G8 m x0.Locs p1.Vol).bind λy0=>(ix q0 q1).bind λx1=>some (.go (q0.set q1.toNat ({ x1 with Locs:=y0}),IntKind.wrap .i64 (q1+1)))) else some (.brk (q0,q1))
def uE (m:Nat) (p0:aA) (p1:aV) (q0:List aT) (q1:Int):Option (Lp ((List aT)×Int) (Lp (fE) (Lp (Int×fE) (Lp (Int×fE) (Lp (Int×fE) (Int×Int×fE)))))):=
 if (decide (q1 < (p0.Exps.length:Int)))=true then ((ix p0.Exps q1).bind λx0=>(G8 m x0.Locs p1.Vol).bind λy0=>after (if (decide (0 < (({ x0 with Locs:=y0}.Locs).length:Int)))=true then ((app q0 ([{ x0 with Locs:=y0}]:List aT)).bind λz0=>some (.brk z0)) else some (.brk q0):Option (Lp ((List aT)) (Lp ((List aT)×Int) (Lp (fE) (Lp (Int×fE) (Lp (Int×fE) (Lp (Int×fE) (Int×Int×fE)))))))) λj0=>some (.go (j0,IntKind.wrap .i64 (q1+1)))) else some (.brk (q0,q1))
def rM (m:Nat) (p0:aA) (p1:aV):Option (Int×Int×fE):=
 after (if (p1.Kind==1)=true then (after (if (p1.Snap.Seq==p0.Seq)=true then (some (.brk ((p1.Snap.Locs.length:Int)==0))) else some (.brk false):Option (Lp (Bool) (Lp (Int×fE) (Int×Int×fE)))) λj0=>after (aS (λs=>rK m p1 s.1 s.2) m (j0,0)) λ⟨r0,r1⟩=>if (!r0)=true then (some (.ret (1,p0.Seq,p0.Snaps,p0.Chunks,p0.Exps,p0.Vols))) else (yC m ({ Seq:=p0.Seq,Snaps:=p0.Snaps,Chunks:=p0.Chunks,Exps:=p0.Exps,Vols:=p0.Vols}:aA) p1.Snap.Man.Name).bind λy0=>if (decide (0≤y0))=true then (some (.ret (9,p0.Seq,p0.Snaps,p0.Chunks,p0.Exps,p0.Vols))) else (app p0.Snaps ([p1.Snap]:List aH)).bind λz0=>after (aS (λs=>vN m p1 s.1 s.2) m (p0.Chunks,0)) λ⟨r2,r3⟩=>some (.brk (IntKind.wrap .i64 (p0.Seq+1),z0,r2,p0.Exps,p0.Vols))) else after (if (p1.Kind==2)=true then ((CR m ({ Seq:=p0.Seq,Snaps:=p0.Snaps,Chunks:=p0.Chunks,Exps:=p0.Exps,Vols:=p0.Vols}:aA) p1.Seq).bind λy1=>if (!y1.1)=true then (some (.ret (.ret (8,p0.Seq,y1.2.1,y1.2.2,p0.Exps,p0.Vols)))) else some (.brk (p0.Seq,y1.2.1,y1.2.2,p0.Exps,p0.Vols))) else after (if (p1.Kind==3)=true then (after ((z6 m ({ Seq:=p0.Seq,Snaps:=p0.Snaps,Chunks:=p0.Chunks,Exps:=p0.Exps,Vols:=p0.Vols}:aA) p1.Vol 1 2).bind λy2=>if y2=true then (if (decide (1≤(p1.Items.length:Int)))=true then (some (.brk (decide ((p1.Items.length:Int)≤64)))) else some (.brk false)) else some (.brk false):Option (Lp (Bool) (Lp (Int×fE) (Lp (Int×fE) (Lp (Int×fE) (Int×Int×fE)))))) λj1=>after (aS (λs=>rL m p1 s.1 s.2) m (j1,0)) λ⟨r4,r5⟩=>if (!r4)=true then (some (.ret (.ret (.ret (1,p0.Seq,p0.Snaps,p0.Chunks,p0.Exps,p0.Vols))))) else (ix p0.Vols p1.Vol).bind λx0=>after (aS (λs=>p9 m p0 p1 x0 s.1 s.2.1 s.2.2.1 s.2.2.2.1 s.2.2.2.2) m (p0.Seq,p0.Snaps,p0.Chunks,p0.Exps,0)) λ⟨r6,r7,r8,r9,r10⟩=>after (aS (λs=>mW m p0 p1 x0 r6 r9 s.1 s.2.1 s.2.2) m (r7,r8,0)) λ⟨r11,r12,r13⟩=>after (if ((({ ({ x0 with State:=2}:aQ) with Files:=IntKind.wrap .i64 (x0.Files+1)}:aQ).Pool)==0)=true then (after (aS (λs=>nI m p0 p1 x0 r6 r9 r11 s.1 s.2) m (r12,0)) λ⟨r14,r15⟩=>some (.brk r14)) else some (.brk r12):Option (Lp ((List aB)) (Lp (Int×fE) (Lp (Int×fE) (Lp (Int×fE) (Int×Int×fE)))))) λj2=>some (.brk (r6,r11,j2,r9,(p0.Vols.set p1.Vol.toNat ({ x0 with State:=2})).set p1.Vol.toNat ({ ({ x0 with State:=2}:aQ) with Files:=IntKind.wrap .i64 (x0.Files+1)})))) else after (if (p1.Kind==4)=true then ((z6 m ({ Seq:=p0.Seq,Snaps:=p0.Snaps,Chunks:=p0.Chunks,Exps:=p0.Exps,Vols:=p0.Vols}:aA) p1.Vol 2 2).bind λy3=>if (!y3)=true then (some (.ret (.ret (.ret (.ret (1,p0.Seq,p0.Snaps,p0.Chunks,p0.Exps,p0.Vols)))))) else (ix p0.Vols p1.Vol).bind λx1=>(ix (p0.Vols.set p1.Vol.toNat ({ x1 with State:=3})) p1.Vol).bind λx2=>after (aS (λs=>uC m p0 p1 s.1 s.2) m ([],0)) λ⟨r16,r17⟩=>after (aS (λs=>uD m p1 s.1 s.2) m (p0.Snaps,0)) λ⟨r18,r19⟩=>after (aS (λs=>uE m p0 p1 s.1 s.2) m ([],0)) λ⟨r20,r21⟩=>some (.brk (r18,r16,r20,(p0.Vols.set p1.Vol.toNat ({ x1 with State:=3})).set p1.Vol.toNat ({ x2 with Files:=0})))) else after (if (p1.Kind==5)=true then ((z6 m ({ Seq:=p0.Seq,Snaps:=p0.Snaps,Chunks:=p0.Chunks,Exps:=p0.Exps,Vols:=p0.Vols}:aA) p1.Vol 3 3).bind λy4=>if (!y4)=true then (some (.ret (.ret (.ret (.ret (.ret (1,p0.Seq,p0.Snaps,p0.Chunks,p0.Exps,p0.Vols))))))) else (ix p0.Vols p1.Vol).bind λx3=>(ix p0.Vols p1.Vol).bind λx4=>(ix (p0.Vols.set p1.Vol.toNat ({ x4 with State:=1})) p1.Vol).bind λx5=>some (.brk ((p0.Vols.set p1.Vol.toNat ({ x4 with State:=1})).set p1.Vol.toNat ({ x5 with Epoch:=IntKind.wrap .i64 (x3.Epoch+1)})))) else some (.brk p0.Vols):Option (Lp ((List aQ)) (Lp (fE) (Lp (Int×fE) (Lp (Int×fE) (Lp (Int×fE) (Int×Int×fE))))))) λj3=>some (.brk (p0.Snaps,p0.Chunks,p0.Exps,j3)):Option (Lp (fE) (Lp (Int×fE) (Lp (Int×fE) (Lp (Int×fE) (Int×Int×fE)))))) λ⟨j4,j5,j6,j7⟩=>some (.brk (p0.Seq,j4,j5,j6,j7)):Option (Lp (Int×fE) (Lp (Int×fE) (Lp (Int×fE) (Int×Int×fE))))) λ⟨j8,j9,j10,j11,j12⟩=>some (.brk (j8,j9,j10,j11,j12)):Option (Lp (Int×fE) (Lp (Int×fE) (Int×Int×fE)))) λ⟨j13,j14,j15,j16,j17⟩=>some (.brk (j13,j14,j15,j16,j17)):Option (Lp (Int×fE) (Int×Int×fE))) λ⟨j18,j19,j20,j21,j22⟩=>some (0,j18,j19,j20,j21,j22)
theorem W91 {w:Nat} {p0:aA} {p1:aV} {o:Int×Int×fE} (h:aF) {p0K:bT} {gS:dD} (ok_Snaps:bK gS 4 p0.Snaps.length) {gC:dD} (oC:bK gC 35 p0.Chunks.length) {gE:dD} (oE:bK gE 3 p0.Exps.length) {gV:dD} (oV:bK gV 4 p0.Vols.length) (K0:bP h (hC p0K p0 gS gC gE gV)) (m:rM w p0 p1=some o):
 aM Tryz.prog 91 [.ptr p0K 0,.agg (aJ p1)] (hp h (hC p0K p0 gS gC gE gV)) (λr h'=>∃g_Snaps':dD,bK g_Snaps' 4 (o.2.2.1:List aH).length∧∃g_Chunks':dD,bK g_Chunks' 35 (o.2.2.2.1:List aB).length∧∃g_Exps':dD,bK g_Exps' 3 (o.2.2.2.2.1:List aT).length∧∃g_Vols':dD,bK g_Vols' 4 (o.2.2.2.2.2:List aQ).length∧bP h (hL p0K o.2.1 g_Snaps' g_Chunks' g_Exps' g_Vols' o.2.2.1 o.2.2.2.1 o.2.2.2.2.1 o.2.2.2.2.2)∧r=nZ o.1∧h'=hp h (hL p0K o.2.1 g_Snaps' g_Chunks' g_Exps' g_Vols' o.2.2.1 o.2.2.2.1 o.2.2.2.2.1 o.2.2.2.2.2)):=by
 refine FQ K0 443 [.tmp 4] Tryz.func91 rfl rfl rfl rfl ?_
 unfold rM at m
 refine vs (v0 (gX rfl rfl λk2 K3=>vs (vs (v0 (dX B8 rfl rfl (vl 0 _ cB rfl rfl rfl (v0 (vs (v0 (oG m (σ:=Int×fE) (τ:=dD×dD×dD×dD) (λg s=>((some k2,.obj 62 (aJ p1))::(hL p0K s.1 g.1 g.2.1 g.2.2.1 g.2.2.2 s.2.1 s.2.2.1 s.2.2.2.1 s.2.2.2.2))) (λg s=>bK g.1 4 (s.2.1:List aH).length∧bK g.2.1 35 (s.2.2.1:List aB).length∧bK g.2.2.1 3 (s.2.2.2.1:List aT).length∧bK g.2.2.2 4 (s.2.2.2.2:List aQ).length) (λg s=>.nil) (λx m=> ?_) ?_))))))))))
 refine v0 ?_
 apply vi m <;> intro c0 m
 refine vs (fN m (σ:=Bool) (λs=>((some k2,.obj 62 (aJ p1))::(hC p0K p0 gS gC gE gV))) (λs=>.c 0 (.ptr p0K 0) (.c 3 (.ptr k2 0) (.c 5 (.sc (.bool s)) .nil))) (λx m=> ?_) ?_)
 refine v0 (CD (by kernel_rfl) (dX pR rfl rfl (dX B7 rfl rfl (vl 0 _ cB rfl rfl rfl (lU rfl (dX rB rfl rfl (vl 1 _ cB rfl rfl rfl ?_)))))))
 apply vi m <;> intro b0 m
 rw[b0]
 exact dX pR rfl rfl (dX lB rfl rfl (vl 0 _ fT rfl rfl rfl (dH kD rfl (gD m))))
 rw[b0]
 exact gD m
 rintro _ j0 m
 refine vs (vs (v0 (jP m (σ:=Bool×Int) (λs=>((some k2,.obj 62 (aJ p1))::(hC p0K p0 gS gC gE gV))) (λs=>.c 0 (.ptr p0K 0) (.c 3 (.ptr k2 0) (.c 5 (.sc (.bool s.1)) (.c 6 (nZ s.2) .nil)))) (lx (.k4 .nil)) ?_ ?_)))
 rintro _ ⟨q0,q1⟩ x m
 replace m:rK w p1 q0 q1=some x:=m
 unfold rK at m
 refine vs (vs (v0 (dX oI rfl rfl (vl 0 _ fD rfl rfl rfl (dH lI rfl (v0 ?_))))))
 apply vi m <;> intro c1 m
 refine v0 (vs (v0 (fN m (σ:=Bool) (λs=>((some k2,.obj 62 (aJ p1))::(hC p0K p0 gS gC gE gV))) (λs=>.c 0 (.ptr p0K 0) (.c 3 (.ptr k2 0) (.c 5 (.sc (.bool s)) (.c 6 (nZ q1) .nil)))) (λx m=> ?_) ?_)))
 refine v0 ?_
 apply vi m <;> intro b1 m
 rw[b1]
 refine dX oI rfl rfl (vl 0 _ fD rfl rfl rfl (vx m h9 rfl rfl λx0 _ m=>bU (m6 pP rfl rfl) (va (.sc (.bool x0.Staged)) GK rfl rfl ?_)))
 apply vi m <;> intro b2 m
 rw[b2]
 exact dX oI rfl rfl (vl 0 _ fD rfl rfl rfl (vx m h9 rfl rfl λx1 _ m=>bU (m6 jQ rfl rfl) (va (.sl none 4 (List.map aN x1.Locs)) fT rfl rfl (dH kD rfl (fY m)))))
 rw[b2]
 exact fY m
 rw[b1]
 exact fY m
 rintro _ j1 m
 exact v0 (fY m)
 exact v0 (wE m)
 rintro _ ⟨r0,r1⟩ m
 refine vs (vs (v0 (v0 ?_)))
 apply vi m <;> intro c2 m
 refine vs (v0 (v0 (fZ m λm=> ?_)))
 cases m
 exact vr λu=>dW.of1 (.inl rfl) (gN _ _ (.sc (.int _ _)) rfl) (bQ u [1,2,3,4,5] rfl).2 (bD.refl _ _) ⟨gS,ok_Snaps,gC,oC,gE,oE,gV,oV,(bQ u [1,2,3,4,5] rfl).1,rfl,rfl⟩
 refine v0 (vs (vs (v0 (CD (by kernel_rfl) (lU rfl (vl 1 (.agg ([nZ p0.Seq,aZ gS,aZ gC,aZ gE,aZ gV])) cZ rfl rfl rfl (dX pR rfl rfl (dX rF rfl rfl (dX U0 rfl rfl (vl 0 _ HY rfl rfl rfl ?_))))))))))
 obtain⟨_,Y0,m⟩:=aD m
 refine vn (λu=>bV (fH (.cons (Br.agg (.cons (Br.refl _ _) (.cons (Br.aw 2 eM ok_Snaps u rfl) (.cons (Br.aw 3 cY oC u rfl) (.cons (Br.aw 4 f9 oE u rfl) (.cons (Br.aw 5 eT oV u rfl) .nil)))))) (.cons (Br.refl _ _) .nil)) rfl (VI _ Y0)) rfl MZ rfl) (v0 ?_)
 apply vi m <;> intro c3 m
 refine vs (v0 (v0 (fZ m λm=> ?_)))
 cases m
 exact vr λu=>dW.of1 (.inl rfl) (gN _ _ (.sc (.int _ _)) rfl) (bQ u [1,2,3,4,5] rfl).2 (bD.refl _ _) ⟨gS,ok_Snaps,gC,oC,gE,oE,gV,oV,(bQ u [1,2,3,4,5] rfl).1,rfl,rfl⟩
 refine v0 (vs (v0 (lU rfl (dX rB rfl rfl (vl 1 _ cB rfl rfl rfl (lU rfl (dX rB rfl rfl (ve λu=>aL 1 ([nZ (IntKind.wrap .i64 (p0.Seq+1)),aZ gS,aZ gC,aZ gE,aZ gV]) u rfl rfl rfl rfl AT rfl rfl λK1=>qk K1 rfl (vs (v0 (vz [(11,some p0K,.obj 30 ([nZ (IntKind.wrap .i64 (p0.Seq+1)),aZ gS,aZ gC,aZ gE,aZ gV])),(1000000,some k2,.obj 62 (aJ p1))] mixed (λu=>⟨λ_=>aO 1 u rfl,λ_=>aO 0 u rfl,trivial⟩) λu=>zP 0 rfl rfl (zP 1 rfl rfl (zN 2 rfl rfl (zF 3 rfl eL rfl (zL 4 0 (aZ gS) rfl fI rfl rfl rfl (zF 5 rfl pR rfl (zL 6 1 (.agg (bJ p1.Snap)) rfl sN rfl rfl rfl (zC 7 rfl (eA (List.map bJ ([p1.Snap]:List aH)) D8 rfl rfl rfl rfl) ?_))))))))))))))))))
 obtain⟨z0,Z0,m⟩:=aD m
 refine zE 8 rfl (f8 (c:=bJ) 2 Z0 D8 rfl xS rfl eM rfl rfl ok_Snaps u rfl λag0 O0 K2=>⟨⟨λ_=>aO 1 K2 rfl,λ_=>aO 0 K2 rfl,trivial⟩, ?_⟩)
 refine zN 9 rfl rfl (zF 10 rfl eL rfl (zE 11 rfl (aL 1 ([nZ (IntKind.wrap .i64 (p0.Seq+1)),aZ ag0,aZ gC,aZ gE,aZ gV]) K2 rfl rfl (cM rfl) (cG (cC _ _ _) rfl) L5 rfl rfl λK4=>⟨⟨λe=>absurd e (by decide),λ_=>aO 0 K4 rfl,trivial⟩, ?_⟩)))
 refine zX (qk (f:=UT 95 _ _ _ _ _ _ _ _ _ _ _ _) K4 rfl (vs (v0 (nW m (σ:=(List aB)×Int) (τ:=dD) (λg s=>((some k2,.obj 62 (aJ p1))::(hL p0K (IntKind.wrap .i64 (p0.Seq+1)) ag0 g gE gV z0 s.1 p0.Exps p0.Vols))) (λg s=>bK g 35 (s.1:List aB).length) (λg s=>.c 0 (.ptr p0K 0) (.c 3 (.ptr k2 0) (.c 7 (nZ s.2) .nil))) gC oC (lx (.k3 .nil)) ?_ ?_))))
 rintro ag1 ⟨q2,q3⟩ x O1 m
 replace m:vN w p1 q2 q3=some x:=m
 unfold vN at m
 refine vs (vs (v0 (dX oI rfl rfl (vl 0 _ fD rfl rfl rfl (dH lI rfl (v0 ?_))))))
 apply vi m <;> intro c4 m
 refine v0 (vs (v0 (v0 (vz [(13,some p0K,.obj 30 ([nZ (IntKind.wrap .i64 (p0.Seq+1)),aZ ag0,aZ ag1,aZ gE,aZ gV])),(1000000,some k2,.obj 62 (aJ p1))] mixed (λu=>⟨λ_=>aO 1 u rfl,λ_=>aO 0 u rfl,trivial⟩) λu=>zP 0 rfl rfl (zP 1 rfl rfl (zN 2 rfl rfl (zF 3 rfl eW rfl (zL 4 0 (aZ ag1) rfl fD rfl rfl rfl (zF 5 rfl oI rfl (zL 6 1 (.sl none 35 (List.map aK p1.Chunks)) rfl fD rfl rfl rfl (zI 7 rfl rfl ?_)))))))))))
 obtain⟨x2,X0,m⟩:=aD m
 refine zC 8 rfl (lP X0 h9 rfl rfl) (zC 9 rfl (lW (.agg (aK x2)) pB rfl rfl) ?_)
 obtain⟨_,Y1,m⟩:=aD m
 refine zE 10 rfl (GB (s:=107) (.sl none 35 (List.map aK q2)) (aU (.cons_cons _ (.cons_cons _ (.cons_cons _ (.cons _ (.refl _))))) u).1 (Fz.aw 3 cY O1 u rfl (.refl _)) (dR (aB4 _ Y1) rfl aB5 rfl ?_))
 rintro x h' ⟨ag2,O2,K5,rfl,rfl⟩
 rw[kM]
 refine⟨⟨λ_=>aO 2 (bP.co ((aU (.cons_cons _ (.cons_cons _ (.cons_cons _ (.cons _ (.refl _))))) u).2) K5) rfl,λ_=>aO 1 (bP.co ((aU (.cons_cons _ (.cons_cons _ (.cons_cons _ (.cons _ (.refl _))))) u).2) K5) rfl,trivial⟩, ?_⟩
 refine zN 11 rfl rfl (zF 12 rfl eW rfl (zE 13 rfl (aL 2 ([nZ (IntKind.wrap .i64 (p0.Seq+1)),aZ ag0,aZ ag2,aZ gE,aZ gV]) (bP.co ((aU (.cons_cons _ (.cons_cons _ (.cons_cons _ (.cons _ (.refl _))))) u).2) K5) rfl rfl (cM rfl) (cG (cC _ _ _) rfl) D9 rfl rfl λK6=>⟨⟨λe=>absurd e (by decide),λ_=>aO 1 K6 rfl,trivial⟩, ?_⟩)))
 exact zX (qk (f:=ZA 115 _ _ _ _ _ _ _ _ _ _ _ _ _ _) K6 rfl (v0 (eH m ag2 O2 (mE [1,2,3,0,4,5] rfl rfl (.k3 .nil)))))
 exact v0 (lN m ag1 O1 (lx (.k3 .nil)))
 rintro ag3 ⟨r2,r3⟩ t0 m
 exact eH m (ag0,ag3,gE,gV) ⟨O0,t0,oE,oV⟩ (lx .nil)
 refine vs (v0 (oG m (σ:=Int×fE) (τ:=dD×dD×dD×dD) (λg s=>((some k2,.obj 62 (aJ p1))::(hL p0K s.1 g.1 g.2.1 g.2.2.1 g.2.2.2 s.2.1 s.2.2.1 s.2.2.2.1 s.2.2.2.2))) (λg s=>bK g.1 4 (s.2.1:List aH).length∧bK g.2.1 35 (s.2.2.1:List aB).length∧bK g.2.2.1 3 (s.2.2.2.1:List aT).length∧bK g.2.2.2 4 (s.2.2.2.2:List aQ).length) (λg s=>.nil) (λx m=> ?_) ?_))
 refine v0 ?_
 apply vi m <;> intro c5 m
 refine vs (v0 (dX U2 rfl rfl (vl 0 _ cB rfl rfl rfl ?_)))
 obtain⟨y0,Y2,m⟩:=aD m
 refine ve λu=>fJ ((bM u [1,2,3,4,5,0] rfl rfl).1.trans (dO h (hC p0K p0 gS gC gE gV) [(some k2,.obj 62 (aJ p1))]).symm) (dR (aB7 (hp h [(some k2,.obj 62 (aJ p1))]) ok_Snaps oC oE oV (dJ (hC p0K p0 gS gC gE gV) [(some k2,.obj 62 (aJ p1))] (bM u [1,2,3,4,5,0] rfl rfl).2).2 Y2) rfl TZ rfl ?_)
 rintro x h' ⟨ag4,O3,ag5,O4,K7,rfl,rfl⟩
 have K8:=bM (L':=((some k2,.obj 62 (aJ p1))::(hL p0K p0.Seq ag4 ag5 gE gV y0.2.1 y0.2.2 p0.Exps p0.Vols))) (dZ (dJ (hC p0K p0 gS gC gE gV) [(some k2,.obj 62 (aJ p1))] (bM u [1,2,3,4,5,0] rfl rfl).2).1 K7) [5,0,1,2,3,4] rfl rfl
 refine qk K8.2 ((dO h (hL p0K p0.Seq ag4 ag5 gE gV y0.2.1 y0.2.2 p0.Exps p0.Vols) [(some k2,.obj 62 (aJ p1))]).trans K8.1) (v0 ?_)
 apply vi m <;> intro c6 m
 refine vs (v0 (v0 (fZ m λm=>fZ m λm=> ?_)))
 cases m
 exact vr λu=>dW.of1 (.inl rfl) (gN _ _ (.sc (.int _ _)) rfl) (bQ u [1,2,3,4,5] rfl).2 (bD.refl _ _) ⟨ag4,O3,ag5,O4,gE,oE,gV,oV,(bQ u [1,2,3,4,5] rfl).1,rfl,rfl⟩
 exact v0 (eH m (ag4,ag5,gE,gV) ⟨O3,O4,oE,oV⟩ (lx .nil))
 refine vs (v0 (oG m (σ:=Int×fE) (τ:=dD×dD×dD×dD) (λg s=>((some k2,.obj 62 (aJ p1))::(hL p0K s.1 g.1 g.2.1 g.2.2.1 g.2.2.2 s.2.1 s.2.2.1 s.2.2.2.1 s.2.2.2.2))) (λg s=>bK g.1 4 (s.2.1:List aH).length∧bK g.2.1 35 (s.2.2.1:List aB).length∧bK g.2.2.1 3 (s.2.2.2.1:List aT).length∧bK g.2.2.2 4 (s.2.2.2.2:List aQ).length) (λg s=>.nil) (λx m=> ?_) ?_))
 refine v0 ?_
 apply vi m <;> intro c7 m
 refine vs (fN m (σ:=Bool) (λs=>((some k2,.obj 62 (aJ p1))::(hC p0K p0 gS gC gE gV))) (λs=>.c 0 (.ptr p0K 0) (.c 3 (.ptr k2 0) (.c 8 (.sc (.bool s)) .nil))) (λx m=> ?_) ?_)
 refine v0 (dX iX rfl rfl (vl 0 _ cB rfl rfl rfl ?_))
 obtain⟨_,Y3,m⟩:=aD m
 refine ve λu=>fJ ((bM u [1,2,3,4,5,0] rfl rfl).1.trans (dO h (hC p0K p0 gS gC gE gV) [(some k2,.obj 62 (aJ p1))]).symm) (dR (WJ (hp h [(some k2,.obj 62 (aJ p1))]) ok_Snaps oC oE oV (dJ (hC p0K p0 gS gC gE gV) [(some k2,.obj 62 (aJ p1))] (bM u [1,2,3,4,5,0] rfl rfl).2).2 Y3) rfl N6 rfl ?_)
 rintro x h' ⟨K9,rfl,rfl⟩
 have K10:=bM (L':=((some k2,.obj 62 (aJ p1))::(hC p0K p0 gS gC gE gV))) (dZ (dJ (hC p0K p0 gS gC gE gV) [(some k2,.obj 62 (aJ p1))] (bM u [1,2,3,4,5,0] rfl rfl).2).1 K9) [5,0,1,2,3,4] rfl rfl
 refine qk K10.2 ((dO h (hC p0K p0 gS gC gE gV) [(some k2,.obj 62 (aJ p1))]).trans K10.1) ?_
 apply vi m <;> intro b3 m
 rw[b3]
 refine dX gR rfl rfl (vl 0 _ l6 rfl rfl rfl (dH l4 rfl ?_))
 apply vi m <;> intro b4 m
 rw[b4]
 exact dX gR rfl rfl (vl 0 _ l6 rfl rfl rfl (dH l4 rfl (gD m)))
 rw[b4]
 exact gD m
 rw[b3]
 exact gD m
 rintro _ j2 m
 refine vs (vs (v0 (jP m (σ:=Bool×Int) (λs=>((some k2,.obj 62 (aJ p1))::(hC p0K p0 gS gC gE gV))) (λs=>.c 0 (.ptr p0K 0) (.c 3 (.ptr k2 0) (.c 8 (.sc (.bool s.1)) (.c 9 (nZ s.2) .nil)))) (lx (.k4 .nil)) ?_ ?_)))
 rintro _ ⟨q4,q5⟩ x m
 replace m:rL w p1 q4 q5=some x:=m
 unfold rL at m
 refine vs (vs (v0 (dX gR rfl rfl (vl 0 _ l6 rfl rfl rfl (dH l4 rfl (v0 ?_))))))
 apply vi m <;> intro c8 m
 refine v0 (vs (v0 (fN m (σ:=Bool) (λs=>((some k2,.obj 62 (aJ p1))::(hC p0K p0 gS gC gE gV))) (λs=>.c 0 (.ptr p0K 0) (.c 3 (.ptr k2 0) (.c 8 (.sc (.bool s)) (.c 9 (nZ q5) .nil)))) (λx m=> ?_) ?_)))
 refine v0 ?_
 apply vi m <;> intro b5 m
 rw[b5]
 refine dX gR rfl rfl (vl 0 _ l6 rfl rfl rfl (vx m nO rfl rfl λx3 _ m=>bU (m6 mQ rfl rfl) (va (nZ x3.Kind) cB rfl rfl ?_)))
 apply vi m <;> intro b6 m
 rw[b6]
 exact dX gR rfl rfl (vl 0 _ l6 rfl rfl rfl (vx m nO rfl rfl λx4 _ m=>bU (m6 mQ rfl rfl) (va (nZ x4.Kind) cB rfl rfl (fY m))))
 rw[b6]
 exact fY m
 rw[b5]
 exact fY m
 rintro _ j3 m
 exact v0 (fY m)
 exact v0 (wE m)
 rintro _ ⟨r4,r5⟩ m
 refine vs (vs (v0 (v0 ?_)))
 apply vi m <;> intro c9 m
 refine vs (v0 (v0 (fZ m λm=>fZ m λm=>fZ m λm=> ?_)))
 cases m
 exact vr λu=>dW.of1 (.inl rfl) (gN _ _ (.sc (.int _ _)) rfl) (bQ u [1,2,3,4,5] rfl).2 (bD.refl _ _) ⟨gS,ok_Snaps,gC,oC,gE,oE,gV,oV,(bQ u [1,2,3,4,5] rfl).1,rfl,rfl⟩
 refine v0 (vs (v0 (CD (by kernel_rfl) (lU rfl (dX iW rfl rfl (vl 1 (aZ gV) iH rfl rfl rfl (dX iX rfl rfl (vl 0 _ cB rfl rfl rfl ?_))))))))
 obtain⟨x5,X1,m⟩:=aD m
 refine bU (dF X1 lZ oV rfl rfl) (vs (v0 (bU (iV (bK.ne oV X1) rfl) (bU (cW (bK.ne oV X1) rE rfl rfl) (vn (λu=>eJ (fo:=3) (nZ x5.Files) X1 eT oV cB rfl (aO 5 u rfl) (λ_=>rfl)) (bU (iV (bK.ne oV X1) rfl) (bU (cW (bK.ne oV X1) rD rfl rfl) (ve λu=>cX (fo:=2) ({ x5 with State:=2}:aQ) 5 u X1 eT oV rfl rfl rfl rfl (cS.refl _ _) AT rfl rfl λK11=>qk K11 rfl (bU (iV (bK.ne (bK.set oV) (cR (x':=({ x5 with State:=2}:aQ)) X1)) rfl) (bU (cW (bK.ne (bK.set oV) (cR (x':=({ x5 with State:=2}:aQ)) X1)) rE rfl rfl) (ve λu=>cX (fo:=3) ({ ({ x5 with State:=2}:aQ) with Files:=IntKind.wrap .i64 (x5.Files+1)}:aQ) 5 u (cR (x':=({ x5 with State:=2}:aQ)) X1) eT (bK.set oV) rfl rfl rfl rfl (cS.refl _ _) AT rfl rfl λK12=>qk K12 rfl (vs (vs (v0 (nW m (σ:=Int×(List aH)×(List aB)×(List aT)×Int) (τ:=dD×dD×dD) (λg s=>((some k2,.obj 62 (aJ p1))::(hL p0K s.1 g.1 g.2.1 g.2.2 gV s.2.1 s.2.2.1 s.2.2.2.1 ((p0.Vols.set p1.Vol.toNat ({ x5 with State:=2})).set p1.Vol.toNat ({ ({ x5 with State:=2}:aQ) with Files:=IntKind.wrap .i64 (x5.Files+1)}))))) (λg s=>bK g.1 4 (s.2.1:List aH).length∧bK g.2.1 35 (s.2.2.1:List aB).length∧bK g.2.2 3 (s.2.2.2.1:List aT).length) (λg s=>.c 0 (.ptr p0K 0) (.c 3 (.ptr k2 0) (.c 10 (wD gV.t (p1.Vol.toNat*4+0)) (.c 11 (nZ s.2.2.2.2) .nil)))) (gS,gC,gE) (⟨ok_Snaps,oC,oE⟩) (lx (.k4 .nil)) ?_ ?_)))))))))))))))
 rintro⟨ag6,ag7,ag8⟩ ⟨q6,q7,q8,q9,q10⟩ x ⟨O5,O6,O7⟩ m
 replace m:p9 w p0 p1 x5 q6 q7 q8 q9 q10=some x:=m
 unfold p9 at m
 refine vs (vs (v0 (dX gR rfl rfl (vl 0 _ l6 rfl rfl rfl (dH l4 rfl (v0 ?_))))))
 apply vi m <;> intro c10 m
 refine v0 (vs (v0 (vs (v0 (vz [(1000000,some k2,.obj 62 (aJ p1)),(1000000,gV.t,.obj 49 (fl dG ((p0.Vols.set p1.Vol.toNat ({ x5 with State:=2})).set p1.Vol.toNat ({ ({ x5 with State:=2}:aQ) with Files:=IntKind.wrap .i64 (x5.Files+1)}):List aQ) gV.sp))] mixed (λu=>⟨λ_=>aO 0 u rfl,λ_=>aO 5 u rfl,trivial⟩) λu=>zP 0 rfl rfl (zF 1 rfl gR rfl (zL 2 0 (.sl none 37 (List.map aI p1.Items)) rfl l6 rfl rfl rfl (zI 3 rfl rfl ?_))))))))
 obtain⟨x6,X2,m⟩:=aD m
 refine zC 4 rfl (lP X2 nO rfl rfl) (zC 5 rfl (lW (.agg (aI x6)) B6 rfl rfl) (zF 6 rfl iX rfl (zL 7 0 (nZ p1.Vol) rfl cB rfl rfl rfl (zC 8 rfl (fA (wD _ _) rfl) (zC 9 rfl (iV (bK.ne (bK.set (bK.set oV)) (cR (x':=({ ({ x5 with State:=2}:aQ) with Files:=IntKind.wrap .i64 (x5.Files+1)}:aQ)) (cR (x':=({ x5 with State:=2}:aQ)) X1))) rfl) (zC 10 rfl (cW (bK.ne (bK.set (bK.set oV)) (cR (x':=({ ({ x5 with State:=2}:aQ) with Files:=IntKind.wrap .i64 (x5.Files+1)}:aQ)) (cR (x':=({ x5 with State:=2}:aQ)) X1))) rE rfl rfl) (zO 11 rfl (λ_ _ hi hB=>eJ (fo:=3) (nZ (({ ({ x5 with State:=2}:aQ) with Files:=IntKind.wrap .i64 (x5.Files+1)}:aQ).Files)) (cR (x':=({ ({ x5 with State:=2}:aQ) with Files:=IntKind.wrap .i64 (x5.Files+1)}:aQ)) (cR (x':=({ x5 with State:=2}:aQ)) X1)) eT (bK.set (bK.set oV)) cB rfl (fS.get 1 hi rfl (hB 1000000 (by kernel_rfl))) (λ_=>rfl)) (zF 12 rfl gR rfl (zL 13 0 (.sl none 37 (List.map aI p1.Items)) rfl l6 rfl rfl rfl (zI 14 rfl rfl ?_))))))))))
 obtain⟨x7,X3,m⟩:=aD m
 refine zC 15 rfl (lP X3 nO rfl rfl) (zC 16 rfl (m6 MA rfl rfl) (zC 17 rfl (lW (nZ x7.Off) cB rfl rfl) (zF 18 rfl gR rfl (zL 19 0 (.sl none 37 (List.map aI p1.Items)) rfl l6 rfl rfl rfl (zI 20 rfl rfl ?_)))))
 obtain⟨x8,X4,m⟩:=aD m
 refine zC 21 rfl (lP X4 nO rfl rfl) (zC 22 rfl (m6 MB rfl rfl) (zC 23 rfl (lW (nZ x8.Len) cB rfl rfl) (zC 24 rfl (eI (aN ({ Vol:=p1.Vol,File:=({ ({ x5 with State:=2}:aQ) with Files:=IntKind.wrap .i64 (x5.Files+1)}:aQ).Files,Off:=x7.Off,Len:=x8.Len}:aR)) ZN rfl) ?_)))
 obtain⟨y1,Y4,m⟩:=aD m
 refine zE 25 rfl (fJ ((bM u [1,2,3,4,5,0] rfl rfl).1.trans (dO h (hL p0K q6 ag6 ag7 ag8 gV q7 q8 q9 ((p0.Vols.set p1.Vol.toNat ({ x5 with State:=2})).set p1.Vol.toNat ({ ({ x5 with State:=2}:aQ) with Files:=IntKind.wrap .i64 (x5.Files+1)}))) [(some k2,.obj 62 (aJ p1))]).symm) (dR (aHW (hp h [(some k2,.obj 62 (aJ p1))]) O5 O6 O7 (bK.set (bK.set oV)) (dJ (hL p0K q6 ag6 ag7 ag8 gV q7 q8 q9 ((p0.Vols.set p1.Vol.toNat ({ x5 with State:=2})).set p1.Vol.toNat ({ ({ x5 with State:=2}:aQ) with Files:=IntKind.wrap .i64 (x5.Files+1)}))) [(some k2,.obj 62 (aJ p1))] (bM u [1,2,3,4,5,0] rfl rfl).2).2 Y4) rfl aB8 rfl ?_))
 rintro x h' ⟨ag9,O8,ag10,O9,ag11,O10,K13,rfl,rfl⟩
 have K14:=bM (L':=((some k2,.obj 62 (aJ p1))::(hL p0K y1.2.1 ag9 ag10 ag11 gV y1.2.2.1 y1.2.2.2.1 y1.2.2.2.2 ((p0.Vols.set p1.Vol.toNat ({ x5 with State:=2})).set p1.Vol.toNat ({ ({ x5 with State:=2}:aQ) with Files:=IntKind.wrap .i64 (x5.Files+1)}))))) (dZ (dJ (hL p0K q6 ag6 ag7 ag8 gV q7 q8 q9 ((p0.Vols.set p1.Vol.toNat ({ x5 with State:=2})).set p1.Vol.toNat ({ ({ x5 with State:=2}:aQ) with Files:=IntKind.wrap .i64 (x5.Files+1)}))) [(some k2,.obj 62 (aJ p1))] (bM u [1,2,3,4,5,0] rfl rfl).2).1 K13) [5,0,1,2,3,4] rfl rfl
 refine qJ ((dO h (hL p0K y1.2.1 ag9 ag10 ag11 gV y1.2.2.1 y1.2.2.2.1 y1.2.2.2.2 ((p0.Vols.set p1.Vol.toNat ({ x5 with State:=2})).set p1.Vol.toNat ({ ({ x5 with State:=2}:aQ) with Files:=IntKind.wrap .i64 (x5.Files+1)}))) [(some k2,.obj 62 (aJ p1))]).trans K14.1) (⟨⟨λ_=>aO 0 K14.2 rfl,λ_=>aO 5 K14.2 rfl,trivial⟩, ?_⟩)
 refine zC 26 rfl (YJ rfl) (zX (qk (f:=aEE 220 _ _ _ _ _ _ _ _ _ _ _ _ _ _ _ _ _ _ _ _ _ _ _ _ _ _ _ _) K14.2 rfl (v0 ?_)))
 apply vi m <;> intro c11 m
 refine vs (v0 (v0 (fZ m λm=>fZ m λm=>fZ m λm=>fZ m λm=> ?_)))
 cases m
 exact vr λu=>dW.of1 (.inl rfl) (gN _ _ (.sc (.int _ _)) rfl) (bQ u [1,2,3,4,5] rfl).2 (bD.refl _ _) ⟨ag9,O8,ag10,O9,ag11,O10,gV,(bK.set (bK.set oV)),(bQ u [1,2,3,4,5] rfl).1,rfl,rfl⟩
 exact v0 (v0 (eH m (ag9,ag10,ag11) ⟨O8,O9,O10⟩ (lx (.k4 .nil))))
 exact v0 (lN m (ag6,ag7,ag8) ⟨O5,O6,O7⟩ (lx (.k4 .nil)))
 rintro⟨ag12,ag13,ag14⟩ ⟨r6,r7,r8,r9,r10⟩ ⟨t1,t2,t3⟩ m
 refine vs (vs (v0 (nW m (σ:=(List aH)×(List aB)×Int) (τ:=dD×dD) (λg s=>((some k2,.obj 62 (aJ p1))::(hL p0K r6 g.1 g.2 ag14 gV s.1 s.2.1 r9 ((p0.Vols.set p1.Vol.toNat ({ x5 with State:=2})).set p1.Vol.toNat ({ ({ x5 with State:=2}:aQ) with Files:=IntKind.wrap .i64 (x5.Files+1)}))))) (λg s=>bK g.1 4 (s.1:List aH).length∧bK g.2 35 (s.2.1:List aB).length) (λg s=>.c 0 (.ptr p0K 0) (.c 3 (.ptr k2 0) (.c 10 (wD gV.t (p1.Vol.toNat*4+0)) (.c 12 (nZ s.2.2) .nil)))) (ag12,ag13) (⟨t1,t2⟩) (lx (.k4 .nil)) ?_ ?_)))
 rintro⟨ag15,ag16⟩ ⟨q11,q12,q13⟩ x ⟨O11,O12⟩ m
 replace m:mW w p0 p1 x5 r6 r9 q11 q12 q13=some x:=m
 unfold mW at m
 refine vs (vs (v0 (dX gR rfl rfl (vl 0 _ l6 rfl rfl rfl (dH l4 rfl (v0 ?_))))))
 apply vi m <;> intro c12 m
 refine v0 (vs (v0 (vs (v0 (dX gR rfl rfl (vl 0 _ l6 rfl rfl rfl (vx m nO rfl rfl λx9 _ m=>bU (m6 mQ rfl rfl) (va (nZ x9.Kind) cB rfl rfl (oG m (σ:=(List aH)×(List aB)) (τ:=dD×dD) (λg s=>((some k2,.obj 62 (aJ p1))::(hL p0K r6 g.1 g.2 ag14 gV s.1 s.2 r9 ((p0.Vols.set p1.Vol.toNat ({ x5 with State:=2})).set p1.Vol.toNat ({ ({ x5 with State:=2}:aQ) with Files:=IntKind.wrap .i64 (x5.Files+1)}))))) (λg s=>bK g.1 4 (s.1:List aH).length∧bK g.2 35 (s.2:List aB).length) (λg s=>.c 0 (.ptr p0K 0) (.c 3 (.ptr k2 0) (.c 10 (wD gV.t (p1.Vol.toNat*4+0)) (.c 12 (nZ q13) .nil)))) (λx m=> ?_) ?_)))))))))
 refine v0 ?_
 apply vi m <;> intro c13 m
 refine v0 (dX gR rfl rfl (vl 0 _ l6 rfl rfl rfl (vx m nO rfl rfl λx10 _ m=>bU (m6 xP rfl rfl) (va (nZ x10.Of) cB rfl rfl ?_))))
 obtain⟨y2,Y5,m⟩:=aD m
 refine ve λu=>fJ ((bM u [1,2,3,4,5,0] rfl rfl).1.trans (dO h (hL p0K r6 ag15 ag16 ag14 gV q11 q12 r9 ((p0.Vols.set p1.Vol.toNat ({ x5 with State:=2})).set p1.Vol.toNat ({ ({ x5 with State:=2}:aQ) with Files:=IntKind.wrap .i64 (x5.Files+1)}))) [(some k2,.obj 62 (aJ p1))]).symm) (dR (aB7 (hp h [(some k2,.obj 62 (aJ p1))]) O11 O12 t3 (bK.set (bK.set oV)) (dJ (hL p0K r6 ag15 ag16 ag14 gV q11 q12 r9 ((p0.Vols.set p1.Vol.toNat ({ x5 with State:=2})).set p1.Vol.toNat ({ ({ x5 with State:=2}:aQ) with Files:=IntKind.wrap .i64 (x5.Files+1)}))) [(some k2,.obj 62 (aJ p1))] (bM u [1,2,3,4,5,0] rfl rfl).2).2 Y5) rfl TZ rfl ?_)
 rintro x h' ⟨ag17,O13,ag18,O14,K15,rfl,rfl⟩
 have K16:=bM (L':=((some k2,.obj 62 (aJ p1))::(hL p0K r6 ag17 ag18 ag14 gV y2.2.1 y2.2.2 r9 ((p0.Vols.set p1.Vol.toNat ({ x5 with State:=2})).set p1.Vol.toNat ({ ({ x5 with State:=2}:aQ) with Files:=IntKind.wrap .i64 (x5.Files+1)}))))) (dZ (dJ (hL p0K r6 ag15 ag16 ag14 gV q11 q12 r9 ((p0.Vols.set p1.Vol.toNat ({ x5 with State:=2})).set p1.Vol.toNat ({ ({ x5 with State:=2}:aQ) with Files:=IntKind.wrap .i64 (x5.Files+1)}))) [(some k2,.obj 62 (aJ p1))] (bM u [1,2,3,4,5,0] rfl rfl).2).1 K15) [5,0,1,2,3,4] rfl rfl
 exact qk K16.2 ((dO h (hL p0K r6 ag17 ag18 ag14 gV y2.2.1 y2.2.2 r9 ((p0.Vols.set p1.Vol.toNat ({ x5 with State:=2})).set p1.Vol.toNat ({ ({ x5 with State:=2}:aQ) with Files:=IntKind.wrap .i64 (x5.Files+1)}))) [(some k2,.obj 62 (aJ p1))]).trans K16.1) (eH m (ag17,ag18) ⟨O13,O14⟩ (lx (.k4 .nil)))
 exact v0 (eH m (ag15,ag16) ⟨O11,O12⟩ (lx (.k4 .nil)))
 rintro⟨ag19,ag20⟩ ⟨j4,j5⟩ ⟨O15,O16⟩ m
 exact v0 (eH m (ag19,ag20) ⟨O15,O16⟩ (lx (.k4 .nil)))
 exact v0 (lN m (ag15,ag16) ⟨O11,O12⟩ (lx (.k4 .nil)))
 rintro⟨ag21,ag22⟩ ⟨r11,r12,r13⟩ ⟨t4,t5⟩ m
 refine vs (v0 (bU (iV (bK.ne (bK.set (bK.set oV)) (cR (x':=({ ({ x5 with State:=2}:aQ) with Files:=IntKind.wrap .i64 (x5.Files+1)}:aQ)) (cR (x':=({ x5 with State:=2}:aQ)) X1))) rfl) (bU (cW (bK.ne (bK.set (bK.set oV)) (cR (x':=({ ({ x5 with State:=2}:aQ) with Files:=IntKind.wrap .i64 (x5.Files+1)}:aQ)) (cR (x':=({ x5 with State:=2}:aQ)) X1))) MD rfl rfl) (vn (λu=>eJ (fo:=0) (nZ (({ ({ x5 with State:=2}:aQ) with Files:=IntKind.wrap .i64 (x5.Files+1)}:aQ).Pool)) (cR (x':=({ ({ x5 with State:=2}:aQ) with Files:=IntKind.wrap .i64 (x5.Files+1)}:aQ)) (cR (x':=({ x5 with State:=2}:aQ)) X1)) eT (bK.set (bK.set oV)) cB rfl (aO 5 u rfl) (λ_=>rfl)) (oG m (σ:=(List aB)) (τ:=dD) (λg s=>((some k2,.obj 62 (aJ p1))::(hL p0K r6 ag21 g ag14 gV r11 s r9 ((p0.Vols.set p1.Vol.toNat ({ x5 with State:=2})).set p1.Vol.toNat ({ ({ x5 with State:=2}:aQ) with Files:=IntKind.wrap .i64 (x5.Files+1)}))))) (λg s=>bK g 35 (s:List aB).length) (λg s=>.nil) (λx m=> ?_) ?_)))))
 refine v0 ?_
 apply vi m <;> intro c14 m
 refine vs (v0 (nW m (σ:=(List aB)×Int) (τ:=dD) (λg s=>((some k2,.obj 62 (aJ p1))::(hL p0K r6 ag21 g ag14 gV r11 s.1 r9 ((p0.Vols.set p1.Vol.toNat ({ x5 with State:=2})).set p1.Vol.toNat ({ ({ x5 with State:=2}:aQ) with Files:=IntKind.wrap .i64 (x5.Files+1)}))))) (λg s=>bK g 35 (s.1:List aB).length) (λg s=>.c 0 (.ptr p0K 0) (.c 3 (.ptr k2 0) (.c 13 (nZ s.2) .nil))) ag22 t5 (lx (.k3 .nil)) ?_ ?_))
 rintro ag23 ⟨q14,q15⟩ x O17 m
 replace m:nI w p0 p1 x5 r6 r9 r11 q14 q15=some x:=m
 unfold nI at m
 refine vs (vs (v0 (dX gR rfl rfl (vl 0 _ l6 rfl rfl rfl (dH l4 rfl (v0 ?_))))))
 apply vi m <;> intro c15 m
 refine v0 (vs (v0 (vs (v0 (dX gR rfl rfl (vl 0 _ l6 rfl rfl rfl (vx m nO rfl rfl λx11 _ m=>bU (m6 mQ rfl rfl) (va (nZ x11.Kind) cB rfl rfl (oG m (σ:=(List aB)) (τ:=dD) (λg s=>((some k2,.obj 62 (aJ p1))::(hL p0K r6 ag21 g ag14 gV r11 s r9 ((p0.Vols.set p1.Vol.toNat ({ x5 with State:=2})).set p1.Vol.toNat ({ ({ x5 with State:=2}:aQ) with Files:=IntKind.wrap .i64 (x5.Files+1)}))))) (λg s=>bK g 35 (s:List aB).length) (λg s=>.c 0 (.ptr p0K 0) (.c 3 (.ptr k2 0) (.c 13 (nZ q15) .nil))) (λx m=> ?_) ?_)))))))))
 refine v0 ?_
 apply vi m <;> intro c16 m
 refine vs (v0 (CD (by kernel_rfl) (lU rfl (vl 1 (.agg ([nZ r6,aZ ag21,aZ ag23,aZ ag14,aZ gV])) cZ rfl rfl rfl (dX gR rfl rfl (vl 0 _ l6 rfl rfl rfl (vx m nO rfl rfl λx12 _ m=>bU (m6 xO rfl rfl) (va (.agg (bC x12.Id)) eY rfl rfl ?_))))))))
 obtain⟨_,Y6,m⟩:=aD m
 refine vn (λu=>bV (fH (.cons (Br.agg (.cons (Br.refl _ _) (.cons (Br.aw 2 eM t4 u rfl) (.cons (Br.aw 3 cY O17 u rfl) (.cons (Br.aw 4 f9 t3 u rfl) (.cons (Br.aw 5 eT (bK.set (bK.set oV)) u rfl) .nil)))))) (.cons (Br.refl _ _) .nil)) rfl (W88 _ Y6)) rfl Q6 rfl) (vs (v0 (oG m (σ:=(List aB)) (τ:=dD) (λg s=>((some k2,.obj 62 (aJ p1))::(hL p0K r6 ag21 g ag14 gV r11 s r9 ((p0.Vols.set p1.Vol.toNat ({ x5 with State:=2})).set p1.Vol.toNat ({ ({ x5 with State:=2}:aQ) with Files:=IntKind.wrap .i64 (x5.Files+1)}))))) (λg s=>bK g 35 (s:List aB).length) (λg s=>.c 0 (.ptr p0K 0) (.c 3 (.ptr k2 0) (.c 13 (nZ q15) .nil))) (λx m=> ?_) ?_)))
 refine v0 ?_
 apply vi m <;> intro c17 m
 refine v0 (vz [(1000000,some p0K,.obj 30 ([nZ r6,aZ ag21,aZ ag23,aZ ag14,aZ gV]))] mixed (λu=>⟨λ_=>aO 1 u rfl,trivial⟩) λu=>zP 0 rfl rfl (zN 1 rfl rfl (zF 2 rfl eW rfl (zL 3 0 (aZ ag23) rfl fD rfl rfl rfl (zI 4 rfl rfl (zP 5 rfl rfl (zN 6 rfl rfl (zF 7 rfl eW rfl (zL 8 0 (aZ ag23) rfl fD rfl rfl rfl (zI 9 rfl rfl ?_))))))))))
 obtain⟨x13,X5,m⟩:=aD m
 refine zC 10 rfl (dF X5 h9 O17 rfl rfl) (zC 11 rfl (cW (bK.ne O17 X5) pP rfl rfl) (zE 12 rfl (cX (fo:=32) ({ x13 with Staged:=false}:aB) 3 u X5 cY O17 rfl rfl rfl rfl (cS.refl _ _) ZE rfl rfl λK17=>⟨⟨λ_=>aO 1 K17 rfl,trivial⟩, ?_⟩)))
 obtain⟨x14,X6,m⟩:=aD m
 refine zC 13 rfl (dF X6 h9 (bK.set O17) rfl rfl) (zC 14 rfl (cW (bK.ne (bK.set O17) X6) lS rfl rfl) (zE 15 rfl (cX (fo:=33) ({ x14 with Data:=([]:List Int)}:aB) 3 K17 X6 cY (bK.set O17) rfl rfl rfl rfl (.cons (a9 _) .nil) EB rfl rfl λK18=>⟨⟨λ_=>aO 1 K18 rfl,trivial⟩, ?_⟩)))
 exact zX (qk (f:=UU 287 _ _ _ _ _ _ _ _ _ _ _ _ _ _ _) K18 rfl (eH m ag23 (bK.set (bK.set O17)) (lx (.k3 .nil))))
 exact v0 (eH m ag23 O17 (lx (.k3 .nil)))
 rintro ag24 j6 O18 m
 exact eH m ag24 O18 (lx (.k3 .nil))
 exact v0 (eH m ag23 O17 (lx (.k3 .nil)))
 rintro ag25 j7 O19 m
 exact v0 (eH m ag25 O19 (lx (.k3 .nil)))
 exact v0 (lN m ag23 O17 (lx (.k3 .nil)))
 rintro ag26 ⟨r14,r15⟩ t6 m
 exact eH m ag26 t6 (lx .nil)
 exact v0 (eH m ag22 t5 (lx .nil))
 rintro ag27 j8 O20 m
 exact eH m (ag21,ag27,ag14,gV) ⟨t4,O20,t3,(bK.set (bK.set oV))⟩ (lx .nil)
 refine vs (v0 (oG m (σ:=fE) (τ:=dD×dD×dD×dD) (λg s=>((some k2,.obj 62 (aJ p1))::(hL p0K p0.Seq g.1 g.2.1 g.2.2.1 g.2.2.2 s.1 s.2.1 s.2.2.1 s.2.2.2))) (λg s=>bK g.1 4 (s.1:List aH).length∧bK g.2.1 35 (s.2.1:List aB).length∧bK g.2.2.1 3 (s.2.2.1:List aT).length∧bK g.2.2.2 4 (s.2.2.2:List aQ).length) (λg s=>.nil) (λx m=> ?_) ?_))
 refine v0 ?_
 apply vi m <;> intro c18 m
 refine vs (vs (v0 (dX iX rfl rfl (vl 0 _ cB rfl rfl rfl ?_))))
 obtain⟨_,Y7,m⟩:=aD m
 refine ve λu=>fJ ((bM u [1,2,3,4,5,0] rfl rfl).1.trans (dO h (hC p0K p0 gS gC gE gV) [(some k2,.obj 62 (aJ p1))]).symm) (dR (WJ (hp h [(some k2,.obj 62 (aJ p1))]) ok_Snaps oC oE oV (dJ (hC p0K p0 gS gC gE gV) [(some k2,.obj 62 (aJ p1))] (bM u [1,2,3,4,5,0] rfl rfl).2).2 Y7) rfl N6 rfl ?_)
 rintro x h' ⟨K19,rfl,rfl⟩
 have K20:=bM (L':=((some k2,.obj 62 (aJ p1))::(hC p0K p0 gS gC gE gV))) (dZ (dJ (hC p0K p0 gS gC gE gV) [(some k2,.obj 62 (aJ p1))] (bM u [1,2,3,4,5,0] rfl rfl).2).1 K19) [5,0,1,2,3,4] rfl rfl
 refine qk K20.2 ((dO h (hC p0K p0 gS gC gE gV) [(some k2,.obj 62 (aJ p1))]).trans K20.1) (v0 ?_)
 apply vi m <;> intro c19 m
 refine vs (v0 (v0 (fZ m λm=>fZ m λm=>fZ m λm=>fZ m λm=> ?_)))
 cases m
 exact vr λu=>dW.of1 (.inl rfl) (gN _ _ (.sc (.int _ _)) rfl) (bQ u [1,2,3,4,5] rfl).2 (bD.refl _ _) ⟨gS,ok_Snaps,gC,oC,gE,oE,gV,oV,(bQ u [1,2,3,4,5] rfl).1,rfl,rfl⟩
 refine v0 (vs (v0 (vz [(1000000,some p0K,.obj 30 ([nZ p0.Seq,aZ gS,aZ gC,aZ gE,aZ gV])),(1000000,some k2,.obj 62 (aJ p1))] mixed (λu=>⟨λ_=>aO 1 u rfl,λ_=>aO 0 u rfl,trivial⟩) λu=>zP 0 rfl rfl (zN 1 rfl rfl (zF 2 rfl iW rfl (zL 3 0 (aZ gV) rfl iH rfl rfl rfl (zF 4 rfl iX rfl (zL 5 1 (nZ p1.Vol) rfl cB rfl rfl rfl (zP 6 rfl rfl (zN 7 rfl rfl (zF 8 rfl iW rfl (zL 9 0 (aZ gV) rfl iH rfl rfl rfl (zF 10 rfl iX rfl (zL 11 1 (nZ p1.Vol) rfl cB rfl rfl rfl ?_))))))))))))))
 obtain⟨x15,X7,m⟩:=aD m
 refine zC 12 rfl (dF X7 lZ oV rfl rfl) (zC 13 rfl (cW (bK.ne oV X7) rD rfl rfl) (zE 14 rfl (cX (fo:=2) ({ x15 with State:=3}:aQ) 5 u X7 eT oV rfl rfl rfl rfl (cS.refl _ _) AT rfl rfl λK21=>⟨⟨λ_=>aO 1 K21 rfl,λ_=>aO 0 K21 rfl,trivial⟩, ?_⟩)))
 obtain⟨x16,X8,m⟩:=aD m
 refine zC 15 rfl (dF X8 lZ (bK.set oV) rfl rfl) (zC 16 rfl (cW (bK.ne (bK.set oV) X8) rE rfl rfl) (zE 17 rfl (cX (fo:=3) ({ x16 with Files:=0}:aQ) 5 K21 X8 eT (bK.set oV) rfl rfl rfl rfl (cS.refl _ _) AT rfl rfl λK22=>⟨⟨λ_=>aO 1 K22 rfl,λ_=>aO 0 K22 rfl,trivial⟩, ?_⟩)))
 refine zX (qk (f:=QU 310 _ _ _ _ _ _ _ _ _ _ _ _ _ _ _ _ _) K22 rfl (vs (v0 (vs (vs (v0 (qE (AS (.obj 44 (fl aK ([]:List aB) g0.sp)) 15 (aZ g0) (fP _)) (nW m (σ:=(List aB)×Int) (τ:=dD) (λg s=>((dA g s.1)::(some k2,.obj 62 (aJ p1))::(hL p0K p0.Seq gS gC gE gV p0.Snaps p0.Chunks p0.Exps ((p0.Vols.set p1.Vol.toNat ({ x15 with State:=3})).set p1.Vol.toNat ({ x16 with Files:=0}))))) (λg s=>bK g 35 (s.1:List aB).length) (λg s=>.c 0 (.ptr p0K 0) (.c 3 (.ptr k2 0) (.c 15 (aZ g) (.c 16 (nZ s.2) .nil)))) g0 (bK.g0 35) (lx (.k4 .nil)) ?_ ?_))))))))
 rintro ag28 ⟨q16,q17⟩ x O21 m
 replace m:uC w p0 p1 q16 q17=some x:=m
 unfold uC at m
 refine vs (vs (v0 (lU rfl (dX eW rfl rfl (vl 2 (aZ gC) fD rfl rfl rfl (bU (fB lI oC rfl) (v0 ?_)))))))
 apply vi m <;> intro c20 m
 refine v0 (vs (v0 (vs (v0 (lU rfl (dX eW rfl rfl (vl 2 (aZ gC) fD rfl rfl rfl ?_)))))))
 obtain⟨x17,X9,m⟩:=aD m
 refine bU (dF X9 h9 oC rfl rfl) (vn (λu=>eJ (fo:=0) (.agg (aK x17)) X9 cY oC pB rfl (aO 4 u rfl) (λ_=>rfl)) (ve λu=>bG (bC gW++(SZ:List AV)) u qL rfl rfl λk15855 K23=>qk K23 rfl (ve λu=>aL 0 (aK x17) u rfl rfl rfl rfl EC rfl rfl λK24=>qk K24 rfl (vs (v0 (dX jQ rfl rfl (vl 0 _ fT rfl rfl rfl (dX iX rfl rfl (vl 2 _ cB rfl rfl rfl (vk WI N5 m rfl rfl λy3 m=>dX jQ rfl rfl (ve λu=>aL 0 (aK { x17 with Locs:=y3}) u rfl rfl rfl rfl pO rfl rfl λK25=>qk K25 rfl (vs (fN m (σ:=Bool) (λs=>((some k15855,.obj 44 (aK { x17 with Locs:=y3}))::(dA ag28 q16)::(some k2,.obj 62 (aJ p1))::(hL p0K p0.Seq gS gC gE gV p0.Snaps p0.Chunks p0.Exps ((p0.Vols.set p1.Vol.toNat ({ x15 with State:=3})).set p1.Vol.toNat ({ x16 with Files:=0}))))) (λs=>.c 0 (.ptr p0K 0) (.c 3 (.ptr k2 0) (.c 15 (aZ ag28) (.c 16 (nZ q17) (.c 17 (.ptr k15855 0) (.c 340 (.sc (.bool s)) .nil)))))) (λx m=> ?_) ?_)))))))))))))
 refine v0 (dX pP rfl rfl (vl 0 _ GK rfl rfl rfl ?_))
 apply vi m <;> intro b7 m
 rw[b7]
 exact m5 m
 rw[b7]
 exact dX jQ rfl rfl (vl 0 _ fT rfl rfl rfl (dH kD rfl (m5 m)))
 rintro _ j9 m
 refine oG m (σ:=(List aB)) (τ:=dD) (λg s=>((some k15855,.obj 44 (aK { x17 with Locs:=y3}))::(dA g s)::(some k2,.obj 62 (aJ p1))::(hL p0K p0.Seq gS gC gE gV p0.Snaps p0.Chunks p0.Exps ((p0.Vols.set p1.Vol.toNat ({ x15 with State:=3})).set p1.Vol.toNat ({ x16 with Files:=0}))))) (λg s=>bK g 35 (s:List aB).length) (λg s=>.c 0 (.ptr p0K 0) (.c 3 (.ptr k2 0) (.c 15 (aZ g) (.c 16 (nZ q17) .nil)))) (λx m=> ?_) ?_
 refine v0 ?_
 apply vi m <;> intro c21 m
 refine v0 (vl 0 (.agg (aK { x17 with Locs:=y3})) pB rfl rfl rfl (bU (eA (List.map aK ([{ x17 with Locs:=y3}]:List aB)) o8 rfl rfl rfl rfl) ?_))
 obtain⟨z1,Z1,m⟩:=aD m
 exact ve λu=>f8 (c:=aK) 1 Z1 o8 rfl qL rfl cY rfl rfl O21 u rfl λag29 O22 K26=>qk K26 rfl (eH m ag29 O22 (lx (.k4 .nil)))
 exact v0 (eH m ag28 O21 (lx (.k4 .nil)))
 rintro ag30 j10 O23 m
 exact v0 (eH m ag30 O23 (mE [1,2,3,4,5,6,7] rfl rfl (.k4 .nil)))
 exact v0 (lN m ag28 O21 (lx (.k4 .nil)))
 rintro ag31 ⟨r16,r17⟩ t7 m
 refine vs (v0 (lU rfl (dX eW rfl rfl (ve λu=>aL 2 ([nZ p0.Seq,aZ gS,aZ ag31,aZ gE,aZ gV]) u rfl rfl (cM rfl) (cG (cC _ _ _) rfl) D9 rfl rfl λK27=>qk K27 rfl (vs (vs (v0 (nW m (σ:=(List aH)×Int) (τ:=dD) (λg s=> [(dA ag31 r16),(some k2,.obj 62 (aJ p1)),(hO p0K p0.Seq g ag31 gE gV),(dE g s.1),(dA gC p0.Chunks),(jR gE p0.Exps),(lC gV ((p0.Vols.set p1.Vol.toNat ({ x15 with State:=3})).set p1.Vol.toNat ({ x16 with Files:=0})))]) (λg s=>bK g 4 (s.1:List aH).length) (λg s=>.c 0 (.ptr p0K 0) (.c 3 (.ptr k2 0) (.c 18 (nZ s.2) .nil))) gS ok_Snaps (lx (.k3 .nil)) ?_ ?_))))))))
 rintro ag32 ⟨q18,q19⟩ x O24 m
 replace m:uD w p1 q18 q19=some x:=m
 unfold uD at m
 refine vs (vs (v0 (lU rfl (dX eL rfl rfl (vl 2 (aZ ag32) fI rfl rfl rfl (bU (fB kZ O24 rfl) (v0 ?_)))))))
 apply vi m <;> intro c22 m
 refine v0 (vs (v0 (v0 (vz [(1000000,some p0K,.obj 30 ([nZ p0.Seq,aZ ag32,aZ ag31,aZ gE,aZ gV])),(18,ag32.t,.obj 60 (fl bJ (q18:List aH) ag32.sp)),(1000000,some k2,.obj 62 (aJ p1))] mixed (λu=>⟨λ_=>aO 2 u rfl,λ_=>aO 3 u rfl,λ_=>aO 1 u rfl,trivial⟩) λu=>zP 0 rfl rfl (zN 1 rfl rfl (zF 2 rfl eL rfl (zL 3 0 (aZ ag32) rfl fI rfl rfl rfl (zI 4 rfl rfl (zP 5 rfl rfl (zN 6 rfl rfl (zF 7 rfl eL rfl (zL 8 0 (aZ ag32) rfl fI rfl rfl rfl (zI 9 rfl rfl ?_)))))))))))))
 obtain⟨x18,X10,m⟩:=aD m
 refine zC 10 rfl (dF X10 jL O24 rfl rfl) (zC 11 rfl (cW (bK.ne O24 X10) lB rfl rfl) (zO 12 rfl (λ_ _ hi hB=>eJ (fo:=3) (.sl none 4 (List.map aN x18.Locs)) X10 eM O24 fT rfl (fS.get 1 hi rfl (hB 18 (by kernel_rfl))) (λ_=>rfl)) (zF 13 rfl iX rfl (zL 14 2 (nZ p1.Vol) rfl cB rfl rfl rfl ?_))))
 obtain⟨y4,Y8,m⟩:=aD m
 refine zC 15 rfl (bV (WI _ Y8) rfl N5 rfl) ?_
 obtain⟨x19,X11,m⟩:=aD m
 refine zC 16 rfl (dF X11 jL O24 rfl rfl) (zC 17 rfl (cW (bK.ne O24 X11) lB rfl rfl) (zE 18 rfl (cX (fo:=3) ({ x19 with Locs:=y4}:aH) 3 u X11 eM O24 rfl rfl rfl rfl (cS.refl _ _) pO rfl rfl λK28=>⟨⟨λ_=>aO 2 K28 rfl,λe=>absurd e (by decide),λ_=>aO 1 K28 rfl,trivial⟩, ?_⟩)))
 exact zX (qk (f:=aEC 375 _ _ _ _ _ _ _ _ _ _ _ _ _ _ _ _ _ _ _) K28 rfl (v0 (eH m ag32 (bK.set O24) (lx (.k3 .nil)))))
 exact v0 (lN m ag32 O24 (lx (.k3 .nil)))
 rintro ag33 ⟨r18,r19⟩ t8 m
 refine vs (v0 (vs (vs (v0 (qE (AS (.obj 99 (fl cH ([]:List aT) g0.sp)) 19 (aZ g0) (fP _)) (nW m (σ:=(List aT)×Int) (τ:=dD) (λg s=> [(jR g s.1),(dA ag31 r16),(some k2,.obj 62 (aJ p1)),(hO p0K p0.Seq ag33 ag31 gE gV),(dE ag33 r18),(dA gC p0.Chunks),(jR gE p0.Exps),(lC gV ((p0.Vols.set p1.Vol.toNat ({ x15 with State:=3})).set p1.Vol.toNat ({ x16 with Files:=0})))]) (λg s=>bK g 3 (s.1:List aT).length) (λg s=>.c 0 (.ptr p0K 0) (.c 3 (.ptr k2 0) (.c 19 (aZ g) (.c 20 (nZ s.2) .nil)))) g0 (bK.g0 3) (lx (.k4 .nil)) ?_ ?_))))))
 rintro ag34 ⟨q20,q21⟩ x O25 m
 replace m:uE w p0 p1 q20 q21=some x:=m
 unfold uE at m
 refine vs (vs (v0 (lU rfl (dX eU rfl rfl (vl 3 (aZ gE) iG rfl rfl rfl (bU (fB pN oE rfl) (v0 ?_)))))))
 apply vi m <;> intro c23 m
 refine v0 (vs (v0 (vs (v0 (lU rfl (dX eU rfl rfl (vl 3 (aZ gE) iG rfl rfl rfl ?_)))))))
 obtain⟨x20,X12,m⟩:=aD m
 refine bU (dF X12 iR oE rfl rfl) (vn (λu=>eJ (fo:=0) (.agg (cH x20)) X12 f9 oE zU rfl (aO 6 u rfl) (λ_=>rfl)) (ve λu=>bG ([nZ 0,nZ 0,sZ]) u sP rfl rfl λk16100 K29=>qk K29 rfl (ve λu=>aL 0 (cH x20) u rfl rfl rfl rfl JT rfl rfl λK30=>qk K30 rfl (vs (v0 (dX mR rfl rfl (vl 0 _ fT rfl rfl rfl (dX iX rfl rfl (vl 3 _ cB rfl rfl rfl (vk WI N5 m rfl rfl λy5 m=>dX mR rfl rfl (ve λu=>aL 0 (cH { x20 with Locs:=y5}) u rfl rfl rfl rfl pO rfl rfl λK31=>qk K31 rfl (vs (v0 (dX mR rfl rfl (vl 0 _ fT rfl rfl rfl (dH kD rfl (oG m (σ:=(List aT)) (τ:=dD) (λg s=> [(some k16100,.obj 99 (cH { x20 with Locs:=y5})),(jR g s),(dA ag31 r16),(some k2,.obj 62 (aJ p1)),(hO p0K p0.Seq ag33 ag31 gE gV),(dE ag33 r18),(dA gC p0.Chunks),(jR gE p0.Exps),(lC gV ((p0.Vols.set p1.Vol.toNat ({ x15 with State:=3})).set p1.Vol.toNat ({ x16 with Files:=0})))]) (λg s=>bK g 3 (s:List aT).length) (λg s=>.c 0 (.ptr p0K 0) (.c 3 (.ptr k2 0) (.c 19 (aZ g) (.c 20 (nZ q21) .nil)))) (λx m=> ?_) ?_)))))))))))))))))
 refine v0 ?_
 apply vi m <;> intro c24 m
 refine v0 (vl 0 (.agg (cH { x20 with Locs:=y5})) zU rfl rfl rfl (bU (eA (List.map cH ([{ x20 with Locs:=y5}]:List aT)) o9 rfl rfl rfl rfl) ?_))
 obtain⟨z2,Z2,m⟩:=aD m
 exact ve λu=>f8 (c:=cH) 1 Z2 o9 rfl sP rfl f9 rfl rfl O25 u rfl λag35 O26 K32=>qk K32 rfl (eH m ag35 O26 (lx (.k4 .nil)))
 exact v0 (eH m ag34 O25 (lx (.k4 .nil)))
 rintro ag36 j11 O27 m
 exact v0 (eH m ag36 O27 (mE [1,2,3,4,5,6,7,8] rfl rfl (.k4 .nil)))
 exact v0 (lN m ag34 O25 (lx (.k4 .nil)))
 rintro ag37 ⟨r20,r21⟩ t9 m
 exact v0 (lU rfl (dX eU rfl rfl (ve λu=>aL 3 ([nZ p0.Seq,aZ ag33,aZ ag31,aZ ag37,aZ gV]) u rfl rfl (cM rfl) (cG (cC _ _ _) rfl) L6 rfl rfl λK33=>qk K33 rfl (eH m (ag33,ag31,ag37,gV) ⟨t8,t7,t9,(bK.set (bK.set oV))⟩ (mE [2,3,4,1,0,7] rfl rfl .nil)))))
 refine vs (v0 (oG m (σ:=(List aQ)) (τ:=dD) (λg s=>((some k2,.obj 62 (aJ p1))::(hL p0K p0.Seq gS gC gE g p0.Snaps p0.Chunks p0.Exps s))) (λg s=>bK g 4 (s:List aQ).length) (λg s=>.nil) (λx m=> ?_) ?_))
 refine v0 ?_
 apply vi m <;> intro c25 m
 refine vs (vs (v0 (dX iX rfl rfl (vl 0 _ cB rfl rfl rfl ?_))))
 obtain⟨_,Y9,m⟩:=aD m
 refine ve λu=>fJ ((bM u [1,2,3,4,5,0] rfl rfl).1.trans (dO h (hC p0K p0 gS gC gE gV) [(some k2,.obj 62 (aJ p1))]).symm) (dR (WJ (hp h [(some k2,.obj 62 (aJ p1))]) ok_Snaps oC oE oV (dJ (hC p0K p0 gS gC gE gV) [(some k2,.obj 62 (aJ p1))] (bM u [1,2,3,4,5,0] rfl rfl).2).2 Y9) rfl N6 rfl ?_)
 rintro x h' ⟨K34,rfl,rfl⟩
 have K35:=bM (L':=((some k2,.obj 62 (aJ p1))::(hC p0K p0 gS gC gE gV))) (dZ (dJ (hC p0K p0 gS gC gE gV) [(some k2,.obj 62 (aJ p1))] (bM u [1,2,3,4,5,0] rfl rfl).2).1 K34) [5,0,1,2,3,4] rfl rfl
 refine qk K35.2 ((dO h (hC p0K p0 gS gC gE gV) [(some k2,.obj 62 (aJ p1))]).trans K35.1) (v0 ?_)
 apply vi m <;> intro c26 m
 refine vs (v0 (v0 (fZ m λm=>fZ m λm=>fZ m λm=>fZ m λm=>fZ m λm=> ?_)))
 cases m
 exact vr λu=>dW.of1 (.inl rfl) (gN _ _ (.sc (.int _ _)) rfl) (bQ u [1,2,3,4,5] rfl).2 (bD.refl _ _) ⟨gS,ok_Snaps,gC,oC,gE,oE,gV,oV,(bQ u [1,2,3,4,5] rfl).1,rfl,rfl⟩
 refine v0 (v0 (vz [(1000000,some p0K,.obj 30 ([nZ p0.Seq,aZ gS,aZ gC,aZ gE,aZ gV])),(1000000,some k2,.obj 62 (aJ p1)),(24,gV.t,.obj 49 (fl dG (p0.Vols:List aQ) gV.sp))] mixed (λu=>⟨λ_=>aO 1 u rfl,λ_=>aO 0 u rfl,λ_=>aO 5 u rfl,trivial⟩) λu=>zP 0 rfl rfl (zN 1 rfl rfl (zF 2 rfl iW rfl (zL 3 0 (aZ gV) rfl iH rfl rfl rfl (zF 4 rfl iX rfl (zL 5 1 (nZ p1.Vol) rfl cB rfl rfl rfl (zP 6 rfl rfl (zN 7 rfl rfl (zF 8 rfl iW rfl (zL 9 0 (aZ gV) rfl iH rfl rfl rfl (zF 10 rfl iX rfl (zL 11 1 (nZ p1.Vol) rfl cB rfl rfl rfl (zP 12 rfl rfl (zN 13 rfl rfl (zF 14 rfl iW rfl (zL 15 0 (aZ gV) rfl iH rfl rfl rfl (zF 16 rfl iX rfl (zL 17 1 (nZ p1.Vol) rfl cB rfl rfl rfl ?_)))))))))))))))))))
 obtain⟨x21,X13,m⟩:=aD m
 refine zC 18 rfl (dF X13 lZ oV rfl rfl) (zC 19 rfl (cW (bK.ne oV X13) ME rfl rfl) (zO 20 rfl (λ_ _ hi hB=>eJ (fo:=1) (nZ x21.Epoch) X13 eT oV cB rfl (fS.get 2 hi rfl (hB 24 (by kernel_rfl))) (λ_=>rfl)) (zC 21 rfl (mN rfl rfl rfl trivial) ?_)))
 obtain⟨x22,X14,m⟩:=aD m
 refine zC 22 rfl (dF X14 lZ oV rfl rfl) (zC 23 rfl (cW (bK.ne oV X14) rD rfl rfl) (zE 24 rfl (cX (fo:=2) ({ x22 with State:=1}:aQ) 5 u X14 eT oV rfl rfl rfl rfl (cS.refl _ _) AT rfl rfl λK36=>⟨⟨λ_=>aO 1 K36 rfl,λ_=>aO 0 K36 rfl,λe=>absurd e (by decide),trivial⟩, ?_⟩)))
 obtain⟨x23,X15,m⟩:=aD m
 refine zC 25 rfl (dF X15 lZ (bK.set oV) rfl rfl) (zC 26 rfl (cW (bK.ne (bK.set oV) X15) ME rfl rfl) (zE 27 rfl (cX (fo:=1) ({ x23 with Epoch:=IntKind.wrap .i64 (x21.Epoch+1)}:aQ) 5 K36 X15 eT (bK.set oV) rfl rfl rfl rfl (cS.refl _ _) AT rfl rfl λK37=>⟨⟨λ_=>aO 1 K37 rfl,λ_=>aO 0 K37 rfl,λe=>absurd e (by decide),trivial⟩, ?_⟩)))
 exact zX (qk (f:=aED 442 _ _ _ _ _ _ _ _ _ _ _ _ _ _ _ _ _ _ _ _ _ _ _ _ _ _ _) K37 rfl (eH m gV (bK.set (bK.set oV)) (lx .nil)))
 exact v0 (eH m gV oV (lx .nil))
 rintro ag38 j12 O28 m
 exact eH m (gS,gC,gE,ag38) ⟨ok_Snaps,oC,oE,O28⟩ (lx .nil)
 rintro⟨ag39,ag40,ag41,ag42⟩ ⟨j13,j14,j15,j16⟩ ⟨O29,O30,O31,O32⟩ m
 exact eH m (ag39,ag40,ag41,ag42) ⟨O29,O30,O31,O32⟩ (lx .nil)
 rintro⟨ag43,ag44,ag45,ag46⟩ ⟨j17,j18,j19,j20,j21⟩ ⟨O33,O34,O35,O36⟩ m
 exact eH m (ag43,ag44,ag45,ag46) ⟨O33,O34,O35,O36⟩ (lx .nil)
 rintro⟨ag47,ag48,ag49,ag50⟩ ⟨j22,j23,j24,j25,j26⟩ ⟨O37,O38,O39,O40⟩ m
 exact eH m (ag47,ag48,ag49,ag50) ⟨O37,O38,O39,O40⟩ (lx .nil)
 rintro⟨ag51,ag52,ag53,ag54⟩ ⟨j27,j28,j29,j30,j31⟩ ⟨O41,O42,O43,O44⟩ m
 refine vs (v0 (v0 ?_))
 cases m
 exact vr λu=>dW.of1 (.inl rfl) (gN _ _ (.sc (.int _ _)) rfl) (bQ u [1,2,3,4,5] rfl).2 (bD.refl _ _) ⟨ag51,O41,ag52,O42,ag53,O43,ag54,O44,(bQ u [1,2,3,4,5] rfl).1,rfl,rfl⟩
theorem aHX:aP Tryz.prog 91=true:=by kernel_rfl
open Go.Vm
def E7 (m:Nat) (p0:aA) (p1:aV):Option (aA×Int):=
 after ((VJ m p0).bind λy0=>if (!y0)=true then (some (.brk true)) else if (decide (p1.Kind < 1))=true then (some (.brk true)) else some (.brk (decide (5 < p1.Kind))):Option (Lp (Bool) (aA×Int))) λj0=>if j0=true then (some (({ Seq:=0,Snaps:= [],Chunks:= [],Exps:= [],Vols:= []}:aA),1)) else (RU m p0).bind λy1=>(M92 m p1).bind λy2=>(rM m ({ Seq:=y1.Seq,Snaps:=y1.Snaps,Chunks:=y1.Chunks,Exps:=y1.Exps,Vols:=y1.Vols}:aA) y2).bind λy3=>if (y3.1 !=0)=true then (some (({ Seq:=0,Snaps:= [],Chunks:= [],Exps:= [],Vols:= []}:aA),y3.1)) else (VJ m ({ Seq:=y3.2.1,Snaps:=y3.2.2.1,Chunks:=y3.2.2.2.1,Exps:=y3.2.2.2.2.1,Vols:=y3.2.2.2.2.2}:aA)).bind λy4=>if (!y4)=true then (some (({ Seq:=0,Snaps:= [],Chunks:= [],Exps:= [],Vols:= []}:aA),1)) else some (({ Seq:=y3.2.1,Snaps:=y3.2.2.1,Chunks:=y3.2.2.2.1,Exps:=y3.2.2.2.2.1,Vols:=y3.2.2.2.2.2}:aA),0)
theorem W36 {w:Nat} {p0:aA} {p1:aV} {o:aA×Int} (h:aF) (m:E7 w p0 p1=some o):
 aM Tryz.prog 36 [.agg (aC p0),.agg (aJ p1)] h (λr h'=>r= .tup [.agg (aC o.1),nZ o.2]∧h'=h):=by
 refine fK 36 [.cell 4 30,.tmp 5] Tryz.func36 rfl rfl rfl rfl ?_
 unfold E7 at m
 refine vs (v0 (gX rfl rfl λk2 K3=>gX rfl rfl λk5 K6=>ve λu=>bG (i7) u sK rfl rfl λk8 K9=>qk K9 rfl (vs (vs (fN m (σ:=Bool) (λs=> [(some k8,.obj 30 (i7)),(some k5,.obj 62 (aJ p1)),(some k2,.obj 30 (aC p0))]) (λs=>.c 2 (.ptr k2 0) (.c 3 (.ptr k5 0) (.c 4 (.ptr k8 0) (.c 20 (.sc (.bool s)) .nil)))) (λx m=> ?_) ?_)))))
 refine v0 (vl 2 (.agg (aC p0)) cZ rfl rfl rfl (vk W89 aAK m rfl rfl λ_ m=> ?_))
 apply vi m <;> intro b0 m
 rw[b0]
 exact fY m
 rw[b0]
 refine dX B8 rfl rfl (vl 1 _ cB rfl rfl rfl ?_)
 apply vi m <;> intro b1 m
 rw[b1]
 exact fY m
 rw[b1]
 exact dX B8 rfl rfl (vl 1 _ cB rfl rfl rfl (fY m))
 rintro _ j0 m
 refine v0 ?_
 apply vi m <;> intro c0 m
 refine vs (v0 (bU (eI (i7) GL rfl) (ve λu=>aL 0 (i7) u rfl rfl rfl rfl m8 rfl rfl λK0=>qk K0 rfl (v0 ?_))))
 cases m
 exact vr λu=>dW.of2 (.inl rfl) (sE (.agg (i7)) cZ rfl (aW 0 u rfl) rfl) (gN _ _ (.sc (.int _ _)) rfl) (aU (List.nil_sublist _) u).1 (bD.agg (.cons (bD.refl _ _) (.cons (a9 _) (.cons (a9 _) (.cons (a9 _) (.cons (a9 _) .nil)))))) (bD.refl _ _) ⟨rfl,rfl⟩
 refine v0 (vs (v0 (vl 2 (.agg (aC p0)) cZ rfl rfl rfl ?_)))
 obtain⟨y0,Y0,m⟩:=aD m
 refine ve λu=>dR (aHR _ Y0) rfl aGQ rfl ?_
 rintro x h' ⟨ag0,O0,ag1,O1,ag2,O2,ag3,O3,K1,rfl,rfl⟩
 refine qk (dZ u K1) (dO h [(dE ag0 y0.Snaps),(dA ag1 y0.Chunks),(jR ag2 y0.Exps),(lC ag3 y0.Vols)] [(some k8,.obj 30 (i7)),(some k5,.obj 62 (aJ p1)),(some k2,.obj 30 (aC p0))]) (ve λu=>bG (i7) u sK rfl rfl λk42 K2=>qk K2 rfl (ve λu=>aL 0 ([nZ y0.Seq,aZ ag0,aZ ag1,aZ ag2,aZ ag3]) u rfl rfl rfl (by repeat (first | exact rfl | refine cG (jG _ _ _) ?_ | refine cG (cC _ _ _) ?_ | refine cG (gG _ _ _ _) ?_ | refine cG rfl ?_)) m8 rfl rfl λK4=>qk K4 rfl ?_))
 refine vs (v0 (vl 6 (.agg (aJ p1)) sO rfl rfl rfl (vk W92 aHT m rfl rfl λ_ m=> ?_)))
 obtain⟨y1,Y1,m⟩:=aD m
 refine ve λu=>fJ ((bM u [0,1,2,3,4,5,6,7] rfl rfl).1.trans (dO h (hC k42 y0 ag0 ag1 ag2 ag3) [(some k8,.obj 30 (i7)),(some k5,.obj 62 (aJ p1)),(some k2,.obj 30 (aC p0))]).symm) (dR (W91 (hp h [(some k8,.obj 30 (i7)),(some k5,.obj 62 (aJ p1)),(some k2,.obj 30 (aC p0))]) O0 O1 O2 O3 (dJ (hC k42 y0 ag0 ag1 ag2 ag3) [(some k8,.obj 30 (i7)),(some k5,.obj 62 (aJ p1)),(some k2,.obj 30 (aC p0))] (bM u [0,1,2,3,4,5,6,7] rfl rfl).2).2 Y1) rfl aHX rfl ?_)
 rintro x h' ⟨ag4,O4,ag5,O5,ag6,O6,ag7,O7,K5,rfl,rfl⟩
 have K7:=bM (L':= [(hO k42 y1.2.1 ag4 ag5 ag6 ag7),(dE ag4 y1.2.2.1),(dA ag5 y1.2.2.2.1),(jR ag6 y1.2.2.2.2.1),(lC ag7 y1.2.2.2.2.2),(some k8,.obj 30 (i7)),(some k5,.obj 62 (aJ p1)),(some k2,.obj 30 (aC p0))]) (dZ (dJ (hC k42 y0 ag0 ag1 ag2 ag3) [(some k8,.obj 30 (i7)),(some k5,.obj 62 (aJ p1)),(some k2,.obj 30 (aC p0))] (bM u [0,1,2,3,4,5,6,7] rfl rfl).2).1 K5) [0,1,2,3,4,5,6,7] rfl rfl
 refine qk K7.2 ((dO h (hL k42 y1.2.1 ag4 ag5 ag6 ag7 y1.2.2.1 y1.2.2.2.1 y1.2.2.2.2.1 y1.2.2.2.2.2) [(some k8,.obj 30 (i7)),(some k5,.obj 62 (aJ p1)),(some k2,.obj 30 (aC p0))]).trans K7.1) (vs (vs (v0 (v0 ?_))))
 apply vi m <;> intro c1 m
 refine vs (v0 (bU (eI (i7) GL rfl) (ve λu=>aL 5 (i7) u rfl rfl rfl rfl m8 rfl rfl λK8=>qk K8 rfl (v0 ?_))))
 cases m
 exact vr λu=>dW.of2 (.inl rfl) (sE (.agg (i7)) cZ rfl (aW 5 u rfl) rfl) (gN _ _ (.sc (.int _ _)) rfl) (aU (List.nil_sublist _) u).1 (bD.agg (.cons (bD.refl _ _) (.cons (a9 _) (.cons (a9 _) (.cons (a9 _) (.cons (a9 _) .nil)))))) (bD.refl _ _) ⟨rfl,rfl⟩
 refine v0 (vs (vs (v0 (vl 0 (.agg ([nZ y1.2.1,aZ ag4,aZ ag5,aZ ag6,aZ ag7])) cZ rfl rfl rfl ?_))))
 obtain⟨_,Y2,m⟩:=aD m
 refine vn (λu=>bV (fH (.cons (Br.agg (.cons (Br.refl _ _) (.cons (Br.aw 1 eM O4 u rfl) (.cons (Br.aw 2 cY O5 u rfl) (.cons (Br.aw 3 f9 O6 u rfl) (.cons (Br.aw 4 eT O7 u rfl) .nil)))))) .nil) rfl (W89 _ Y2)) rfl aAK rfl) (v0 ?_)
 apply vi m <;> intro c2 m
 refine vs (v0 (bU (eI (i7) GL rfl) (ve λu=>aL 5 (i7) u rfl rfl rfl rfl m8 rfl rfl λK73=>qk K73 rfl (v0 ?_))))
 cases m
 exact vr λu=>dW.of2 (.inl rfl) (sE (.agg (i7)) cZ rfl (aW 5 u rfl) rfl) (gN _ _ (.sc (.int _ _)) rfl) (aU (List.nil_sublist _) u).1 (bD.agg (.cons (bD.refl _ _) (.cons (a9 _) (.cons (a9 _) (.cons (a9 _) (.cons (a9 _) .nil)))))) (bD.refl _ _) ⟨rfl,rfl⟩
 refine v0 (vs (v0 (vl 0 (.agg ([nZ y1.2.1,aZ ag4,aZ ag5,aZ ag6,aZ ag7])) cZ rfl rfl rfl (ve λu=>aL 5 ([nZ y1.2.1,aZ ag4,aZ ag5,aZ ag6,aZ ag7]) u rfl rfl rfl (by repeat (first | exact rfl | refine cG (jG _ _ _) ?_ | refine cG (cC _ _ _) ?_ | refine cG (gG _ _ _ _) ?_ | refine cG rfl ?_)) m8 rfl rfl λK75=>qk K75 rfl ?_))))
 refine v0 ?_
 cases m
 refine vrl λu=> ?_
 obtain⟨K76,le0⟩:=f0.fzO (n:=36) (f:=_) 1 4 ([nZ y1.2.1,.sl none 4 (List.map bJ y1.2.2.1),aZ ag5,aZ ag6,aZ ag7]) u rfl (.cons (Fz.refl _ _ _) (.cons (Fz.aw 1 eM O4 u rfl (.refl _)) (.cons (Fz.refl _ _ _) (.cons (Fz.refl _ _ _) (.cons (Fz.refl _ _ _) .nil)))))
 obtain⟨K78,le1⟩:=f0.fzO (n:=36) (f:=_) 1 3 ([nZ y1.2.1,.sl none 4 (List.map bJ y1.2.2.1),.sl none 35 (List.map aK y1.2.2.2.1),aZ ag6,aZ ag7]) K76 rfl (.cons (Fz.refl _ _ _) (.cons (Fz.refl _ _ _) (.cons (Fz.aw 1 cY O5 K76 rfl (.refl _)) (.cons (Fz.refl _ _ _) (.cons (Fz.refl _ _ _) .nil)))))
 obtain⟨K80,le2⟩:=f0.fzO (n:=36) (f:=_) 1 2 ([nZ y1.2.1,.sl none 4 (List.map bJ y1.2.2.1),.sl none 35 (List.map aK y1.2.2.2.1),.sl none 3 (List.map cH y1.2.2.2.2.1),aZ ag7]) K78 rfl (.cons (Fz.refl _ _ _) (.cons (Fz.refl _ _ _) (.cons (Fz.refl _ _ _) (.cons (Fz.aw 1 f9 O6 K78 rfl (.refl _)) (.cons (Fz.refl _ _ _) .nil)))))
 obtain⟨K82,le3⟩:=f0.fzO (n:=36) (f:=_) 1 1 ([nZ y1.2.1,.sl none 4 (List.map bJ y1.2.2.1),.sl none 35 (List.map aK y1.2.2.2.1),.sl none 3 (List.map cH y1.2.2.2.2.1),.sl none 4 (List.map dG y1.2.2.2.2.2)]) K80 rfl (.cons (Fz.refl _ _ _) (.cons (Fz.refl _ _ _) (.cons (Fz.refl _ _ _) (.cons (Fz.refl _ _ _) (.cons (Fz.aw 1 eT O7 K80 rfl (.refl _)) .nil)))))
 exact P0.mk (f0.trans (f0.trans (f0.trans le0 le1) le2) le3) (dW.of2 (.inl rfl) (sE (.agg (aC ({ Seq:=y1.2.1,Snaps:=y1.2.2.1,Chunks:=y1.2.2.2.1,Exps:=y1.2.2.2.2.1,Vols:=y1.2.2.2.2.2}:aA))) cZ rfl (aW 1 K82 rfl) rfl) (gN _ _ (.sc (.int _ _)) rfl) (aU (List.nil_sublist _) K82).1 (bD.refl _ _) (bD.refl _ _) ⟨rfl,rfl⟩)
theorem aHY:aP Tryz.prog 36=true:=by kernel_rfl
open Go.Vm
def uF (m:Nat) (p0:List dM) (q0:Int):Option (Lp (Int) (Bool)):=
 if (decide (q0 < (p0.length:Int)))=true then ((ix p0 q0).bind λx0=>if (decide (200 < (x0.Data.length:Int)))=true then (some (.ret true)) else some (.go (IntKind.wrap .i64 (q0+1)))) else some (.brk q0)
def KA (m:Nat) (p0:List dM):Option (Bool):=
 if (decide (6 < (p0.length:Int)))=true then (some true) else after (aS (λs=>uF m p0 s) m 0) λr0=>some false
theorem aB9 {u:Nat} {p0:List dM} {o:Bool} (h:aF) (m:KA u p0=some o):
 aM Tryz.prog 139 [.sl none 2 (List.map eK p0)] h (λr h'=>r= .sc (.bool o)∧h'=h):=by
 refine fK 20 [.tmp 2] Tryz.func139 rfl rfl rfl rfl ?_
 unfold KA at m
 refine v (v (dH zS rfl (v ?_)))
 apply vi m <;> intro c4 m
 refine v (v ?_)
 obtain rfl:=eP m
 exact eF rfl
 refine v (v (jP m (σ:=Int) (λs=> []) (λs=>.c 0 (.sl none 2 (List.map eK p0)) (.c 3 (nZ s) .nil)) (lx (.k2 .nil)) ?_ ?_))
 rintro _ q0 x m
 replace m:uF u p0 q0=some x:=m
 unfold uF at m
 refine v (dH zS rfl (v ?_))
 apply vi m <;> intro c0 m
 refine v (v (v (vx m pC rfl rfl λ_ _ m=>dH nP rfl (v ?_))))
 apply vi m <;> intro c1 m
 refine v (v (fZ m λm=> ?_))
 obtain rfl:=eP m
 exact eF rfl
 exact v (v (wK m))
 exact v (KR m)
 rintro _ r0 m
 refine v (v ?_)
 obtain rfl:=eP m
 exact eF rfl
theorem T0:aP Tryz.prog 139=true:=by kernel_rfl
def CS (m:Nat) (p0:List dM) (q0:Int):Option (Lp (Int) ((List dM)×Int)):=
 if (decide (q0 < (p0.length:Int)))=true then ((ix p0 q0).bind λx0=>(CE m x0.Path).bind λy0=>if (!y0)=true then (some (.ret ([],1))) else some (.go (IntKind.wrap .i64 (q0+1)))) else some (.brk q0)
def CT (m:Nat) (p0:List dM) (q0:List dM) (q1:Int) (q2:Int):Option (Lp (Int) (Lp ((List dM)×Int) ((List dM)×Int))):=
 after (if (decide (q2 < (q0.length:Int)))=true then ((ix q0 q2).bind λx0=>(ix p0 q1).bind λx1=>some (.brk (Op.bytesLess x0.Path.toList x1.Path.toList))) else some (.brk false):Option (Lp (Bool) (Lp (Int) (Lp ((List dM)×Int) ((List dM)×Int))))) λj0=>if j0=true then (some (.go (IntKind.wrap .i64 (q2+1)))) else some (.brk q2)
def CU (m:Nat) (p0:List dM) (q0:List dM) (q1:Int):Option (Lp ((List dM)×Int) ((List dM)×Int)):=
 if (decide (q1 < (p0.length:Int)))=true then (after (aS (λs=>CT m p0 q0 q1 s) m 0) λr0=>after (if (decide (r0 < (q0.length:Int)))=true then ((ix q0 r0).bind λx0=>(ix p0 q1).bind λx1=>some (.brk (x0.Path.toList==x1.Path.toList))) else some (.brk false):Option (Lp (Bool) (Lp ((List dM)×Int) ((List dM)×Int)))) λj0=>if j0=true then (some (.ret ([],9))) else (slc q0 0 r0).bind λx2=>(ix p0 q1).bind λx3=>(ix p0 q1).bind λx4=>(app ([]:List dM) x2).bind λz0=>(vI m x4.Data).bind λy0=>(app z0 ([({ Path:=x3.Path,Data:=y0}:dM)]:List dM)).bind λz1=>(slc q0 r0 (q0.length:Int)).bind λx5=>(app z1 x5).bind λz2=>some (.go (z2,IntKind.wrap .i64 (q1+1)))) else some (.brk (q0,q1))
def M85 (m:Nat) (p0:List dM):Option ((List dM)×Int):=
 (KA m p0).bind λy4=>if y4=true then (some ([],2)) else after (aS (λs=>CS m p0 s) m 0) λr0=>after (aS (λs=>CU m p0 s.1 s.2) m ([],0)) λ⟨r1,r2⟩=>some (r1,0)
theorem W85 {w:Nat} {p0:List dM} {o:(List dM)×Int} (h:aF) (m:M85 w p0=some o):
 aM Tryz.prog 85 [.sl none 2 (List.map eK p0)] h (λr h'=>r= .tup [.sl none 2 (List.map eK o.1),nZ o.2]∧h'=h):=by
 refine fK 91 [.tmp 2,.tmp 3] Tryz.func85 rfl rfl rfl rfl ?_
 unfold M85 at m
 refine v (v (vk aB9 T0 m rfl rfl λ_ m=>v ?_))
 apply vi m <;> intro c6 m
 refine v (v ?_)
 cases m
 exact vr λu=>dW.of2 (.inl rfl) (gN _ _ (.sc (.slice _ _ _)) rfl) (gN _ _ (.sc (.int _ _)) rfl) (iE.refl _) (a9 _) (bD.refl _ _) ⟨rfl,rfl⟩
 refine v (v (jP m (σ:=Int) (λs=> []) (λs=>.c 0 (.sl none 2 (List.map eK p0)) (.c 4 (nZ s) .nil)) (lx (.k2 .nil)) ?_ ?_))
 rintro _ q0 x m
 replace m:CS w p0 q0=some x:=m
 unfold CS at m
 refine v (dH zS rfl (v ?_))
 apply vi m <;> intro c0 m
 refine v (v (v (vx m pC rfl rfl λ_ _ m=>vk MY EG m rfl rfl λ_ m=>v ?_)))
 apply vi m <;> intro c1 m
 refine v (v (fZ m λm=> ?_))
 cases m
 exact vr λu=>dW.of2 (.inl rfl) (gN _ _ (.sc (.slice _ _ _)) rfl) (gN _ _ (.sc (.int _ _)) rfl) (iE.refl _) (a9 _) (bD.refl _ _) ⟨rfl,rfl⟩
 exact v (v (wK m))
 exact v (KR m)
 rintro _ r0 m
 refine v (v (qE (AS (.tok 95 2 (([]:List dM).length*2)) 5 (ow none 2 (List.map eK [])) (gQ _ _)) (nW m (σ:=(List dM)×Int) (τ:=Option bT) (λg s=> [(g,.tok 95 2 ((s.1:List dM).length*2))]) (λg s=>(g=none→s.1= [])) (λg s=>.c 0 (.sl none 2 (List.map eK p0)) (.c 5 (ow g 2 (List.map eK s.1)) (.c 6 (nZ s.2) .nil))) none (λ_=>rfl) (lx (.k3 .nil)) ?_ ?_)))
 rintro tg0 ⟨q1,q2⟩ x t0 m
 replace m:CU w p0 q1 q2=some x:=m
 unfold CU at m
 refine v (dH zS rfl (v ?_))
 apply vi m <;> intro c2 m
 refine v (v (v (vs (jP m (σ:=Int) (λs=> [(tg0,.tok 95 2 ((q1:List dM).length*2))]) (λs=>.c 0 (.sl none 2 (List.map eK p0)) (.c 5 (ow tg0 2 (List.map eK q1)) (.c 6 (nZ q2) (.c 7 (nZ s) .nil)))) (lx (.k4 .nil)) ?_ ?_))))
 rintro _ q3 x m
 replace m:CT w p0 q1 q2 q3=some x:=m
 unfold CT at m
 refine vs (vs (fN m (σ:=Bool) (λs=> [(tg0,.tok 95 2 ((q1:List dM).length*2))]) (λs=>.c 0 (.sl none 2 (List.map eK p0)) (.c 5 (ow tg0 2 (List.map eK q1)) (.c 6 (nZ q2) (.c 7 (nZ q3) (.c 46 (.sc (.bool s)) .nil))))) (λx m=> ?_) ?_))
 refine v (vq (by kernel_rfl) (bU (uU zS t0 rfl) ?_))
 apply vi m <;> intro b0 m
 rw[b0]
 obtain⟨_,X0,m⟩:=aD m
 exact bU (S5 X0 pC t0 rfl rfl) (vx m pC rfl rfl λ_ _ m=>bU (F3 rfl rfl rfl trivial) (kY m))
 rw[b0]
 exact kY m
 rintro _ j0 m
 refine v ?_
 apply vi m <;> intro c3 m
 exact v (v (v (fY m)))
 exact v (wE m)
 rintro _ r1 m
 refine vs (vs (fN m (σ:=Bool) (λs=> [(tg0,.tok 95 2 ((q1:List dM).length*2))]) (λs=>.c 0 (.sl none 2 (List.map eK p0)) (.c 5 (ow tg0 2 (List.map eK q1)) (.c 6 (nZ q2) (.c 7 (nZ r1) (.c 65 (.sc (.bool s)) .nil))))) (λx m=> ?_) ?_))
 refine v (vq (by kernel_rfl) (bU (uU zS t0 rfl) ?_))
 apply vi m <;> intro b1 m
 rw[b1]
 obtain⟨_,X1,m⟩:=aD m
 exact bU (S5 X1 pC t0 rfl rfl) (vx m pC rfl rfl λ_ _ m=>bU (F3 rfl rfl rfl trivial) (kY m))
 rw[b1]
 exact kY m
 rintro _ j1 m
 refine v ?_
 apply vi m <;> intro c4 m
 refine v (v (fZ m λm=> ?_))
 cases m
 exact vr λu=>dW.of2 (.inl rfl) (gN _ _ (.sc (.slice _ _ _)) rfl) (gN _ _ (.sc (.int _ _)) rfl) (aU (List.nil_sublist _) u).1 (a9 _) (bD.refl _ _) ⟨rfl,rfl⟩
 refine v (v (v (vz [] mixed (λu=>trivial) λu=>zC 0 rfl (fA (.sc (.slice _ _ _)) rfl) (zC 1 rfl (fA (ow _ _ _) rfl) (zI 2 rfl rfl ?_)))))
 obtain⟨_,X2,m⟩:=aD m
 refine zC 3 rfl (B1 X2 pC rfl t0 rfl rfl rfl) (zC 5 rfl (fA (.sl _ _ _) rfl) (zI 6 rfl rfl ?_))
 obtain⟨x0,X3,m⟩:=aD m
 refine zC 7 rfl (lP X3 pC rfl rfl) (zC 8 rfl (m6 MK rfl rfl) (zC 9 rfl (lW (.sc (.string x0.Path)) HY rfl rfl) (zC 10 rfl (fA (.sl _ _ _) rfl) (zI 11 rfl rfl ?_))))
 obtain⟨x1,X4,m⟩:=aD m
 refine zC 12 rfl (lP X4 pC rfl rfl) (zC 13 rfl (m6 ML rfl rfl) (zC 14 rfl (lW (.sl none 1 (List.map fX x1.Data)) nY rfl rfl) ?_))
 obtain⟨z0,Z0,m⟩:=aD m
 refine zE 4 rfl (oD (c:=eK) Z0 Q0 rfl rfl u nofun (qD (sI X2 t0)) λtg1 t1 K0=>⟨trivial, ?_⟩)
 obtain⟨y0,Y0,m⟩:=aD m
 refine zC 15 rfl (bV (NB _ Y0) rfl EN rfl) (zC 16 rfl (eI (eK ({ Path:=x0.Path,Data:=y0}:dM)) aEZ rfl) (zC 17 rfl (eA (List.map eK ([({ Path:=x0.Path,Data:=y0}:dM)]:List dM)) Q0 rfl rfl rfl rfl) ?_))
 obtain⟨z1,Z1,m⟩:=aD m
 refine zE 18 rfl (fG (c:=eK) 0 Z1 Q0 rfl rfl rfl t1 K0 rfl λtg2 t2 K1=>⟨trivial, ?_⟩)
 refine zC 19 rfl (hH (ow _ _ _) rfl) (zX (qk (f:=.c 8 _ (S9 84 _ _ _ _ (.c 70 _ (YZ 80 _ _ _ _ _ _ _ _ _ _ (S9 69 _ _ _ _ _))))) K1 rfl (v ?_)))
 obtain⟨_,X5,m⟩:=aD m
 refine bU (B1 X5 pC rfl t0 rfl rfl rfl) ?_
 obtain⟨z2,Z2,m⟩:=aD m
 exact ve λu=>fG (c:=eK) 0 Z2 Q0 rfl rfl rfl t2 u (qD (sI X5 t0)) λtg3 t3 K2=>qk K2 rfl (v (eH m tg3 t3 (mE [0] rfl rfl (.k3 .nil))))
 exact v (lN m tg0 t0 (lx (.k3 .nil)))
 rintro tg4 ⟨r2,r3⟩ t4 m
 refine v (v ?_)
 cases m
 exact vr λu=>dW.of2 (.inl rfl) (gN _ _ (ow _ _ _) rfl) (gN _ _ (.sc (.int _ _)) rfl) (aU (List.nil_sublist _) u).1 ((dU _ 0 t4 u rfl)) (bD.refl _ _) ⟨rfl,rfl⟩
theorem aHZ:aP Tryz.prog 85=true:=by kernel_rfl
def WK (m:Nat):Option ((Ar 64)):=
 some (⟨[1116352408,1899447441,3049323471,3921009573,961987163,1508970993,2453635748,2870763221,3624381080,310598401,607225278,1426881987,1925078388,2162078206,2614888103,3248222580,3835390401,4022224774,264347078,604807628,770255983,1249150122,1555081692,1996064986,2554220882,2821834349,2952996808,3210313671,3336571891,3584528711,113926993,338241895,666307205,773529912,1294757372,1396182291,1695183700,1986661051,2177026350,2456956037,2730485921,2820302411,3259730800,3345764771,3516065817,3600352804,4094571909,275423344,430227734,506948616,659060556,883997877,958139571,1322822218,1537002063,1747873779,1955562222,2024104815,2227730452,2361852424,2428436474,2756734187,3204031479,3329325298],rfl⟩:Ar 64)
theorem aH0 {w:Nat} {o:(Ar 64)} (h:aF) (m:WK w=some o):
 aM Tryz.prog 144 [] h (λr h'=>r= .agg (cQ o)∧h'=h):=by
 refine fK 2 [.cell 0 181] Tryz.func144 rfl rfl rfl rfl ?_
 unfold WK at m
 refine v (ve λu=>bG (cQ (XI 64)) u MO rfl rfl λk2 K3=>qk K3 rfl (v (bU (B2 [1116352408,1899447441,3049323471,3921009573,961987163,1508970993,2453635748,2870763221,3624381080,310598401,607225278,1426881987,1925078388,2162078206,2614888103,3248222580,3835390401,4022224774,264347078,604807628,770255983,1249150122,1555081692,1996064986,2554220882,2821834349,2952996808,3210313671,3336571891,3584528711,113926993,338241895,666307205,773529912,1294757372,1396182291,1695183700,1986661051,2177026350,2456956037,2730485921,2820302411,3259730800,3345764771,3516065817,3600352804,4094571909,275423344,430227734,506948616,659060556,883997877,958139571,1322822218,1537002063,1747873779,1955562222,2024104815,2227730452,2361852424,2428436474,2756734187,3204031479,3329325298] rfl VF rfl rfl rfl) (ve λu=>aL 0 (cQ (⟨[1116352408,1899447441,3049323471,3921009573,961987163,1508970993,2453635748,2870763221,3624381080,310598401,607225278,1426881987,1925078388,2162078206,2614888103,3248222580,3835390401,4022224774,264347078,604807628,770255983,1249150122,1555081692,1996064986,2554220882,2821834349,2952996808,3210313671,3336571891,3584528711,113926993,338241895,666307205,773529912,1294757372,1396182291,1695183700,1986661051,2177026350,2456956037,2730485921,2820302411,3259730800,3345764771,3516065817,3600352804,4094571909,275423344,430227734,506948616,659060556,883997877,958139571,1322822218,1537002063,1747873779,1955562222,2024104815,2227730452,2361852424,2428436474,2756734187,3204031479,3329325298],rfl⟩:Ar 64)) u rfl rfl rfl rfl TH rfl rfl λK6=>qk K6 rfl ?_))))
 refine v ?_
 cases m
 exact vr λu=>dW.of1 (.inl rfl) (sE (.agg (cQ (⟨[1116352408,1899447441,3049323471,3921009573,961987163,1508970993,2453635748,2870763221,3624381080,310598401,607225278,1426881987,1925078388,2162078206,2614888103,3248222580,3835390401,4022224774,264347078,604807628,770255983,1249150122,1555081692,1996064986,2554220882,2821834349,2952996808,3210313671,3336571891,3584528711,113926993,338241895,666307205,773529912,1294757372,1396182291,1695183700,1986661051,2177026350,2456956037,2730485921,2820302411,3259730800,3345764771,3516065817,3600352804,4094571909,275423344,430227734,506948616,659060556,883997877,958139571,1322822218,1537002063,1747873779,1955562222,2024104815,2227730452,2361852424,2428436474,2756734187,3204031479,3329325298],rfl⟩:Ar 64))) ZR rfl (aW 0 u rfl) rfl) (aU (List.nil_sublist _) u).1 (bD.refl _ _) ⟨rfl,rfl⟩
theorem aCB:aP Tryz.prog 144=true:=by kernel_rfl
def wQ (m:Nat) (q0:List Int):Option (Lp ((List Int)) ((List Int))):=
 if (((IntKind.wrap .i64 ((q0.length:Int)+8)).tmod 64) !=0)=true then ((app q0 ([0]:List Int)).bind λz0=>some (.go z0)) else some (.brk q0)
def wR (m:Nat) (p0:List Int) (q0:List Int) (q1:Int):Option (Lp ((List Int)×Int) ((List Int))):=
 if (decide (0≤q1))=true then (grd (decide (0≤(IntKind.wrap .u64 (8*(IntKind.wrap .u64 q1))))) <| (app q0 ([IntKind.wrap .u8 ((IntKind.wrap .u64 ((IntKind.wrap .u64 (p0.length:Int))*8)).fdiv (2 ^ (min ((IntKind.wrap .u64 (8*(IntKind.wrap .u64 q1))):Int).toNat (IntKind.bits .u64))))]:List Int)).bind λz0=>some (.go (z0,IntKind.wrap .i64 (q1 - 1)))) else some (.brk (q0,q1))
def N7 (m:Nat) (p0:List Int):Option ((List Int)):=
 (app ([]:List Int) p0).bind λz4=>(app z4 ([128]:List Int)).bind λz0=>after (aS (λs=>wQ m s) m z0) λr0=>after (aS (λs=>wR m p0 s.1 s.2) m (r0,7)) λ⟨r1,r2⟩=>some r1
theorem aH1 {w:Nat} {p0:List Int} {o:(List Int)} (h:aF) (m:N7 w p0=some o):
 aM Tryz.prog 145 [.sl none 1 (List.map fX p0)] h (λr h'=>r= .sl none 1 (List.map fX o)∧h'=h):=by
 refine fK 37 [.tmp 2] Tryz.func145 rfl rfl rfl rfl ?_
 unfold N7 at m
 refine v (v (v ?_))
 obtain⟨z4,Z5,m⟩:=aD m
 refine ve λu=>oD (c:=fX) Z5 xQ rfl rfl u nofun rfl λtg6 t7 K8=>qk K8 rfl (bU (eA (List.map fX ([128]:List Int)) xQ rfl rfl rfl rfl) ?_)
 obtain⟨z0,Z0,m⟩:=aD m
 refine ve λu=>fG (c:=fX) 0 Z0 xQ rfl rfl rfl t7 u rfl λtg0 t0 K0=>qk K0 rfl (vs (nW m (σ:=(List Int)) (τ:=Option bT) (λg s=> [(g,.tok 5 1 ((s:List Int).length*1))]) (λg s=>(g=none→s= [])) (λg s=>.c 0 (.sl none 1 (List.map fX p0)) (.c 3 (ow g 1 (List.map fX s)) .nil)) tg0 t0 (lx (.k2 .nil)) ?_ ?_))
 rintro tg1 q0 x t1 m
 replace m:wQ w q0=some x:=m
 unfold wQ at m
 refine v (bU (uU nP t1 rfl) (v ?_))
 apply vi m <;> intro c0 m
 refine v (v (v (bU (eA (List.map fX ([0]:List Int)) xQ rfl rfl rfl rfl) ?_)))
 obtain⟨z1,Z1,m⟩:=aD m
 exact ve λu=>fG (c:=fX) 0 Z1 xQ rfl rfl rfl t1 u rfl λtg2 t2 K1=>qk K1 rfl (eH m tg2 t2 (lx (.k2 .nil)))
 exact v (lN m tg1 t1 (lx (.k2 .nil)))
 rintro tg3 r0 t3 m
 refine v (dH nP rfl (v (nW m (σ:=(List Int)×Int) (τ:=Option bT) (λg s=> [(g,.tok 5 1 ((s.1:List Int).length*1))]) (λg s=>(g=none→s.1= [])) (λg s=>.c 3 (ow g 1 (List.map fX s.1)) (.c 4 (.sc (.int .u64 (IntKind.wrap .u64 ((IntKind.wrap .u64 (p0.length:Int))*8)))) (.c 5 (nZ s.2) .nil))) tg3 t3 (lx (.k3 .nil)) ?_ ?_)))
 rintro tg4 ⟨q1,q2⟩ x t4 m
 replace m:wR w p0 q1 q2=some x:=m
 unfold wR at m
 refine v (v ?_)
 apply vi m <;> intro c1 m
 refine v (v (v (ZD m λ_ m=>bU (eA (List.map fX ([IntKind.wrap .u8 ((IntKind.wrap .u64 ((IntKind.wrap .u64 (p0.length:Int))*8)).fdiv (2 ^ (min ((IntKind.wrap .u64 (8*(IntKind.wrap .u64 q2))):Int).toNat (IntKind.bits .u64))))]:List Int)) xQ rfl rfl rfl rfl) ?_)))
 obtain⟨z2,Z2,m⟩:=aD m
 exact ve λu=>fG (c:=fX) 0 Z2 xQ rfl rfl rfl t4 u rfl λtg5 t5 K2=>qk K2 rfl (v (eH m tg5 t5 (lx (.k3 .nil))))
 exact v (lN m tg4 t4 (lx (.k3 .nil)))
 rintro tg7 ⟨r1,r2⟩ t6 m
 refine v (v ?_)
 obtain rfl:=eP m
 exact vr λu=>dW.of1 (.inl rfl) (gN _ _ (ow _ _ _) rfl) (aU (List.nil_sublist _) u).1 ((dU _ 0 t6 u rfl)) ⟨rfl,rfl⟩
theorem aCC:aP Tryz.prog 145=true:=by kernel_rfl
def uG (m:Nat) (p0:Int) (p1:Int):Option (Int):=
 grd (decide (0≤p1)) <| grd (decide (0≤(IntKind.wrap .u64 (32 - p1)))) <| some (bZ .or .u32 (p0.fdiv (2 ^ (min (p1:Int).toNat (IntKind.bits .u32)))) (IntKind.wrap .u32 (p0*2 ^ (min ((IntKind.wrap .u64 (32 - p1)):Int).toNat (IntKind.bits .u32)))))
theorem z7 {u:Nat} {p0:Int} {p1:Int} {o:Int} (h:aF) (m:uG u p0 p1=some o):
 aM Tryz.prog 146 [.sc (.int .u32 p0),.sc (.int .u64 p1)] h (λr h'=>r= .sc (.int .u32 o)∧h'=h):=by
 refine fK 13 [.tmp 4] Tryz.func146 rfl rfl rfl rfl ?_
 unfold uG at m
 refine v (v (ZD m λ_ m=>ZD m λ_ m=>v ?_))
 cases m
 exact eF rfl
theorem qS:aP Tryz.prog 146=true:=by kernel_rfl
def CV (m:Nat) (y0:(List Int)) (q0:Int) (q1:Int) (q2:Ar 64) (q3:Int):Option (Lp ((Ar 64)×Int) (Lp ((Ar 64)) (Lp ((Ar 64)×Int) (Lp ((Ar 8)×Int) (bH))))):=
 if (decide (q3 < 4))=true then ((ix q2.1 q1).bind λx0=>(ix y0 (IntKind.wrap .i64 ((IntKind.wrap .i64 (q0+(IntKind.wrap .i64 (4*q1))))+q3))).bind λx1=>(ix q2.1 q1).bind λ_=>some (.go (S8 q2 q1.toNat (bZ .or .u32 (IntKind.wrap .u32 (x0*2 ^ (min (8:Int).toNat (IntKind.bits .u32)))) (IntKind.wrap .u32 x1)),IntKind.wrap .i64 (q3+1)))) else some (.brk (q2,q3))
def CW (m:Nat) (y0:(List Int)) (q0:Int) (q1:Ar 64) (q2:Int):Option (Lp ((Ar 64)×Int) (Lp ((Ar 8)×Int) (bH))):=
 if (decide (q2 < 64))=true then (after (if (decide (q2 < 16))=true then (after (aS (λs=>CV m y0 q0 q2 s.1 s.2) m (q1,0)) λ⟨r0,r1⟩=>some (.brk r0)) else (ix q1.1 (IntKind.wrap .i64 (q2 - 15))).bind λx0=>(ix q1.1 (IntKind.wrap .i64 (q2 - 2))).bind λx1=>(ix q1.1 (IntKind.wrap .i64 (q2 - 16))).bind λx2=>(ix q1.1 (IntKind.wrap .i64 (q2 - 7))).bind λx3=>(uG m x0 7).bind λy1=>(uG m x0 18).bind λy2=>(uG m x1 17).bind λy3=>(uG m x1 19).bind λy4=>(ix q1.1 q2).bind λ_=>some (.brk (S8 q1 q2.toNat (IntKind.wrap .u32 ((IntKind.wrap .u32 ((IntKind.wrap .u32 (x2+x3))+(bZ .xor .u32 (bZ .xor .u32 y1 y2) (x0.fdiv (2 ^ (min (3:Int).toNat (IntKind.bits .u32)))))))+(bZ .xor .u32 (bZ .xor .u32 y3 y4) (x1.fdiv (2 ^ (min (10:Int).toNat (IntKind.bits .u32))))))))):Option (Lp ((Ar 64)) (Lp ((Ar 64)×Int) (Lp ((Ar 8)×Int) (bH))))) λj0=>some (.go (j0,IntKind.wrap .i64 (q2+1)))) else some (.brk (q1,q2))
def CX (m:Nat) (y6:(Ar 64)) (r0:Ar 64) (q0:Ar 8) (q1:Int):Option (Lp ((Ar 8)×Int) (Lp ((Ar 8)×Int) (bH))):=
 if (decide (q1 < 64))=true then ((ix q0.1 0).bind λx0=>(ix q0.1 4).bind λx1=>(ix q0.1 7).bind λx2=>(uG m x1 6).bind λy0=>(uG m x1 11).bind λy1=>(uG m x1 25).bind λy2=>(ix q0.1 5).bind λx3=>(ix q0.1 6).bind λx4=>(ix y6.1 q1).bind λx5=>(ix r0.1 q1).bind λx6=>(uG m x0 2).bind λy3=>(uG m x0 13).bind λy4=>(uG m x0 22).bind λy5=>(ix q0.1 1).bind λx7=>(ix q0.1 2).bind λx8=>(ix q0.1 1).bind λx9=>(ix q0.1 2).bind λx10=>(ix q0.1 0).bind λx11=>(ix q0.1 1).bind λx12=>(ix q0.1 2).bind λx13=>(ix q0.1 3).bind λx14=>(ix q0.1 4).bind λx15=>(ix q0.1 5).bind λx16=>(ix q0.1 6).bind λx17=>some (.go ((⟨[IntKind.wrap .u32 ((IntKind.wrap .u32 ((IntKind.wrap .u32 ((IntKind.wrap .u32 ((IntKind.wrap .u32 (x2+(bZ .xor .u32 (bZ .xor .u32 y0 y1) y2)))+(bZ .xor .u32 (bZ .and .u32 x1 x3) (bZ .and .u32 (bZ .xor .u32 (IntKind.max .u32) x1) x4))))+x5))+x6))+(IntKind.wrap .u32 ((bZ .xor .u32 (bZ .xor .u32 y3 y4) y5)+(bZ .xor .u32 (bZ .xor .u32 (bZ .and .u32 x0 x7) (bZ .and .u32 x0 x8)) (bZ .and .u32 x9 x10))))),x11,x12,x13,IntKind.wrap .u32 (x14+(IntKind.wrap .u32 ((IntKind.wrap .u32 ((IntKind.wrap .u32 ((IntKind.wrap .u32 (x2+(bZ .xor .u32 (bZ .xor .u32 y0 y1) y2)))+(bZ .xor .u32 (bZ .and .u32 x1 x3) (bZ .and .u32 (bZ .xor .u32 (IntKind.max .u32) x1) x4))))+x5))+x6))),x15,x16,x17],rfl⟩:Ar 8),IntKind.wrap .i64 (q1+1)))) else some (.brk (q0,q1))
def CY (m:Nat) (r0:Ar 8) (q0:Ar 8) (q1:Int):Option (Lp ((Ar 8)×Int) (Lp ((Ar 8)×Int) (bH))):=
 if (decide (q1 < 8))=true then ((ix q0.1 q1).bind λx0=>(ix r0.1 q1).bind λx1=>(ix q0.1 q1).bind λ_=>some (.go (S8 q0 q1.toNat (IntKind.wrap .u32 (x0+x1)),IntKind.wrap .i64 (q1+1)))) else some (.brk (q0,q1))
def CZ (m:Nat) (y6:(Ar 64)) (y0:(List Int)) (q0:Ar 8) (q1:Int):Option (Lp ((Ar 8)×Int) (bH)):=
 if (decide (q1 < (y0.length:Int)))=true then (after (aS (λs=>CW m y0 q1 s.1 s.2) m ((XI 64),0)) λ⟨r0,r1⟩=>after (aS (λs=>CX m y6 r0 s.1 s.2) m (q0,0)) λ⟨r2,r3⟩=>after (aS (λs=>CY m r2 s.1 s.2) m (q0,0)) λ⟨r4,r5⟩=>some (.go (r4,IntKind.wrap .i64 (q1+64)))) else some (.brk (q0,q1))
def wS (m:Nat) (r0:Ar 8) (q0:bH) (q1:Int):Option (Lp (bH×Int) (bH)):=
 if (decide (q1 < 32))=true then ((ix r0.1 (IntKind.wrap .i64 (q1.tdiv 4))).bind λx0=>grd (decide (0≤(IntKind.wrap .u64 (IntKind.wrap .i64 (24 - (IntKind.wrap .i64 (8*(q1.tmod 4)))))))) <| (ix q0.1 q1).bind λ_=>some (.go (S8 q0 q1.toNat (IntKind.wrap .u8 (x0.fdiv (2 ^ (min ((IntKind.wrap .u64 (IntKind.wrap .i64 (24 - (IntKind.wrap .i64 (8*(q1.tmod 4)))))):Int).toNat (IntKind.bits .u32))))),IntKind.wrap .i64 (q1+1)))) else some (.brk (q0,q1))
def XQ (m:Nat) (p0:List Int):Option (bH):=
 (WK m).bind λy6=>(N7 m p0).bind λy0=>after (aS (λs=>CZ m y6 y0 s.1 s.2) m ((⟨[1779033703,3144134277,1013904242,2773480762,1359893119,2600822924,528734635,1541459225],rfl⟩:Ar 8),0)) λ⟨r0,r1⟩=>after (aS (λs=>wS m r0 s.1 s.2) m (gW,0)) λ⟨r2,r3⟩=>some r2
theorem W87 {w:Nat} {p0:List Int} {o:bH} (h:aF) (m:XQ w p0=some o):
 aM Tryz.prog 87 [.sl none 1 (List.map fX p0)] h (λr h'=>r= .agg (bC o)∧h'=h):=by
 refine fK 208 [.cell 2 36] Tryz.func87 rfl rfl rfl rfl ?_
 unfold XQ at m
 refine v (ve λu=>bG (bC gW) u L9 rfl rfl λk2 K3=>qk K3 rfl (v (vk aH0 aCB m rfl rfl λy6 m=>ve λu=>bG (cQ (XI 64)) u MO rfl rfl λk8 K9=>qk K9 rfl (ve λu=>aL 0 (cQ y6) u rfl rfl rfl rfl TH rfl rfl λK0=>qk K0 rfl (v (bU (B2 [1779033703,3144134277,1013904242,2773480762,1359893119,2600822924,528734635,1541459225] rfl MQ rfl rfl rfl) (ve λu=>bG (dV (XI 8)) u TJ rfl rfl λk13 K1=>qk K1 rfl (ve λu=>aL 0 (dV (⟨[1779033703,3144134277,1013904242,2773480762,1359893119,2600822924,528734635,1541459225],rfl⟩:Ar 8)) u rfl rfl rfl rfl MP rfl rfl λK2=>qk K2 rfl (v (vk aH1 aCC m rfl rfl λy0 m=>v (jP m (σ:=(Ar 8)×Int) (λs=> [(some k13,.obj 183 (dV s.1)),(some k8,.obj 181 (cQ y6)),(some k2,.obj 36 (bC gW))]) (λs=>.c 2 (.ptr k2 0) (.c 3 (.ptr k8 0) (.c 4 (.ptr k13 0) (.c 5 (.sl none 1 (List.map fX y0)) (.c 6 (nZ s.2) .nil))))) (lx (.k5 .nil)) ?_ ?_)))))))))))
 rintro _ ⟨q0,q1⟩ x m
 replace m:CZ w y6 y0 q0 q1=some x:=m
 unfold CZ at m
 refine v (dH nP rfl (v ?_))
 apply vi m <;> intro c0 m
 refine v (v (v (ve λu=>bG (cQ (XI 64)) u MO rfl rfl λk1783 K4=>qk K4 rfl (v (jP m (σ:=(Ar 64)×Int) (λs=> [(some k1783,.obj 181 (cQ s.1)),(some k13,.obj 183 (dV q0)),(some k8,.obj 181 (cQ y6)),(some k2,.obj 36 (bC gW))]) (λs=>.c 2 (.ptr k2 0) (.c 3 (.ptr k8 0) (.c 4 (.ptr k13 0) (.c 5 (.sl none 1 (List.map fX y0)) (.c 6 (nZ q1) (.c 7 (.ptr k1783 0) (.c 8 (nZ s.2) .nil))))))) (lx (.k7 .nil)) ?_ ?_)))))
 rintro _ ⟨q2,q3⟩ x m
 replace m:CW w y0 q1 q2 q3=some x:=m
 unfold CW at m
 refine v (v ?_)
 apply vi m <;> intro c1 m
 refine v (vs (fN m (σ:=(Ar 64)) (λs=> [(some k1783,.obj 181 (cQ s)),(some k13,.obj 183 (dV q0)),(some k8,.obj 181 (cQ y6)),(some k2,.obj 36 (bC gW))]) (λs=>.c 2 (.ptr k2 0) (.c 3 (.ptr k8 0) (.c 4 (.ptr k13 0) (.c 5 (.sl none 1 (List.map fX y0)) (.c 6 (nZ q1) (.c 7 (.ptr k1783 0) (.c 8 (nZ q3) .nil))))))) (λx m=> ?_) ?_))
 refine v (v (v ?_))
 apply vi m <;> intro c2 m
 refine v (jP m (σ:=(Ar 64)×Int) (λs=> [(some k1783,.obj 181 (cQ s.1)),(some k13,.obj 183 (dV q0)),(some k8,.obj 181 (cQ y6)),(some k2,.obj 36 (bC gW))]) (λs=>.c 2 (.ptr k2 0) (.c 3 (.ptr k8 0) (.c 4 (.ptr k13 0) (.c 5 (.sl none 1 (List.map fX y0)) (.c 6 (nZ q1) (.c 7 (.ptr k1783 0) (.c 8 (nZ q3) (.c 9 (nZ s.2) .nil)))))))) (lx (.k8 .nil)) ?_ ?_)
 rintro _ ⟨q4,q5⟩ x m
 replace m:CV w y0 q1 q3 q4 q5=some x:=m
 unfold CV at m
 refine v (v ?_)
 apply vi m <;> intro c3 m
 refine v (v (v (vz [(17,some k1783,.obj 181 (cQ q4))] mixed (λu=>⟨λ_=>aO 0 u rfl,trivial⟩) λu=>zI 0 rfl rfl (zI 1 rfl rfl ?_))))
 obtain⟨x0,X0,m⟩:=aD m
 refine zC 2 rfl (dS (y:=q4) X0 sQ rfl rfl) (zO 3 rfl (λ_ _ hi hB=>eD (y:=q4) 0 X0 iJ rfl (At.s (fS.get 0 hi rfl (hB 17 (by kernel_rfl)))) (eE _)) (zC 4 rfl (UF rfl rfl rfl (by decide)) (zC 5 rfl (fA (.sl _ _ _) rfl) (zI 6 rfl rfl (zI 7 rfl rfl (zC 8 rfl (mN rfl rfl rfl trivial) (zC 9 rfl (mN rfl rfl rfl trivial) (zI 10 rfl rfl (zC 11 rfl (mN rfl rfl rfl trivial) ?_)))))))))
 obtain⟨x1,X1,m⟩:=aD m
 refine zC 12 rfl (lP X1 MC rfl rfl) (zC 13 rfl (lW (.sc (.int .u8 x1)) D7 rfl rfl) (zC 14 rfl (QG ti5 ZQ rfl) (zC 15 rfl (mN rfl rfl rfl trivial) ?_)))
 obtain⟨_,X2,m⟩:=aD m
 refine zC 16 rfl (dS (y:=q4) X2 sQ rfl rfl) (zE 17 rfl (wJ (y:=q4) (v:=bZ .or .u32 (IntKind.wrap .u32 (x0*2 ^ (min (8:Int).toNat (IntKind.bits .u32)))) (IntKind.wrap .u32 x1)) 0 u X2 rfl rfl rfl MN λK5=>⟨⟨λe=>absurd e (by decide),trivial⟩, ?_⟩))
 exact zX (qk (f:=GG 57 _ _ _ _ _ _ _ _ _ _ _ _ _ _ _ _ _ _) K5 rfl (v (LY m)))
 exact v (bq8 m)
 rintro _ ⟨r0,r1⟩ m
 exact v (B5 m)
 refine v (v (vq (by kernel_rfl) ?_))
 obtain⟨x2,X3,m⟩:=aD m
 refine bU (dS (y:=q2) X3 sQ rfl rfl) (vn (λu=>eD (y:=q2) 0 X3 iJ rfl (aW 0 u rfl) (eE _)) ?_)
 obtain⟨x3,X4,m⟩:=aD m
 refine bU (dS (y:=q2) X4 sQ rfl rfl) (vn (λu=>eD (y:=q2) 0 X4 iJ rfl (aW 0 u rfl) (eE _)) (v (vz [(29,some k1783,.obj 181 (cQ q2))] mixed (λu=>⟨λ_=>aO 0 u rfl,trivial⟩) λu=>zI 0 rfl rfl (zI 1 rfl rfl (zC 2 rfl (mN rfl rfl rfl trivial) ?_)))))
 obtain⟨x4,X5,m⟩:=aD m
 refine zC 3 rfl (dS (y:=q2) X5 sQ rfl rfl) (zO 4 rfl (λ_ _ hi hB=>eD (y:=q2) 0 X5 iJ rfl (At.s (fS.get 0 hi rfl (hB 29 (by kernel_rfl)))) (eE _)) (zI 5 rfl rfl (zC 6 rfl (mN rfl rfl rfl trivial) ?_)))
 obtain⟨x5,X6,m⟩:=aD m
 refine zC 7 rfl (dS (y:=q2) X6 sQ rfl rfl) (zO 8 rfl (λ_ _ hi hB=>eD (y:=q2) 0 X6 iJ rfl (At.s (fS.get 0 hi rfl (hB 29 (by kernel_rfl)))) (eE _)) (zC 9 rfl (mN rfl rfl rfl trivial) (zI 10 rfl rfl ?_)))
 obtain⟨y1,Y0,m⟩:=aD m
 refine zC 11 rfl (bV (z7 _ Y0) rfl qS rfl) (zI 12 rfl rfl ?_)
 obtain⟨y2,Y1,m⟩:=aD m
 refine zC 13 rfl (bV (z7 _ Y1) rfl qS rfl) (zC 14 rfl (mN rfl rfl rfl trivial) (zI 15 rfl rfl (zC 16 rfl (UF rfl rfl rfl (by decide)) (zC 17 rfl (mN rfl rfl rfl trivial) (zC 18 rfl (mN rfl rfl rfl trivial) (zI 19 rfl rfl ?_))))))
 obtain⟨y3,Y2,m⟩:=aD m
 refine zC 20 rfl (bV (z7 _ Y2) rfl qS rfl) (zI 21 rfl rfl ?_)
 obtain⟨y4,Y3,m⟩:=aD m
 refine zC 22 rfl (bV (z7 _ Y3) rfl qS rfl) (zC 23 rfl (mN rfl rfl rfl trivial) (zI 24 rfl rfl (zC 25 rfl (UF rfl rfl rfl (by decide)) (zC 26 rfl (mN rfl rfl rfl trivial) (zC 27 rfl (mN rfl rfl rfl trivial) ?_)))))
 obtain⟨_,X7,m⟩:=aD m
 refine zC 28 rfl (dS (y:=q2) X7 sQ rfl rfl) (zE 29 rfl (wJ (y:=q2) (v:=IntKind.wrap .u32 ((IntKind.wrap .u32 ((IntKind.wrap .u32 (x4+x5))+(bZ .xor .u32 (bZ .xor .u32 y1 y2) (x2.fdiv (2 ^ (min (3:Int).toNat (IntKind.bits .u32)))))))+(bZ .xor .u32 (bZ .xor .u32 y3 y4) (x3.fdiv (2 ^ (min (10:Int).toNat (IntKind.bits .u32))))))) 0 u X7 rfl rfl rfl MN λK6=>⟨⟨λe=>absurd e (by decide),trivial⟩, ?_⟩))
 exact zX (qk (f:=aEF 94 _ _ _ _ _ _ _ _ _ _ _ _ _ _ _ _ _ _ _ _ _ _ _ _ _ _ _ _ _ _) K6 rfl (B5 m))
 rintro _ j0 m
 exact v (B5 m)
 exact v (bq7 m)
 rintro _ ⟨r2,r3⟩ m
 refine v (vl 1 (.agg (dV q0)) ZS rfl rfl rfl (ve λu=>bG (dV (XI 8)) u TJ rfl rfl λk2413 K7=>qk K7 rfl (ve λu=>aL 0 (dV q0) u rfl rfl rfl rfl MP rfl rfl λK8=>qk K8 rfl (v (jP m (σ:=(Ar 8)×Int) (λs=> [(some k2413,.obj 183 (dV s.1)),(some k1783,.obj 181 (cQ r2)),(some k13,.obj 183 (dV q0)),(some k8,.obj 181 (cQ y6)),(some k2,.obj 36 (bC gW))]) (λs=>.c 2 (.ptr k2 0) (.c 3 (.ptr k8 0) (.c 4 (.ptr k13 0) (.c 5 (.sl none 1 (List.map fX y0)) (.c 6 (nZ q1) (.c 7 (.ptr k1783 0) (.c 12 (.ptr k2413 0) (.c 13 (nZ s.2) .nil)))))))) (lx (.k8 .nil)) ?_ ?_)))))
 rintro _ ⟨q6,q7⟩ x m
 replace m:CX w y6 r2 q6 q7=some x:=m
 unfold CX at m
 refine v (v ?_)
 apply vi m <;> intro c4 m
 refine v (v (v (vq (by kernel_rfl) ?_)))
 obtain⟨x6,X8,m⟩:=aD m
 refine bU (dS (y:=q6) X8 kB rfl rfl) (vn (λu=>eD (y:=q6) 0 X8 iJ rfl (aW 0 u rfl) (eE _)) ?_)
 obtain⟨x7,X9,m⟩:=aD m
 refine bU (dS (y:=q6) X9 kB rfl rfl) (vn (λu=>eD (y:=q6) 0 X9 iJ rfl (aW 0 u rfl) (eE _)) (v (vq (by kernel_rfl) ?_)))
 obtain⟨x8,X10,m⟩:=aD m
 refine bU (dS (y:=q6) X10 kB rfl rfl) (vn (λu=>eD (y:=q6) 0 X10 iJ rfl (aW 0 u rfl) (eE _)) (vk z7 qS m rfl rfl λy5 m=>vk z7 qS m rfl rfl λy7 m=>vk z7 qS m rfl rfl λy8 m=> ?_))
 obtain⟨x9,X11,m⟩:=aD m
 refine bU (dS (y:=q6) X11 kB rfl rfl) (vn (λu=>eD (y:=q6) 0 X11 iJ rfl (aW 0 u rfl) (eE _)) (bU (YV rfl rfl) ?_))
 obtain⟨x10,X12,m⟩:=aD m
 refine bU (dS (y:=q6) X12 kB rfl rfl) (vn (λu=>eD (y:=q6) 0 X12 iJ rfl (aW 0 u rfl) (eE _)) ?_)
 obtain⟨x11,X13,m⟩:=aD m
 refine bU (dS (y:=y6) X13 sQ rfl rfl) (vn (λu=>eD (y:=y6) 0 X13 iJ rfl (aW 3 u rfl) (eE _)) ?_)
 obtain⟨x12,X14,m⟩:=aD m
 refine bU (dS (y:=r2) X14 sQ rfl rfl) (vn (λu=>eD (y:=r2) 0 X14 iJ rfl (aW 1 u rfl) (eE _)) (v (vq (by kernel_rfl) (vk z7 qS m rfl rfl λy9 m=>vk z7 qS m rfl rfl λy10 m=>vk z7 qS m rfl rfl λy11 m=> ?_))))
 obtain⟨x13,X15,m⟩:=aD m
 refine bU (dS (y:=q6) X15 kB rfl rfl) (vn (λu=>eD (y:=q6) 0 X15 iJ rfl (aW 0 u rfl) (eE _)) ?_)
 obtain⟨x14,X16,m⟩:=aD m
 refine bU (dS (y:=q6) X16 kB rfl rfl) (vn (λu=>eD (y:=q6) 0 X16 iJ rfl (aW 0 u rfl) (eE _)) ?_)
 obtain⟨x15,X17,m⟩:=aD m
 refine bU (dS (y:=q6) X17 kB rfl rfl) (vn (λu=>eD (y:=q6) 0 X17 iJ rfl (aW 0 u rfl) (eE _)) ?_)
 obtain⟨x16,X18,m⟩:=aD m
 refine bU (dS (y:=q6) X18 kB rfl rfl) (vn (λu=>eD (y:=q6) 0 X18 iJ rfl (aW 0 u rfl) (eE _)) (v ?_))
 obtain⟨x17,X19,m⟩:=aD m
 refine bU (dS (y:=q6) X19 kB rfl rfl) (vn (λu=>eD (y:=q6) 0 X19 iJ rfl (aW 0 u rfl) (eE _)) ?_)
 obtain⟨x18,X20,m⟩:=aD m
 refine bU (dS (y:=q6) X20 kB rfl rfl) (vn (λu=>eD (y:=q6) 0 X20 iJ rfl (aW 0 u rfl) (eE _)) ?_)
 obtain⟨x19,X21,m⟩:=aD m
 refine bU (dS (y:=q6) X21 kB rfl rfl) (vn (λu=>eD (y:=q6) 0 X21 iJ rfl (aW 0 u rfl) (eE _)) ?_)
 obtain⟨x20,X22,m⟩:=aD m
 refine bU (dS (y:=q6) X22 kB rfl rfl) (vn (λu=>eD (y:=q6) 0 X22 iJ rfl (aW 0 u rfl) (eE _)) ?_)
 obtain⟨x21,X23,m⟩:=aD m
 refine bU (dS (y:=q6) X23 kB rfl rfl) (vn (λu=>eD (y:=q6) 0 X23 iJ rfl (aW 0 u rfl) (eE _)) ?_)
 obtain⟨x22,X24,m⟩:=aD m
 refine bU (dS (y:=q6) X24 kB rfl rfl) (vn (λu=>eD (y:=q6) 0 X24 iJ rfl (aW 0 u rfl) (eE _)) ?_)
 obtain⟨x23,X25,m⟩:=aD m
 refine bU (dS (y:=q6) X25 kB rfl rfl) (vn (λu=>eD (y:=q6) 0 X25 iJ rfl (aW 0 u rfl) (eE _)) (bU (B2 [IntKind.wrap .u32 ((IntKind.wrap .u32 ((IntKind.wrap .u32 ((IntKind.wrap .u32 ((IntKind.wrap .u32 (x8+(bZ .xor .u32 (bZ .xor .u32 y5 y7) y8)))+(bZ .xor .u32 (bZ .and .u32 x7 x9) (bZ .and .u32 (bZ .xor .u32 (IntKind.max .u32) x7) x10))))+x11))+x12))+(IntKind.wrap .u32 ((bZ .xor .u32 (bZ .xor .u32 y9 y10) y11)+(bZ .xor .u32 (bZ .xor .u32 (bZ .and .u32 x6 x13) (bZ .and .u32 x6 x14)) (bZ .and .u32 x15 x16))))),x17,x18,x19,IntKind.wrap .u32 (x20+(IntKind.wrap .u32 ((IntKind.wrap .u32 ((IntKind.wrap .u32 ((IntKind.wrap .u32 (x8+(bZ .xor .u32 (bZ .xor .u32 y5 y7) y8)))+(bZ .xor .u32 (bZ .and .u32 x7 x9) (bZ .and .u32 (bZ .xor .u32 (IntKind.max .u32) x7) x10))))+x11))+x12))),x21,x22,x23] rfl MQ rfl rfl rfl) (ve λu=>aL 0 (dV (⟨[IntKind.wrap .u32 ((IntKind.wrap .u32 ((IntKind.wrap .u32 ((IntKind.wrap .u32 ((IntKind.wrap .u32 (x8+(bZ .xor .u32 (bZ .xor .u32 y5 y7) y8)))+(bZ .xor .u32 (bZ .and .u32 x7 x9) (bZ .and .u32 (bZ .xor .u32 (IntKind.max .u32) x7) x10))))+x11))+x12))+(IntKind.wrap .u32 ((bZ .xor .u32 (bZ .xor .u32 y9 y10) y11)+(bZ .xor .u32 (bZ .xor .u32 (bZ .and .u32 x6 x13) (bZ .and .u32 x6 x14)) (bZ .and .u32 x15 x16))))),x17,x18,x19,IntKind.wrap .u32 (x20+(IntKind.wrap .u32 ((IntKind.wrap .u32 ((IntKind.wrap .u32 ((IntKind.wrap .u32 (x8+(bZ .xor .u32 (bZ .xor .u32 y5 y7) y8)))+(bZ .xor .u32 (bZ .and .u32 x7 x9) (bZ .and .u32 (bZ .xor .u32 (IntKind.max .u32) x7) x10))))+x11))+x12))),x21,x22,x23],rfl⟩:Ar 8)) u rfl rfl rfl rfl MP rfl rfl λK10=>qk K10 rfl ?_)))
 exact v (LY m)
 exact v (bq8 m)
 rintro _ ⟨r4,r5⟩ m
 refine v (jP m (σ:=(Ar 8)×Int) (λs=> [(some k2413,.obj 183 (dV r4)),(some k1783,.obj 181 (cQ r2)),(some k13,.obj 183 (dV s.1)),(some k8,.obj 181 (cQ y6)),(some k2,.obj 36 (bC gW))]) (λs=>.c 2 (.ptr k2 0) (.c 3 (.ptr k8 0) (.c 4 (.ptr k13 0) (.c 5 (.sl none 1 (List.map fX y0)) (.c 6 (nZ q1) (.c 12 (.ptr k2413 0) (.c 18 (nZ s.2) .nil))))))) (lx (.k7 .nil)) ?_ ?_)
 rintro _ ⟨q8,q9⟩ x m
 replace m:CY w r4 q8 q9=some x:=m
 unfold CY at m
 refine v (v ?_)
 apply vi m <;> intro c5 m
 refine v (v (v (vz [(8,some k13,.obj 183 (dV q8)),(1000000,some k2413,.obj 183 (dV r4))] mixed (λu=>⟨λ_=>aO 2 u rfl,λ_=>aO 0 u rfl,trivial⟩) λu=>zI 0 rfl rfl ?_)))
 obtain⟨x24,X26,m⟩:=aD m
 refine zC 1 rfl (dS (y:=q8) X26 kB rfl rfl) (zO 2 rfl (λ_ _ hi hB=>eD (y:=q8) 0 X26 iJ rfl (At.s (fS.get 0 hi rfl (hB 8 (by kernel_rfl)))) (eE _)) (zI 3 rfl rfl ?_))
 obtain⟨x25,X27,m⟩:=aD m
 refine zC 4 rfl (dS (y:=r4) X27 kB rfl rfl) (zO 5 rfl (λ_ _ hi hB=>eD (y:=r4) 0 X27 iJ rfl (At.s (fS.get 1 hi rfl (hB 1000000 (by kernel_rfl)))) (eE _)) (zC 6 rfl (mN rfl rfl rfl trivial) ?_))
 obtain⟨_,X28,m⟩:=aD m
 refine zC 7 rfl (dS (y:=q8) X28 kB rfl rfl) (zE 8 rfl (wJ (y:=q8) (v:=IntKind.wrap .u32 (x24+x25)) 2 u X28 rfl rfl rfl MN λK12=>⟨⟨λe=>absurd e (by decide),λ_=>aO 0 K12 rfl,trivial⟩, ?_⟩))
 exact zX (qk (f:=TA 189 _ _ _ _ _ _ _ _ _) K12 rfl (v (B5 m)))
 exact v (bq7 m)
 rintro _ ⟨r6,r7⟩ m
 exact v (zH m (mE [2,3,4] rfl rfl (.k5 .nil)))
 exact v (XJ m)
 rintro _ ⟨r8,r9⟩ m
 refine v (ve λu=>bG (bC gW) u L9 rfl rfl λk2657 K13=>qk K13 rfl (v (jP m (σ:=bH×Int) (λs=> [(some k2657,.obj 36 (bC s.1)),(some k13,.obj 183 (dV r8)),(some k8,.obj 181 (cQ y6)),(some k2,.obj 36 (bC gW))]) (λs=>.c 2 (.ptr k2 0) (.c 4 (.ptr k13 0) (.c 19 (.ptr k2657 0) (.c 20 (nZ s.2) .nil)))) (lx (.k4 .nil)) ?_ ?_)))
 rintro _ ⟨q10,q11⟩ x m
 replace m:wS w r8 q10 q11=some x:=m
 unfold wS at m
 refine v (v ?_)
 apply vi m <;> intro c6 m
 refine v (v (v ?_))
 obtain⟨x26,X29,m⟩:=aD m
 refine bU (dS (y:=r8) X29 kB rfl rfl) (vn (λu=>eD (y:=r8) 0 X29 iJ rfl (aW 1 u rfl) (eE _)) (ZD m λ_ m=> ?_))
 obtain⟨_,X30,m⟩:=aD m
 exact bU (lX X30 xN rfl rfl) (ve λu=>wJ (y:=q10) (v:=IntKind.wrap .u8 (x26.fdiv (2 ^ (min ((IntKind.wrap .u64 (IntKind.wrap .i64 (24 - (IntKind.wrap .i64 (8*(q11.tmod 4)))))):Int).toNat (IntKind.bits .u32))))) 0 u X30 rfl rfl rfl sz5 λK15=>qk K15 rfl (v (fY m)))
 exact v (wE m)
 rintro _ ⟨r10,r11⟩ m
 refine v (vl 0 (.agg (bC r10)) eY rfl rfl rfl (ve λu=>aL 3 (bC r10) u rfl rfl rfl rfl L8 rfl rfl λK17=>qk K17 rfl (v ?_)))
 obtain rfl:=eP m
 exact vr λu=>dW.of1 (.inl rfl) (sE (.agg (bC r10)) eY rfl (aW 3 u rfl) rfl) (aU (List.nil_sublist _) u).1 (bD.refl _ _) ⟨rfl,rfl⟩
theorem aCD:aP Tryz.prog 87=true:=by kernel_rfl
open Go.Vm
def wT (m:Nat) (p0:List dM) (q0:Int):Option (Lp (Int) (Int)):=
 if (decide (q0 < (p0.length:Int)))=true then (after ((ix p0 q0).bind λx0=>(CE m x0.Path).bind λy0=>if (!y0)=true then (some (.brk true)) else if (decide (0 < q0))=true then ((ix p0 q0).bind λx1=>(ix p0 (IntKind.wrap .i64 (q0 - 1))).bind λx2=>some (.brk (Op.bytesLess x1.Path.toList x2.Path.toList || x1.Path.toList==x2.Path.toList))) else some (.brk false):Option (Lp (Bool) (Lp (Int) (Int)))) λj0=>if j0=true then (some (.ret 1)) else some (.go (IntKind.wrap .i64 (q0+1)))) else some (.brk q0)
def N8 (m:Nat) (p0:List dM):Option (Int):=
 (KA m p0).bind λy4=>if y4=true then (some 2) else after (aS (λs=>wT m p0 s) m 0) λr0=>some 0
theorem aH2 {u:Nat} {p0:List dM} {o:Int} (h:aF) (m:N8 u p0=some o):
 aM Tryz.prog 142 [.sl none 2 (List.map eK p0)] h (λr h'=>r=nZ o∧h'=h):=by
 refine fK 37 [.tmp 2] Tryz.func142 rfl rfl rfl rfl ?_
 unfold N8 at m
 refine v (v (vk aB9 T0 m rfl rfl λ_ m=>v ?_))
 apply vi m <;> intro c6 m
 refine v (v ?_)
 obtain rfl:=eP m
 exact eF rfl
 refine v (v (jP m (σ:=Int) (λs=> []) (λs=>.c 0 (.sl none 2 (List.map eK p0)) (.c 3 (nZ s) .nil)) (lx (.k2 .nil)) ?_ ?_))
 rintro _ q0 x m
 replace m:wT u p0 q0=some x:=m
 unfold wT at m
 refine v (dH zS rfl (v ?_))
 apply vi m <;> intro c0 m
 refine v (v (vs (fN m (σ:=Bool) (λs=> []) (λs=>.c 0 (.sl none 2 (List.map eK p0)) (.c 3 (nZ q0) (.c 36 (.sc (.bool s)) .nil))) (λx m=> ?_) ?_)))
 refine v (vq (by kernel_rfl) (vx m pC rfl rfl λ_ _ m=>vk MY EG m rfl rfl λ_ m=> ?_))
 apply vi m <;> intro b0 m
 rw[b0]
 exact gD m
 rw[b0]
 apply vi m <;> intro b1 m
 rw[b1]
 exact vx m pC rfl rfl λ_ _ m=>vx m pC rfl rfl λ_ _ m=>bU (F3 rfl rfl rfl trivial) (gD m)
 rw[b1]
 exact gD m
 rintro _ j0 m
 refine v ?_
 apply vi m <;> intro c1 m
 refine v (v (fZ m λm=> ?_))
 obtain rfl:=eP m
 exact eF rfl
 exact v (v (wK m))
 exact v (KR m)
 rintro _ r0 m
 refine v (v ?_)
 obtain rfl:=eP m
 exact eF rfl
theorem aCE:aP Tryz.prog 142=true:=by kernel_rfl
def wU (m:Nat) (p0:List Int) (q0:Int) (q1:Int):Option (Lp (Int×Int) (Int)):=
 if (decide (q1 < (p0.length:Int)))=true then ((ix p0 q1).bind λx0=>after (if (decide (8≤(IntKind.wrap .i64 (q1+1))))=true then (if (((IntKind.wrap .u32 ((IntKind.wrap .u32 (q0*2))+(IntKind.wrap .u32 ((IntKind.wrap .u32 ((IntKind.wrap .u32 x0)+1))*2654435761)))).fdiv (2 ^ (min (28:Int).toNat (IntKind.bits .u32))))==0)=true then (some (.brk true)) else some (.brk ((IntKind.wrap .i64 (q1+1))==64))) else some (.brk ((IntKind.wrap .i64 (q1+1))==64)):Option (Lp (Bool) (Lp (Int×Int) (Int)))) λj0=>if j0=true then (some (.ret (IntKind.wrap .i64 (q1+1)))) else some (.go (IntKind.wrap .u32 ((IntKind.wrap .u32 (q0*2))+(IntKind.wrap .u32 ((IntKind.wrap .u32 ((IntKind.wrap .u32 x0)+1))*2654435761))),IntKind.wrap .i64 (q1+1)))) else some (.brk (q0,q1))
def N9 (m:Nat) (p0:List Int):Option (Int):=
 after (aS (λs=>wU m p0 s.1 s.2) m (0,0)) λ⟨r0,r1⟩=>some (p0.length:Int)
theorem aH3 {u:Nat} {p0:List Int} {o:Int} (h:aF) (m:N9 u p0=some o):
 aM Tryz.prog 184 [.sl none 1 (List.map fX p0)] h (λr h'=>r=nZ o∧h'=h):=by
 refine fK 38 [.tmp 2] Tryz.func184 rfl rfl rfl rfl ?_
 unfold N9 at m
 refine v (v (v (jP m (σ:=Int×Int) (λs=> []) (λs=>.c 0 (.sl none 1 (List.map fX p0)) (.c 3 (.sc (.int .u32 s.1)) (.c 4 (nZ s.2) .nil))) (lx (.k3 .nil)) ?_ ?_)))
 rintro _ ⟨q0,q1⟩ x m
 replace m:wU u p0 q0 q1=some x:=m
 unfold wU at m
 refine v (dH nP rfl (v ?_))
 apply vi m <;> intro c0 m
 refine v (v (v (vx m MC rfl rfl λx0 _ m=>vs (fN m (σ:=Bool) (λs=> []) (λs=>.c 0 (.sl none 1 (List.map fX p0)) (.c 3 (.sc (.int .u32 (IntKind.wrap .u32 ((IntKind.wrap .u32 (q0*2))+(IntKind.wrap .u32 ((IntKind.wrap .u32 ((IntKind.wrap .u32 x0)+1))*2654435761)))))) (.c 4 (nZ q1) (.c 33 (.sc (.bool s)) .nil)))) (λx m=> ?_) ?_))))
 refine v ?_
 apply vi m <;> intro b0 m
 rw[b0]
 apply vi m <;> intro b1 m
 rw[b1]
 exact fY m
 rw[b1]
 exact fY m
 rw[b0]
 exact fY m
 rintro _ j0 m
 refine v ?_
 apply vi m <;> intro c1 m
 refine v (v (fZ m λm=> ?_))
 cases m
 exact eF rfl
 exact v (v (gD m))
 exact v (Fq m)
 rintro _ ⟨r0,r1⟩ m
 refine v (dH nP rfl (v ?_))
 cases m
 exact eF rfl
theorem aCF:aP Tryz.prog 184=true:=by kernel_rfl
def wV (m:Nat) (q0:List (List Int)) (q1:List Int):Option (Lp ((List (List Int))×(List Int)) ((List (List Int)))):=
 if (decide (0 < (q1.length:Int)))=true then ((N9 m q1).bind λy0=>(slc q1 0 y0).bind λx0=>(vI m x0).bind λy1=>(app q0 ([y1]:List (List Int))).bind λz0=>(slc q1 y0 (q1).length).bind λx1=>some (.go (z0,x1))) else some (.brk (q0,q1))
def OA (m:Nat) (p0:List Int):Option ((List (List Int))):=
 after (aS (λs=>wV m s.1 s.2) m ([],p0)) λ⟨r0,r1⟩=>some r0
theorem aH4 {w:Nat} {p0:List Int} {o:(List (List Int))} (h:aF) (m:OA w p0=some o):
 aM Tryz.prog 143 [.sl none 1 (List.map fX p0)] h (λr h'=>r= .sl none 1 (List.map hX o)∧h'=h):=by
 refine fK 21 [.tmp 2] Tryz.func143 rfl rfl rfl rfl ?_
 unfold OA at m
 refine v (v (vs (qE (AS (.tok 41 1 (([]:List (List Int)).length*1)) 3 (ow none 1 (List.map hX [])) (gQ _ _)) (nW m (σ:=(List (List Int))×(List Int)) (τ:=Option bT) (λg s=> [(g,.tok 41 1 ((s.1:List (List Int)).length*1))]) (λg s=>(g=none→s.1= [])) (λg s=>.c 0 (.sl none 1 (List.map fX s.2)) (.c 3 (ow g 1 (List.map hX s.1)) .nil)) none (λ_=>rfl) (lx (.k2 .nil)) ?_ ?_))))
 rintro tg0 ⟨q0,q1⟩ x t0 m
 replace m:wV w q0 q1=some x:=m
 unfold wV at m
 refine v (dH nP rfl (v ?_))
 apply vi m <;> intro c0 m
 refine v (v (v (vk aH3 aCF m rfl rfl λ_ m=>v ?_)))
 obtain⟨_,X0,m⟩:=aD m
 refine bU (o5 X0 MC rfl rfl rfl rfl) (vk NB EN m rfl rfl λy0 m=>bU (eA (List.map hX ([y0]:List (List Int))) AX rfl rfl rfl rfl) ?_)
 obtain⟨z0,Z0,m⟩:=aD m
 refine ve λu=>fG (c:=hX) 0 Z0 AX rfl rfl rfl t0 u rfl λtg1 t1 K0=>qk K0 rfl (v ?_)
 obtain⟨_,X1,m⟩:=aD m
 exact bU (o5 X1 MC rfl rfl rfl rfl) (eH m tg1 t1 (lx (.k2 .nil)))
 exact v (lN m tg0 t0 (lx (.k2 .nil)))
 rintro tg2 ⟨r0,r1⟩ t2 m
 refine v (v ?_)
 obtain rfl:=eP m
 exact vr λu=>dW.of1 (.inl rfl) (gN _ _ (ow _ _ _) rfl) (aU (List.nil_sublist _) u).1 ((dU _ 0 t2 u rfl)) ⟨rfl,rfl⟩
theorem aCG:aP Tryz.prog 143=true:=by kernel_rfl
def C0 (m:Nat) (y0:(List (List Int))) (q0:List bH) (q1:List (List Int)) (q2:List bH) (q3:Int):Option (Lp ((List bH)×(List (List Int))×(List bH)×Int) (Lp ((List cT)×(List (List Int))×(List bH)×Int) (bE×(List (List Int))×Int))):=
 if (decide (q3 < (y0.length:Int)))=true then ((ix y0 q3).bind λx0=>(XQ m x0).bind λy1=>(app q0 ([y1]:List bH)).bind λz0=>(EH m q2 y1).bind λy2=>after (if y2.2.2=true then ((slc q1 0 y2.2.1).bind λx1=>(ix y0 q3).bind λx2=>(app ([]:List (List Int)) x1).bind λz1=>(app z1 ([x2]:List (List Int))).bind λz2=>(slc q1 y2.2.1 (q1.length:Int)).bind λx3=>(app z2 x3).bind λz3=>some (.brk z3)) else some (.brk q1):Option (Lp ((List (List Int))) (Lp ((List bH)×(List (List Int))×(List bH)×Int) (Lp ((List cT)×(List (List Int))×(List bH)×Int) (bE×(List (List Int))×Int))))) λj0=>some (.go (z0,j0,y2.1,IntKind.wrap .i64 (q3+1)))) else some (.brk (q0,q1,q2,q3))
def C1 (m:Nat) (p1:List dM) (q0:List cT) (q1:List (List Int)) (q2:List bH) (q3:Int):Option (Lp ((List cT)×(List (List Int))×(List bH)×Int) (bE×(List (List Int))×Int)):=
 if (decide (q3 < (p1.length:Int)))=true then ((ix p1 q3).bind λx0=>(ix p1 q3).bind λx1=>(ix p1 q3).bind λx2=>(OA m x2.Data).bind λy0=>after (aS (λs=>C0 m y0 s.1 s.2.1 s.2.2.1 s.2.2.2) m ([],q1,q2,0)) λ⟨r0,r1,r2,r3⟩=>(app q0 ([({ Path:=x0.Path,Size:=(x1.Data.length:Int),Ids:=r0}:cT)]:List cT)).bind λz0=>some (.go (z0,r1,r2,IntKind.wrap .i64 (q3+1)))) else some (.brk (q0,q1,q2,q3))
def M86 (m:Nat) (p0:ByteArray) (p1:List dM):Option (bE×(List (List Int))×Int):=
 (CE m p0).bind λy7=>if (!y7)=true then (some (({ Name:=ByteArray.empty,Parts:= []}:bE), [],1)) else (N8 m p1).bind λy0=>if (y0 !=0)=true then (some (({ Name:=ByteArray.empty,Parts:= []}:bE), [],y0)) else after (aS (λs=>C1 m p1 s.1 s.2.1 s.2.2.1 s.2.2.2) m ([], [], [],0)) λ⟨r0,r1,r2,r3⟩=>some (({ Name:=p0,Parts:=r0}:bE),r1,0)
theorem W86 {w:Nat} {p0:ByteArray} {p1:List dM} {o:bE×(List (List Int))×Int} (h:aF) (m:M86 w p0 p1=some o):
 aM Tryz.prog 86 [.sc (.string p0),.sl none 2 (List.map eK p1)] h (λr h'=>r= .tup [.agg (bI o.1),.sl none 1 (List.map hX o.2.1),nZ o.2.2]∧h'=h):=by
 refine fK 106 [.cell 4 58,.tmp 5,.tmp 6] Tryz.func86 rfl rfl rfl rfl ?_
 unfold M86 at m
 refine v (ve λu=>bG ([.sc (.string ByteArray.empty),sZ]) u MF rfl rfl λk2 K3=>qk K3 rfl (v (vk MY EG m rfl rfl λ_ m=>v ?_)))
 apply vi m <;> intro c9 m
 refine v (bU (eI ([.sc (.string ByteArray.empty),sZ]) U1 rfl) (ve λu=>aL 0 ([.sc (.string ByteArray.empty),sZ]) u rfl rfl rfl rfl zR rfl rfl λK0=>qk K0 rfl (v ?_)))
 cases m
 exact vr λu=>dW.of3 (.inl rfl) (sE (.agg ([.sc (.string ByteArray.empty),sZ])) pQ rfl (aW 0 u rfl) rfl) (gN _ _ (.sc (.slice _ _ _)) rfl) (gN _ _ (.sc (.int _ _)) rfl) (aU (List.nil_sublist _) u).1 (bD.agg (.cons (bD.refl _ _) (.cons (a9 _) .nil))) (a9 _) (bD.refl _ _) ⟨rfl,rfl⟩
 refine v (v (vk aH2 aCE m rfl rfl λ_ m=>v (v ?_)))
 apply vi m <;> intro c0 m
 refine v (bU (eI ([.sc (.string ByteArray.empty),sZ]) U1 rfl) (ve λu=>aL 0 ([.sc (.string ByteArray.empty),sZ]) u rfl rfl rfl rfl zR rfl rfl λK1=>qk K1 rfl (v ?_)))
 cases m
 exact vr λu=>dW.of3 (.inl rfl) (sE (.agg ([.sc (.string ByteArray.empty),sZ])) pQ rfl (aW 0 u rfl) rfl) (gN _ _ (.sc (.slice _ _ _)) rfl) (gN _ _ (.sc (.int _ _)) rfl) (aU (List.nil_sublist _) u).1 (bD.agg (.cons (bD.refl _ _) (.cons (a9 _) .nil))) (a9 _) (bD.refl _ _) ⟨rfl,rfl⟩
 refine v (v (bU (eI ([.sc (.string p0),sZ]) U1 rfl) (ve λu=>bG ([.sc (.string ByteArray.empty),sZ]) u MF rfl rfl λk21 K2=>qk K2 rfl (ve λu=>aL 0 ([.sc (.string p0),sZ]) u rfl rfl rfl rfl zR rfl rfl λK4=>qk K4 rfl (v (v (v (qE (AS (.tok 41 1 (([]:List (List Int)).length*1)) 10 (ow none 1 (List.map hX [])) (gQ _ _)) (qE (ZB (.tok 70 3 (([]:List cT).length*3)) 2 ([.sc (.string p0),ow none 3 (List.map bX [])]) rfl (.cons (bD.refl _ _) (.cons (gQ (c:=bX) _ 3) .nil))) (nW m (σ:=(List cT)×(List (List Int))×(List bH)×Int) (τ:=Option bT×Option bT) (λg s=> [(g.1,.tok 70 3 ((s.1:List cT).length*3)),(g.2,.tok 41 1 ((s.2.1:List (List Int)).length*1)),(some k21,.obj 58 ([.sc (.string p0),ow g.1 3 (List.map bX s.1)])),(some k2,.obj 58 ([.sc (.string ByteArray.empty),sZ]))]) (λg s=>(g.1=none→s.1= [])∧(g.2=none→s.2.1= [])) (λg s=>.c 1 (.sl none 2 (List.map eK p1)) (.c 4 (.ptr k2 0) (.c 8 (.ptr k21 0) (.c 9 (.sl none 32 (List.map bC s.2.2.1)) (.c 10 (ow g.2 1 (List.map hX s.2.1)) (.c 11 (nZ s.2.2.2) .nil)))))) (none,none) (⟨(λ_=>rfl),(λ_=>rfl)⟩) (lx (.k3 (.cons (a9 _) (.k2 .nil)))) ?_ ?_))))))))))
 rintro⟨tg0,tg1⟩ ⟨q0,q1,q2,q3⟩ x ⟨t0,t1⟩ m
 replace m:C1 w p1 q0 q1 q2 q3=some x:=m
 unfold C1 at m
 refine v (dH zS rfl (v ?_))
 apply vi m <;> intro c1 m
 refine v (v (v (vz [] mixed (λu=>trivial) λu=>zC 0 rfl (fA (.sl _ _ _) rfl) (zI 1 rfl rfl ?_))))
 obtain⟨x0,X0,m⟩:=aD m
 refine zC 2 rfl (lP X0 pC rfl rfl) (zC 3 rfl (m6 MK rfl rfl) (zC 4 rfl (lW (.sc (.string x0.Path)) HY rfl rfl) (zC 5 rfl (fA (.sl _ _ _) rfl) (zI 6 rfl rfl ?_))))
 obtain⟨x1,X1,m⟩:=aD m
 refine zC 7 rfl (lP X1 pC rfl rfl) (zC 8 rfl (m6 ML rfl rfl) (zC 9 rfl (lW (.sl none 1 (List.map fX x1.Data)) nY rfl rfl) (zC 10 rfl (xH nP rfl) (zC 11 rfl (eI ([.sc (.string x0.Path),nZ (x1.Data.length:Int),sZ]) aEY rfl) (zE 12 rfl (bG (XZ) u JS rfl rfl λk2233 K5=>⟨trivial, ?_⟩))))))
 refine zE 13 rfl (aL 0 ([.sc (.string x0.Path),nZ (x1.Data.length:Int),sZ]) K5 rfl rfl rfl rfl MG rfl rfl λK6=>⟨trivial, ?_⟩)
 refine zX (qk (f:=.c 12 _ (LW 49 _ _ _ _ _ _ _ _ _ _ _ _ _)) K6 rfl (v (vx m pC rfl rfl λ_ _ m=>vk aH4 aCG m rfl rfl λy0 m=>v (qE (ZB (.tok 36 32 (([]:List bH).length*32)) 1 ([.sc (.string x0.Path),nZ (x1.Data.length:Int),ow none 32 (List.map bC [])]) rfl (.k2 (.cons (gQ (c:=bC) _ 32) .nil))) (nW m (σ:=(List bH)×(List (List Int))×(List bH)×Int) (τ:=Option bT×Option bT) (λg s=> [(g.1,.tok 36 32 ((s.1:List bH).length*32)),(some k2233,.obj 70 ([.sc (.string x0.Path),nZ (x1.Data.length:Int),ow g.1 32 (List.map bC s.1)])),(tg0,.tok 70 3 ((q0:List cT).length*3)),(g.2,.tok 41 1 ((s.2.1:List (List Int)).length*1)),(some k21,.obj 58 ([.sc (.string p0),ow tg0 3 (List.map bX q0)])),(some k2,.obj 58 ([.sc (.string ByteArray.empty),sZ]))]) (λg s=>(g.1=none→s.1= [])∧(g.2=none→s.2.1= [])) (λg s=>.c 1 (.sl none 2 (List.map eK p1)) (.c 4 (.ptr k2 0) (.c 8 (.ptr k21 0) (.c 9 (.sl none 32 (List.map bC s.2.2.1)) (.c 10 (ow g.2 1 (List.map hX s.2.1)) (.c 11 (nZ q3) (.c 12 (.ptr k2233 0) (.c 13 (.sl none 1 (List.map hX y0)) (.c 14 (nZ s.2.2.2) .nil))))))))) (none,tg1) (⟨(λ_=>rfl),t1⟩) (lx (.k9 .nil)) ?_ ?_)))))
 rintro⟨tg2,tg3⟩ ⟨q4,q5,q6,q7⟩ x ⟨t2,t3⟩ m
 replace m:C0 w y0 q4 q5 q6 q7=some x:=m
 unfold C0 at m
 refine v (dH TE rfl (v ?_))
 apply vi m <;> intro c2 m
 refine v (v (v (vx m AU rfl rfl λ_ _ m=>vk W87 aCD m rfl rfl λy1 m=>ve λu=>bG (bC gW) u L9 rfl rfl λk2604 K7=>qk K7 rfl (ve λu=>aL 0 (bC y1) u rfl rfl rfl rfl L8 rfl rfl λK8=>qk K8 rfl (v (vl 2 (ow tg2 32 (List.map bC q4)) xU rfl rfl rfl (vl 0 (.agg (bC y1)) eY rfl rfl rfl (bU (eA (List.map bC ([y1]:List bH)) CA rfl rfl rfl rfl) ?_))))))))
 obtain⟨z0,Z0,m⟩:=aD m
 refine ve λu=>fG (c:=bC) 1 Z0 CA rfl rfl rfl t2 u rfl λtg4 t4 K9=>qk K9 rfl (ve λu=>aL 2 ([.sc (.string x0.Path),nZ (x1.Data.length:Int),ow tg4 32 (List.map bC z0)]) u rfl rfl (jF rfl) (pK _ _ _) VA rfl rfl λK10=>qk K10 rfl (v (vl 0 (.agg (bC y1)) eY rfl rfl rfl (vk aAI TO m rfl rfl λy2 m=>v (oG m (σ:=(List (List Int))) (τ:=Option bT) (λg s=> [(some k2604,.obj 36 (bC y1)),(tg4,.tok 36 32 ((z0:List bH).length*32)),(some k2233,.obj 70 ([.sc (.string x0.Path),nZ (x1.Data.length:Int),ow tg4 32 (List.map bC z0)])),(tg0,.tok 70 3 ((q0:List cT).length*3)),(g,.tok 41 1 ((s:List (List Int)).length*1)),(some k21,.obj 58 ([.sc (.string p0),ow tg0 3 (List.map bX q0)])),(some k2,.obj 58 ([.sc (.string ByteArray.empty),sZ]))]) (λg s=>(g=none→s= [])) (λg s=>.c 1 (.sl none 2 (List.map eK p1)) (.c 4 (.ptr k2 0) (.c 8 (.ptr k21 0) (.c 10 (ow g 1 (List.map hX s)) (.c 11 (nZ q3) (.c 12 (.ptr k2233 0) (.c 13 (.sl none 1 (List.map hX y0)) (.c 14 (nZ q7) (.c 16 (.sl none 32 (List.map bC y2.1)) .nil))))))))) (λx m=> ?_) ?_)))))
 refine v ?_
 apply vi m <;> intro c3 m
 refine v (v (vz [] mixed (λu=>trivial) λu=>zC 0 rfl (fA (.sc (.slice _ _ _)) rfl) (zC 1 rfl (fA (ow _ _ _) rfl) (zI 2 rfl rfl ?_))))
 obtain⟨_,X2,m⟩:=aD m
 refine zC 3 rfl (B1 X2 AU rfl t3 rfl rfl rfl) (zC 5 rfl (fA (.sl _ _ _) rfl) (zI 6 rfl rfl ?_))
 obtain⟨x2,X3,m⟩:=aD m
 refine zC 7 rfl (lP X3 AU rfl rfl) (zC 8 rfl (lW (.sl none 1 (List.map fX x2)) nY rfl rfl) (zC 9 rfl (eA (List.map hX ([x2]:List (List Int))) AX rfl rfl rfl rfl) ?_))
 obtain⟨z1,Z1,m⟩:=aD m
 refine zE 4 rfl (oD (c:=hX) Z1 AX rfl rfl u nofun (qD (sI X2 t3)) λtg5 t5 K12=>⟨trivial, ?_⟩)
 obtain⟨z2,Z2,m⟩:=aD m
 refine zE 10 rfl (fG (c:=hX) 0 Z2 AX rfl rfl rfl t5 K12 rfl λtg6 t6 K13=>⟨trivial, ?_⟩)
 refine zC 11 rfl (hH (ow _ _ _) rfl) (zX (qk (f:=.c 19 _ (.c 91 _ (.c 85 _ (fq5 90 _ _ _ _ _ (S9 84 _ _ _ _ _))))) K13 rfl (v ?_)))
 obtain⟨_,X4,m⟩:=aD m
 refine bU (B1 X4 AU rfl t3 rfl rfl rfl) ?_
 obtain⟨z3,Z3,m⟩:=aD m
 exact ve λu=>fG (c:=hX) 0 Z3 AX rfl rfl rfl t6 u (qD (sI X4 t3)) λtg7 t7 K14=>qk K14 rfl (eH m tg7 t7 (mE [1,2,3,4,0,6,7] rfl rfl (.k9 .nil)))
 exact v (eH m tg3 t3 (lx (.k9 .nil)))
 rintro tg8 j0 t8 m
 exact v (v (eH m (tg4,tg8) ⟨t4,t8⟩ (mE [1,2,3,4,5,6] rfl rfl (.k9 .nil))))
 exact v (lN m (tg2,tg3) ⟨t2,t3⟩ (lx (.k9 .nil)))
 rintro⟨tg9,tg10⟩ ⟨r0,r1,r2,r3⟩ ⟨t9,t10⟩ m
 refine v (vl 4 (ow tg0 3 (List.map bX q0)) oH rfl rfl rfl (vl 1 (.agg ([.sc (.string x0.Path),nZ (x1.Data.length:Int),ow tg9 32 (List.map bC r0)])) ED rfl rfl rfl (ve λu=>HX (t:=100) (.agg (bX ({ Path:=x0.Path,Size:=(x1.Data.length:Int),Ids:=r0}:cT))) (aU (.cons _ (.refl _)) u).1 (bD.agg (.k2 (.cons (sB _ 0 t9 u rfl (.refl _)) .nil))) (ZC (eA (List.map bX ([({ Path:=x0.Path,Size:=(x1.Data.length:Int),Ids:=r0}:cT)]:List cT)) JR rfl rfl rfl rfl) (qk ((aU (.cons _ (.refl _)) u).2) rfl ?_)))))
 obtain⟨z4,Z4,m⟩:=aD m
 exact ve λu=>fG (c:=bX) 1 Z4 JR rfl rfl rfl t0 u rfl λtg11 t11 K15=>qk K15 rfl (ve λu=>aL 3 ([.sc (.string p0),ow tg11 3 (List.map bX z4)]) u rfl rfl (jF rfl) (pK _ _ _) UZ rfl rfl λK16=>qk K16 rfl (v (eH m (tg11,tg10) ⟨t11,t10⟩ (mE [1,2,3,4] rfl rfl (.k6 .nil)))))
 exact v (lN m (tg0,tg1) ⟨t0,t1⟩ (lx (.k6 .nil)))
 rintro⟨tg12,tg13⟩ ⟨r4,r5,r6,r7⟩ ⟨t12,t13⟩ m
 refine v (vl 2 (.agg ([.sc (.string p0),ow tg12 3 (List.map bX r4)])) pQ rfl rfl rfl (ve λu=>aL 3 ([.sc (.string p0),ow tg12 3 (List.map bX r4)]) u rfl rfl rfl (by repeat (first | exact rfl | refine cG (jG _ _ _) ?_ | refine cG (cC _ _ _) ?_ | refine cG (gG _ _ _ _) ?_ | refine cG rfl ?_)) zR rfl rfl λK17=>qk K17 rfl ?_))
 refine v ?_
 cases m
 exact vr λu=>dW.of3 (.inl rfl) (sE (.agg ([.sc (.string p0),ow tg12 3 (List.map bX r4)])) pQ rfl (aW 3 u rfl) rfl) (gN _ _ (ow _ _ _) rfl) (gN _ _ (.sc (.int _ _)) rfl) (aU (List.nil_sublist _) u).1 (bD.agg (.cons (bD.refl _ _) (.cons ((dU _ 0 t12 u rfl)) .nil))) ((dU _ 1 t13 u rfl)) (bD.refl _ _) ⟨rfl,rfl⟩
theorem aH5:aP Tryz.prog 86=true:=by kernel_rfl
def C2 (m:Nat) (p0:aA) (y0:bE×(List (List Int))×Int) (q0:List aB) (q1:Int):Option (Lp ((List aB)×Int) (aV×Bool)):=
 if (decide (q1 < (y0.2.1.length:Int)))=true then ((ix y0.2.1 q1).bind λx0=>(XQ m x0).bind λy1=>(KS m p0 y1).bind λy2=>after (if (decide (y2 < 0))=true then ((ix y0.2.1 q1).bind λx1=>(app q0 ([({ Id:=y1,Staged:=true,Data:=x1,Locs:= []}:aB)]:List aB)).bind λz0=>some (.brk z0)) else some (.brk q0):Option (Lp ((List aB)) (Lp ((List aB)×Int) (aV×Bool)))) λj0=>some (.go (j0,IntKind.wrap .i64 (q1+1)))) else some (.brk (q0,q1))
def C3 (m:Nat) (p0:aA) (p1:m7) (q0:List aE) (q1:Int) (q2:Int):Option (Lp ((List aE)×Int×Int) (aV×Bool)):=
 after (if (decide (q2 < (IntKind.wrap .i64 ((IntKind.wrap .i64 ((p0.Chunks.length:Int)+(p0.Snaps.length:Int)))+(p0.Exps.length:Int)))))=true then (some (.brk (decide ((q0.length:Int) < 64)))) else some (.brk false):Option (Lp (Bool) (Lp ((List aE)×Int×Int) (aV×Bool)))) λj0=>if j0=true then (after (after (if (decide (q2 < (p1.Pick.length:Int)))=true then ((ix p1.Pick q2).bind λx0=>some (.brk (!x0))) else some (.brk false):Option (Lp (Bool) (Lp ((List aE)×Int) (Lp ((List aE)×Int×Int) (aV×Bool))))) λj1=>if j1=true then (some (.brk (q0,q1))) else after (if (decide (q2 < (p0.Chunks.length:Int)))=true then ((ix p0.Chunks q2).bind λx1=>some (.brk { { ({ Kind:=0,Id:=gW,Seq:=0,Of:=0,Off:=q1,Len:=20}:aE) with Kind:=1} with Id:=x1.Id})) else after (if (decide (q2 < (IntKind.wrap .i64 ((p0.Chunks.length:Int)+(p0.Snaps.length:Int)))))=true then ((ix p0.Snaps (IntKind.wrap .i64 (q2 - (p0.Chunks.length:Int)))).bind λx2=>some (.brk { { ({ Kind:=0,Id:=gW,Seq:=0,Of:=0,Off:=q1,Len:=20}:aE) with Kind:=2} with Seq:=x2.Seq})) else (ix p0.Exps (IntKind.wrap .i64 ((IntKind.wrap .i64 (q2 - (p0.Chunks.length:Int))) - (p0.Snaps.length:Int)))).bind λx3=>some (.brk { { { ({ Kind:=0,Id:=gW,Seq:=0,Of:=0,Off:=q1,Len:=20}:aE) with Kind:=3} with Seq:=x3.Seq} with Of:=x3.Of}):Option (Lp (aE) (Lp (aE) (Lp ((List aE)×Int) (Lp ((List aE)×Int×Int) (aV×Bool)))))) λj2=>some (.brk j2):Option (Lp (aE) (Lp ((List aE)×Int) (Lp ((List aE)×Int×Int) (aV×Bool))))) λj3=>(app q0 ([j3]:List aE)).bind λz0=>some (.brk (z0,IntKind.wrap .i64 (q1+20))):Option (Lp ((List aE)×Int) (Lp ((List aE)×Int×Int) (aV×Bool)))) λ⟨j4,j5⟩=>some (.go (j4,j5,IntKind.wrap .i64 (q2+1)))) else some (.brk (q0,q1,q2))
def M35 (m:Nat) (p0:aA) (p1:m7):Option (aV×Bool):=
 (LU ([IntKind.wrap .u8 (IntKind.wrap .u64 (97+((IntKind.wrap .u64 p1.N).tmod 5)))]:List Int)).bind λst0=>grd (decide ((ByteArray.mk #[110]).size+st0.size≤9223372036854775807)) <| after (if (decide (0 < (p0.Vols.length:Int)))=true then (grd ((IntKind.wrap .u64 (p0.Vols.length:Int)) !=0) <| some (.brk (IntKind.wrap .i64 ((IntKind.wrap .u64 p1.Vol).tmod (IntKind.wrap .u64 (p0.Vols.length:Int)))))) else some (.brk 0):Option (Lp (Int) (aV×Bool))) λj0=>after (if (((IntKind.wrap .u64 p1.Do).tmod 8)==0)=true then (some (.brk (((IntKind.wrap .u64 p1.Do).tmod 8)==0))) else some (.brk (((IntKind.wrap .u64 p1.Do).tmod 8)==1)):Option (Lp (Bool) (aV×Bool))) λj1=>if j1=true then ((M85 m p1.Tree).bind λy0=>if (y0.2 !=0)=true then (some (({ Kind:=0,Snap:=({ Seq:=0,Man:=({ Name:=ByteArray.empty,Parts:= []}:bE),Locs:= []}:aH),Chunks:= [],Seq:=0,Vol:=0,Items:= []}:aV),false)) else (M86 m ((ByteArray.mk #[110])++st0) y0.1).bind λy1=>after (aS (λs=>C2 m p0 y1 s.1 s.2) m ([],0)) λ⟨r0,r1⟩=>some (({ Kind:=1,Snap:=({ Seq:=p0.Seq,Man:=y1.1,Locs:= []}:aH),Chunks:=r0,Seq:=0,Vol:=0,Items:= []}:aV),true)) else after (if (((IntKind.wrap .u64 p1.Do).tmod 8)==2)=true then (some (.brk (((IntKind.wrap .u64 p1.Do).tmod 8)==2))) else some (.brk (((IntKind.wrap .u64 p1.Do).tmod 8)==5)):Option (Lp (Bool) (aV×Bool))) λj2=>if j2=true then (if ((p0.Snaps.length:Int)==0)=true then (some (({ Kind:=0,Snap:=({ Seq:=0,Man:=({ Name:=ByteArray.empty,Parts:= []}:bE),Locs:= []}:aH),Chunks:= [],Seq:=0,Vol:=0,Items:= []}:aV),false)) else grd ((IntKind.wrap .u64 (p0.Snaps.length:Int)) !=0) <| (ix p0.Snaps (IntKind.wrap .i64 ((IntKind.wrap .u64 p1.N).tmod (IntKind.wrap .u64 (p0.Snaps.length:Int))))).bind λx0=>if (((IntKind.wrap .u64 p1.Do).tmod 8)==2)=true then (some (({ Kind:=2,Snap:=({ Seq:=0,Man:=({ Name:=ByteArray.empty,Parts:= []}:bE),Locs:= []}:aH),Chunks:= [],Seq:=x0.Seq,Vol:=0,Items:= []}:aV),true)) else some (({ Kind:=3,Snap:=({ Seq:=0,Man:=({ Name:=ByteArray.empty,Parts:= []}:bE),Locs:= []}:aH),Chunks:= [],Seq:=0,Vol:=j0,Items:=([({ Kind:=3,Id:=gW,Seq:=p0.Seq,Of:=x0.Seq,Off:=13,Len:=17}:aE)]:List aE)}:aV),true)) else after (if (((IntKind.wrap .u64 p1.Do).tmod 8)==3)=true then (some (.brk (((IntKind.wrap .u64 p1.Do).tmod 8)==3))) else some (.brk (((IntKind.wrap .u64 p1.Do).tmod 8)==4)):Option (Lp (Bool) (aV×Bool))) λj3=>if j3=true then (after (aS (λs=>C3 m p0 p1 s.1 s.2.1 s.2.2) m ([],13,0)) λ⟨r2,r3,r4⟩=>some (({ Kind:=3,Snap:=({ Seq:=0,Man:=({ Name:=ByteArray.empty,Parts:= []}:bE),Locs:= []}:aH),Chunks:= [],Seq:=0,Vol:=j0,Items:=r2}:aV),decide (0 < (r2.length:Int)))) else if (((IntKind.wrap .u64 p1.Do).tmod 8)==6)=true then (some (({ Kind:=4,Snap:=({ Seq:=0,Man:=({ Name:=ByteArray.empty,Parts:= []}:bE),Locs:= []}:aH),Chunks:= [],Seq:=0,Vol:=j0,Items:= []}:aV),true)) else some (({ Kind:=5,Snap:=({ Seq:=0,Man:=({ Name:=ByteArray.empty,Parts:= []}:bE),Locs:= []}:aH),Chunks:= [],Seq:=0,Vol:=j0,Items:= []}:aV),true)
theorem W35 {w:Nat} {p0:aA} {p1:m7} {o:aV×Bool} (h:aF) (m:M35 w p0 p1=some o):
 aM Tryz.prog 35 [.agg (aC p0),.agg (fM p1)] h (λr h'=>r= .tup [.agg (aJ o.1),.sc (.bool o.2)]∧h'=h):=by
 refine fK 248 [.cell 4 62,.tmp 5] Tryz.func35 rfl rfl rfl rfl ?_
 unfold M35 at m
 refine v (gX rfl rfl λk2 K3=>gX rfl rfl λk5 K6=>ve λu=>bG (zD) u QZ rfl rfl λk8 K9=>qk K9 rfl (v (vl 1 _ cB rfl rfl rfl (bU (eA (List.map fX ([IntKind.wrap .u8 (IntKind.wrap .u64 (97+((IntKind.wrap .u64 p1.N).tmod 5)))]:List Int)) xQ rfl rfl rfl rfl) ?_))))
 obtain⟨st0,hs0,m⟩:=aD m
 refine bU (UN (c:=fX) hs0 (λ_=>rfl) u41 u5 u9 rfl) ?_
 obtain⟨Z0,m⟩:=pJ m
 refine bU (F3 rfl rfl rfl (of_decide_eq_true Z0)) (v (v (vl 2 _ iH rfl rfl rfl (dH qK rfl (fN m (σ:=Int) (λs=> [(some k8,.obj 62 (zD)),(some k5,.obj 67 (fM p1)),(some k2,.obj 30 (aC p0))]) (λs=>.c 2 (.ptr k2 0) (.c 3 (.ptr k5 0) (.c 4 (.ptr k8 0) (.c 6 (.sc (.string ((ByteArray.mk #[110])++st0))) (.c 7 (nZ s) .nil))))) (λx m=> ?_) ?_)))))
 refine v ?_
 apply vi m <;> intro c0 m
 exact v (vl 1 _ cB rfl rfl rfl (vl 2 _ iH rfl rfl rfl (dH qK rfl (ZD m λ_ m=>kY m))))
 exact v (kY m)
 rintro _ j0 m
 refine v (vl 1 _ cB rfl rfl rfl (v (v (fN m (σ:=Bool) (λs=> [(some k8,.obj 62 (zD)),(some k5,.obj 67 (fM p1)),(some k2,.obj 30 (aC p0))]) (λs=>.c 2 (.ptr k2 0) (.c 3 (.ptr k5 0) (.c 4 (.ptr k8 0) (.c 6 (.sc (.string ((ByteArray.mk #[110])++st0))) (.c 7 (nZ j0) (.c 47 (.sc (.int .u64 ((IntKind.wrap .u64 p1.Do).tmod 8))) (.c 48 (.sc (.bool s)) .nil))))))) (λx m=> ?_) ?_))))
 refine v ?_
 apply vi m <;> intro c1 m
 exact v (B5 m)
 exact v (B5 m)
 rintro _ j1 m
 refine v ?_
 apply vi m <;> intro c2 m
 refine v (vl 1 _ aEV rfl rfl rfl (vk W85 aHZ m rfl rfl λ_ m=>v (v ?_)))
 apply vi m <;> intro c3 m
 refine v (bU (eI (zD) B9 rfl) (ve λu=>aL 0 (zD) u rfl rfl rfl rfl xT rfl rfl λK0=>qk K0 rfl (v ?_)))
 cases m
 exact vr λu=>dW.of2 (.inl rfl) (sE (.agg (zD)) sO rfl (aW 0 u rfl) rfl) (gN _ _ (.sc (.bool _)) rfl) (aU (List.nil_sublist _) u).1 (bD.agg (.k3 (.cons (a9 _) (.cons (a9 _) (.cons (a9 _) (.k2 (.cons (a9 _) .nil))))))) (bD.refl _ _) ⟨rfl,rfl⟩
 refine v (v (vk W86 aH5 m rfl rfl λy0 m=>ve λu=>bG ([.sc (.string ByteArray.empty),sZ]) u MF rfl rfl λk44 K1=>qk K1 rfl (ve λu=>aL 0 (bI y0.1) u rfl rfl rfl rfl zR rfl rfl λK2=>qk K2 rfl (v (vl 3 _ cB rfl rfl rfl (vl 0 (.agg (bI y0.1)) pQ rfl rfl rfl (bU (eI (([nZ p0.Seq]:List AV)++bI y0.1++([sZ]:List AV)) aEU rfl) (bU (eI (([nZ 1,nZ p0.Seq]:List AV)++bI y0.1++(zq6:List AV)) B9 rfl) (ve λu=>bG (zD) u QZ rfl rfl λk49 K4=>qk K4 rfl (ve λu=>aL 0 (([nZ 1,nZ p0.Seq]:List AV)++bI y0.1++(zq6:List AV)) u rfl rfl rfl rfl xT rfl rfl λK5=>qk K5 rfl (v (qE (ZB (.tok 44 35 (([]:List aB).length*35)) 1 (([nZ 1,nZ p0.Seq]:List AV)++bI y0.1++([sZ,ow none 35 (List.map aK []),nZ 0,nZ 0,sZ]:List AV)) rfl (.k2 (cS.app 2 rfl (.cons (bD.refl _ _) (.cons (gQ (c:=aK) _ 35) (.k3 .nil)))))) (nW m (σ:=(List aB)×Int) (τ:=Option bT) (λg s=> [(g,.tok 44 35 ((s.1:List aB).length*35)),(some k49,.obj 62 (([nZ 1,nZ p0.Seq]:List AV)++bI y0.1++([sZ,ow g 35 (List.map aK s.1),nZ 0,nZ 0,sZ]:List AV))),(some k44,.obj 58 (bI y0.1)),(some k8,.obj 62 (zD)),(some k5,.obj 67 (fM p1)),(some k2,.obj 30 (aC p0))]) (λg s=>(g=none→s.1= [])) (λg s=>.c 2 (.ptr k2 0) (.c 4 (.ptr k8 0) (.c 11 (.sl none 1 (List.map hX y0.2.1)) (.c 13 (.ptr k49 0) (.c 14 (nZ s.2) .nil))))) none (λ_=>rfl) (lx (.k5 .nil)) ?_ ?_)))))))))))))
 rintro tg0 ⟨q0,q1⟩ x t0 m
 replace m:C2 w p0 y0 q0 q1=some x:=m
 unfold C2 at m
 refine v (dH TE rfl (v ?_))
 apply vi m <;> intro c4 m
 refine v (v (v (vx m AU rfl rfl λ_ _ m=>vk W87 aCD m rfl rfl λy1 m=>ve λu=>bG (bC gW) u L9 rfl rfl λk255 K7=>qk K7 rfl (ve λu=>aL 0 (bC y1) u rfl rfl rfl rfl L8 rfl rfl λK8=>qk K8 rfl (v (vl 6 (.agg (aC p0)) cZ rfl rfl rfl (vl 0 (.agg (bC y1)) eY rfl rfl rfl (vk W88 Q6 m rfl rfl λ_ m=>oG m (σ:=(List aB)) (τ:=Option bT) (λg s=> [(some k255,.obj 36 (bC y1)),(g,.tok 44 35 ((s:List aB).length*35)),(some k49,.obj 62 (([nZ 1,nZ p0.Seq]:List AV)++bI y0.1++([sZ,ow g 35 (List.map aK s),nZ 0,nZ 0,sZ]:List AV))),(some k44,.obj 58 (bI y0.1)),(some k8,.obj 62 (zD)),(some k5,.obj 67 (fM p1)),(some k2,.obj 30 (aC p0))]) (λg s=>(g=none→s= [])) (λg s=>.c 2 (.ptr k2 0) (.c 4 (.ptr k8 0) (.c 11 (.sl none 1 (List.map hX y0.2.1)) (.c 13 (.ptr k49 0) (.c 14 (nZ q1) .nil))))) (λx m=> ?_) ?_))))))))
 refine v ?_
 apply vi m <;> intro c5 m
 refine v (vz [(11,some k49,.obj 62 (([nZ 1,nZ p0.Seq]:List AV)++bI y0.1++([sZ,ow tg0 35 (List.map aK q0),nZ 0,nZ 0,sZ]:List AV))),(1000000,some k255,.obj 36 (bC y1))] mixed (λu=>⟨λ_=>aO 2 u rfl,λ_=>aO 0 u rfl,trivial⟩) λu=>zF 0 rfl oI rfl (zL 1 0 (ow tg0 35 (List.map aK q0)) rfl fD rfl rfl rfl (zL 2 1 (.agg (bC y1)) rfl eY rfl rfl rfl (zC 3 rfl (fA (.sl _ _ _) rfl) (zI 4 rfl rfl ?_)))))
 obtain⟨x0,X0,m⟩:=aD m
 refine zC 5 rfl (lP X0 AU rfl rfl) (zC 6 rfl (lW (.sl none 1 (List.map fX x0)) nY rfl rfl) (zC 7 rfl (iN (y:=.agg (aK ({ Id:=y1,Staged:=true,Data:=x0,Locs:= []}:aB))) (eI (bC y1++([.sc (.bool true),.sl none 1 (List.map fX x0),sZ]:List AV)) aEQ rfl) (bD.agg (cS.app 32 rfl (.k2 (.cons (a9 _) .nil))))) (zC 8 rfl (eA (List.map aK ([({ Id:=y1,Staged:=true,Data:=x0,Locs:= []}:aB)]:List aB)) o8 rfl rfl rfl rfl) ?_)))
 obtain⟨z0,Z1,m⟩:=aD m
 refine zE 9 rfl (fG (c:=aK) 1 Z1 o8 rfl rfl rfl t0 u rfl λtg1 t1 K10=>⟨⟨λ_=>aO 2 K10 rfl,λ_=>aO 0 K10 rfl,trivial⟩, ?_⟩)
 refine zF 10 rfl oI rfl (zE 11 rfl (aL 2 (([nZ 1,nZ p0.Seq]:List AV)++bI y0.1++([sZ,ow tg1 35 (List.map aK z0),nZ 0,nZ 0,sZ]:List AV)) K10 rfl rfl (jF rfl) (pK _ _ _) D9 rfl rfl λK11=>⟨⟨λe=>absurd e (by decide),λ_=>aO 0 K11 rfl,trivial⟩, ?_⟩))
 exact zX (qk (f:=UT 97 _ _ _ _ _ _ _ _ _ _ _ _) K11 rfl (eH m tg1 t1 (lx (.k5 .nil))))
 exact v (eH m tg0 t0 (lx (.k5 .nil)))
 rintro tg2 j2 t2 m
 exact v (eH m tg2 t2 (mE [1,2,3,4,5,6] rfl rfl (.k5 .nil)))
 exact v (lN m tg0 t0 (lx (.k5 .nil)))
 rintro tg3 ⟨r0,r1⟩ t3 m
 refine v (vl 1 (.agg (([nZ 1,nZ p0.Seq]:List AV)++bI y0.1++([sZ,ow tg3 35 (List.map aK r0),nZ 0,nZ 0,sZ]:List AV))) sO rfl rfl rfl (ve λu=>aL 3 (([nZ 1,nZ p0.Seq]:List AV)++bI y0.1++([sZ,ow tg3 35 (List.map aK r0),nZ 0,nZ 0,sZ]:List AV)) u rfl rfl rfl (by repeat (first | exact rfl | refine cG (jG _ _ _) ?_ | refine cG (cC _ _ _) ?_ | refine cG (gG _ _ _ _) ?_ | refine cG rfl ?_)) xT rfl rfl λK12=>qk K12 rfl ?_))
 refine v ?_
 cases m
 exact vr λu=>dW.of2 (.inl rfl) (sE (.agg (([nZ 1,nZ p0.Seq]:List AV)++bI y0.1++([sZ,ow tg3 35 (List.map aK r0),nZ 0,nZ 0,sZ]:List AV))) sO rfl (aW 3 u rfl) rfl) (gN _ _ (.sc (.bool _)) rfl) (aU (List.nil_sublist _) u).1 (bD.agg (.k2 (cS.app 2 rfl (.cons (a9 _) (.cons ((dU _ 0 t3 u rfl)) (.k2 (.cons (a9 _) .nil))))))) (bD.refl _ _) ⟨rfl,rfl⟩
 refine v (fN m (σ:=Bool) (λs=> [(some k8,.obj 62 (zD)),(some k5,.obj 67 (fM p1)),(some k2,.obj 30 (aC p0))]) (λs=>.c 2 (.ptr k2 0) (.c 3 (.ptr k5 0) (.c 4 (.ptr k8 0) (.c 7 (nZ j0) (.c 47 (.sc (.int .u64 ((IntKind.wrap .u64 p1.Do).tmod 8))) (.c 99 (.sc (.bool s)) .nil)))))) (λx m=> ?_) ?_)
 refine v ?_
 apply vi m <;> intro c6 m
 exact v (m5 m)
 exact v (m5 m)
 rintro _ j3 m
 refine v ?_
 apply vi m <;> intro c7 m
 refine v (vl 2 _ fI rfl rfl rfl (dH kZ rfl (v ?_)))
 apply vi m <;> intro c8 m
 refine v (bU (eI (zD) B9 rfl) (ve λu=>aL 0 (zD) u rfl rfl rfl rfl xT rfl rfl λK13=>qk K13 rfl (v ?_)))
 cases m
 exact vr λu=>dW.of2 (.inl rfl) (sE (.agg (zD)) sO rfl (aW 0 u rfl) rfl) (gN _ _ (.sc (.bool _)) rfl) (aU (List.nil_sublist _) u).1 (bD.agg (.k3 (.cons (a9 _) (.cons (a9 _) (.cons (a9 _) (.k2 (.cons (a9 _) .nil))))))) (bD.refl _ _) ⟨rfl,rfl⟩
 refine v (v (vz [(1000000,some k2,.obj 30 (aC p0)),(1000000,some k5,.obj 67 (fM p1))] mixed (λu=>⟨λ_=>aO 2 u rfl,λ_=>aO 1 u rfl,trivial⟩) λu=>zF 0 rfl eL rfl (zL 1 0 (.sl none 4 (List.map bJ p0.Snaps)) rfl fI rfl rfl rfl (zF 2 rfl U5 rfl (zL 3 1 (nZ p1.N) rfl cB rfl rfl rfl (zC 4 rfl (QG ti3 U3 rfl) (zF 5 rfl eL rfl (zL 6 0 (.sl none 4 (List.map bJ p0.Snaps)) rfl fI rfl rfl rfl (zC 7 rfl (xH kZ rfl) (zC 8 rfl (QG ti3 U3 rfl) ?_))))))))))
 obtain⟨Z2,m⟩:=pJ m
 refine zC 9 rfl (mN rfl rfl rfl (YL Z2)) (zC 10 rfl (QG U3 ti3 rfl) ?_)
 obtain⟨x1,X1,m⟩:=aD m
 refine zC 11 rfl (lP X1 jL rfl rfl) (zC 12 rfl (lW (.agg (bJ x1)) sN rfl rfl) (zE 13 rfl (bG (XF) u xS rfl rfl λk329 K14=>⟨⟨λ_=>aO 3 K14 rfl,λ_=>aO 2 K14 rfl,trivial⟩, ?_⟩)))
 refine zE 14 rfl (aL 0 (bJ x1) K14 rfl rfl rfl rfl GP rfl rfl λK15=>⟨⟨λ_=>aO 3 K15 rfl,λ_=>aO 2 K15 rfl,trivial⟩, ?_⟩)
 refine zX (qk (f:=.c 16 _ (ZA 119 _ _ _ _ _ _ _ _ _ _ _ _ _ _)) K15 rfl (v (vl 2 _ cB rfl rfl rfl (v ?_))))
 apply vi m <;> intro c9 m
 refine v (vl 0 _ cB rfl rfl rfl (bU (eI ([nZ 2,nZ 0,.sc (.string ByteArray.empty),sZ,sZ,sZ,nZ x1.Seq,nZ 0,sZ]) B9 rfl) (ve λu=>aL 1 ([nZ 2,nZ 0,.sc (.string ByteArray.empty),sZ,sZ,sZ,nZ x1.Seq,nZ 0,sZ]) u rfl rfl rfl rfl xT rfl rfl λK16=>qk K16 rfl (v ?_))))
 cases m
 exact vr λu=>dW.of2 (.inl rfl) (sE (.agg ([nZ 2,nZ 0,.sc (.string ByteArray.empty),sZ,sZ,sZ,nZ x1.Seq,nZ 0,sZ])) sO rfl (aW 1 u rfl) rfl) (gN _ _ (.sc (.bool _)) rfl) (aU (List.nil_sublist _) u).1 (bD.agg (.k3 (.cons (a9 _) (.cons (a9 _) (.cons (a9 _) (.k2 (.cons (a9 _) .nil))))))) (bD.refl _ _) ⟨rfl,rfl⟩
 refine v (v (vl 3 _ cB rfl rfl rfl (vl 0 _ cB rfl rfl rfl (bU (eI (aI ({ Kind:=3,Id:=gW,Seq:=p0.Seq,Of:=x1.Seq,Off:=13,Len:=17}:aE)) sL rfl) (bU (eA (List.map aI ([({ Kind:=3,Id:=gW,Seq:=p0.Seq,Of:=x1.Seq,Off:=13,Len:=17}:aE)]:List aE)) lA rfl rfl rfl rfl) (bU (eI ([nZ 3,nZ 0,.sc (.string ByteArray.empty),sZ,sZ,sZ,nZ 0,nZ j0,.sl none 37 (List.map aI ([({ Kind:=3,Id:=gW,Seq:=p0.Seq,Of:=x1.Seq,Off:=13,Len:=17}:aE)]:List aE))]) B9 rfl) (ve λu=>aL 1 ([nZ 3,nZ 0,.sc (.string ByteArray.empty),sZ,sZ,sZ,nZ 0,nZ j0,.sl none 37 (List.map aI ([({ Kind:=3,Id:=gW,Seq:=p0.Seq,Of:=x1.Seq,Off:=13,Len:=17}:aE)]:List aE))]) u rfl rfl rfl rfl xT rfl rfl λK17=>qk K17 rfl (v ?_))))))))
 cases m
 exact vr λu=>dW.of2 (.inl rfl) (sE (.agg ([nZ 3,nZ 0,.sc (.string ByteArray.empty),sZ,sZ,sZ,nZ 0,nZ j0,.sl none 37 (List.map aI ([({ Kind:=3,Id:=gW,Seq:=p0.Seq,Of:=x1.Seq,Off:=13,Len:=17}:aE)]:List aE))])) sO rfl (aW 1 u rfl) rfl) (gN _ _ (.sc (.bool _)) rfl) (aU (List.nil_sublist _) u).1 (bD.agg (.k3 (.cons (a9 _) (.cons (a9 _) (.cons (a9 _) (.k3 .nil)))))) (bD.refl _ _) ⟨rfl,rfl⟩
 refine v (fN m (σ:=Bool) (λs=> [(some k8,.obj 62 (zD)),(some k5,.obj 67 (fM p1)),(some k2,.obj 30 (aC p0))]) (λs=>.c 2 (.ptr k2 0) (.c 3 (.ptr k5 0) (.c 4 (.ptr k8 0) (.c 7 (nZ j0) (.c 47 (.sc (.int .u64 ((IntKind.wrap .u64 p1.Do).tmod 8))) (.c 136 (.sc (.bool s)) .nil)))))) (λx m=> ?_) ?_)
 refine v ?_
 apply vi m <;> intro c10 m
 exact v (m5 m)
 exact v (m5 m)
 rintro _ j4 m
 refine v ?_
 apply vi m <;> intro c11 m
 refine v (v (v (qE (AS (.tok 38 37 (([]:List aE).length*37)) 17 (ow none 37 (List.map aI [])) (gQ _ _)) (nW m (σ:=(List aE)×Int×Int) (τ:=Option bT) (λg s=> [(g,.tok 38 37 ((s.1:List aE).length*37)),(some k8,.obj 62 (zD)),(some k5,.obj 67 (fM p1)),(some k2,.obj 30 (aC p0))]) (λg s=>(g=none→s.1= [])) (λg s=>.c 2 (.ptr k2 0) (.c 3 (.ptr k5 0) (.c 4 (.ptr k8 0) (.c 7 (nZ j0) (.c 17 (ow g 37 (List.map aI s.1)) (.c 18 (nZ s.2.1) (.c 19 (nZ s.2.2) .nil))))))) none (λ_=>rfl) (lx (.k7 .nil)) ?_ ?_))))
 rintro tg4 ⟨q2,q3,q4⟩ x t4 m
 replace m:C3 w p0 p1 q2 q3 q4=some x:=m
 unfold C3 at m
 refine vs (vs (fN m (σ:=Bool) (λs=> [(tg4,.tok 38 37 ((q2:List aE).length*37)),(some k8,.obj 62 (zD)),(some k5,.obj 67 (fM p1)),(some k2,.obj 30 (aC p0))]) (λs=>.c 2 (.ptr k2 0) (.c 3 (.ptr k5 0) (.c 4 (.ptr k8 0) (.c 7 (nZ j0) (.c 17 (ow tg4 37 (List.map aI q2)) (.c 18 (nZ q3) (.c 19 (nZ q4) (.c 156 (.sc (.bool s)) .nil)))))))) (λx m=> ?_) ?_))
 refine v (vl 3 _ fD rfl rfl rfl (dH lI rfl (vl 3 _ fI rfl rfl rfl (dH kZ rfl (vl 3 _ iG rfl rfl rfl (dH pN rfl ?_))))))
 apply vi m <;> intro b0 m
 rw[b0]
 exact bU (uU l4 t4 rfl) (LY m)
 rw[b0]
 exact LY m
 rintro _ j5 m
 refine v ?_
 apply vi m <;> intro c12 m
 refine v (vs (oG m (σ:=(List aE)×Int) (τ:=Option bT) (λg s=> [(g,.tok 38 37 ((s.1:List aE).length*37)),(some k8,.obj 62 (zD)),(some k5,.obj 67 (fM p1)),(some k2,.obj 30 (aC p0))]) (λg s=>(g=none→s.1= [])) (λg s=>.c 2 (.ptr k2 0) (.c 3 (.ptr k5 0) (.c 4 (.ptr k8 0) (.c 7 (nZ j0) (.c 17 (ow g 37 (List.map aI s.1)) (.c 18 (nZ s.2) (.c 19 (nZ q4) .nil))))))) (λx m=> ?_) ?_))
 refine v (vs (vs (fN m (σ:=Bool) (λs=> [(tg4,.tok 38 37 ((q2:List aE).length*37)),(some k8,.obj 62 (zD)),(some k5,.obj 67 (fM p1)),(some k2,.obj 30 (aC p0))]) (λs=>.c 2 (.ptr k2 0) (.c 3 (.ptr k5 0) (.c 4 (.ptr k8 0) (.c 7 (nZ j0) (.c 17 (ow tg4 37 (List.map aI q2)) (.c 18 (nZ q3) (.c 19 (nZ q4) (.c 171 (.sc (.bool s)) .nil)))))))) (λx m=> ?_) ?_)))
 refine v (vl 2 _ ZM rfl rfl rfl (dH ZL rfl ?_))
 apply vi m <;> intro b1 m
 rw[b1]
 exact vl 2 _ ZM rfl rfl rfl (vx m aEW rfl rfl λ_ _ m=>LY m)
 rw[b1]
 exact LY m
 rintro _ j6 m
 refine v ?_
 apply vi m <;> intro c13 m
 exact v (eH m tg4 t4 (lx (.k7 .nil)))
 refine v (v (bU (eI (aI ({ Kind:=0,Id:=gW,Seq:=0,Of:=0,Off:=q3,Len:=20}:aE)) sL rfl) (ve λu=>bG (([nZ 0]:List AV)++bC gW++(I9:List AV)) u GO rfl rfl λk1523 K18=>qk K18 rfl (ve λu=>aL 0 (aI ({ Kind:=0,Id:=gW,Seq:=0,Of:=0,Off:=q3,Len:=20}:aE)) u rfl rfl rfl rfl GM rfl rfl λK19=>qk K19 rfl (v (v (vl 4 _ fD rfl rfl rfl (dH lI rfl (fN m (σ:=aE) (λs=> [(some k1523,.obj 38 (aI s)),(tg4,.tok 38 37 ((q2:List aE).length*37)),(some k8,.obj 62 (zD)),(some k5,.obj 67 (fM p1)),(some k2,.obj 30 (aC p0))]) (λs=>.c 2 (.ptr k2 0) (.c 3 (.ptr k5 0) (.c 4 (.ptr k8 0) (.c 7 (nZ j0) (.c 17 (ow tg4 37 (List.map aI q2)) (.c 18 (nZ q3) (.c 19 (nZ q4) (.c 20 (.ptr k1523 0) .nil)))))))) (λx m=> ?_) ?_)))))))))
 refine v ?_
 apply vi m <;> intro c14 m
 refine v (vz [(1000000,some k2,.obj 30 (aC p0)),(7,some k1523,.obj 38 (aI ({ Kind:=0,Id:=gW,Seq:=0,Of:=0,Off:=q3,Len:=20}:aE)))] mixed (λu=>⟨λ_=>aO 4 u rfl,λ_=>aO 0 u rfl,trivial⟩) λu=>zF 0 rfl eW rfl (zL 1 0 (.sl none 35 (List.map aK p0.Chunks)) rfl fD rfl rfl rfl (zI 2 rfl rfl ?_)))
 obtain⟨x2,X2,m⟩:=aD m
 refine zC 3 rfl (lP X2 h9 rfl rfl) (zC 4 rfl (m6 rC rfl rfl) (zC 5 rfl (lW (.agg (bC x2.Id)) eY rfl rfl) (zF 6 rfl mQ rfl (zE 7 rfl (aL 0 (aI { ({ Kind:=0,Id:=gW,Seq:=0,Of:=0,Off:=q3,Len:=20}:aE) with Kind:=1}) u rfl rfl rfl rfl AT rfl rfl λK20=>⟨⟨λ_=>aO 4 K20 rfl,λe=>absurd e (by decide),trivial⟩, ?_⟩)))))
 refine zF 8 rfl xO rfl (zE 9 rfl (aL 0 (aI { { ({ Kind:=0,Id:=gW,Seq:=0,Of:=0,Off:=q3,Len:=20}:aE) with Kind:=1} with Id:=x2.Id}) K20 rfl rfl rfl rfl L8 rfl rfl λK21=>⟨⟨λ_=>aO 4 K21 rfl,λe=>absurd e (by decide),trivial⟩, ?_⟩))
 exact zX (qk (f:=TA 207 _ _ _ _ _ _ _ _ _) K21 rfl (LY m))
 refine v (vl 4 _ fD rfl rfl rfl (dH lI rfl (vl 4 _ fI rfl rfl rfl (dH kZ rfl (fN m (σ:=aE) (λs=> [(some k1523,.obj 38 (aI s)),(tg4,.tok 38 37 ((q2:List aE).length*37)),(some k8,.obj 62 (zD)),(some k5,.obj 67 (fM p1)),(some k2,.obj 30 (aC p0))]) (λs=>.c 2 (.ptr k2 0) (.c 3 (.ptr k5 0) (.c 4 (.ptr k8 0) (.c 7 (nZ j0) (.c 17 (ow tg4 37 (List.map aI q2)) (.c 18 (nZ q3) (.c 19 (nZ q4) (.c 20 (.ptr k1523 0) .nil)))))))) (λx m=> ?_) ?_)))))
 refine v ?_
 apply vi m <;> intro c15 m
 refine v (vz [(1000000,some k2,.obj 30 (aC p0)),(11,some k1523,.obj 38 (aI ({ Kind:=0,Id:=gW,Seq:=0,Of:=0,Off:=q3,Len:=20}:aE)))] mixed (λu=>⟨λ_=>aO 4 u rfl,λ_=>aO 0 u rfl,trivial⟩) λu=>zF 0 rfl eL rfl (zL 1 0 (.sl none 4 (List.map bJ p0.Snaps)) rfl fI rfl rfl rfl (zI 2 rfl rfl (zF 3 rfl eW rfl (zL 4 0 (.sl none 35 (List.map aK p0.Chunks)) rfl fD rfl rfl rfl (zC 5 rfl (xH lI rfl) (zC 6 rfl (mN rfl rfl rfl trivial) ?_)))))))
 obtain⟨x3,X3,m⟩:=aD m
 refine zC 7 rfl (lP X3 jL rfl rfl) (zC 8 rfl (m6 B7 rfl rfl) (zC 9 rfl (lW (nZ x3.Seq) cB rfl rfl) (zF 10 rfl mQ rfl (zE 11 rfl (aL 0 (aI { ({ Kind:=0,Id:=gW,Seq:=0,Of:=0,Off:=q3,Len:=20}:aE) with Kind:=2}) u rfl rfl rfl rfl AT rfl rfl λK22=>⟨⟨λ_=>aO 4 K22 rfl,λe=>absurd e (by decide),trivial⟩, ?_⟩)))))
 refine zF 12 rfl lR rfl (zE 13 rfl (aL 0 (aI { { ({ Kind:=0,Id:=gW,Seq:=0,Of:=0,Off:=q3,Len:=20}:aE) with Kind:=2} with Seq:=x3.Seq}) K22 rfl rfl rfl rfl AT rfl rfl λK23=>⟨⟨λ_=>aO 4 K23 rfl,λe=>absurd e (by decide),trivial⟩, ?_⟩))
 exact zX (qk (f:=LW 229 _ _ _ _ _ _ _ _ _ _ _ _ _) K23 rfl (LY m))
 refine v (vl 4 _ iG rfl rfl rfl (vl 4 _ fD rfl rfl rfl (dH lI rfl (vl 4 _ fI rfl rfl rfl (dH kZ rfl (vx m iR rfl rfl λx4 _ m=>va (.agg (cH x4)) zU rfl rfl (ve λu=>bG ([nZ 0,nZ 0,sZ]) u sP rfl rfl λk1631 K24=>qk K24 rfl (ve λu=>aL 0 (cH x4) u rfl rfl rfl rfl JT rfl rfl λK25=>qk K25 rfl (v (vz [(1000000,some k1631,.obj 99 (cH x4)),(5,some k1523,.obj 38 (aI ({ Kind:=0,Id:=gW,Seq:=0,Of:=0,Off:=q3,Len:=20}:aE)))] mixed (λu=>⟨λ_=>aO 0 u rfl,λ_=>aO 1 u rfl,trivial⟩) λu=>zF 0 rfl xV rfl (zL 1 0 (nZ x4.Seq) rfl cB rfl rfl rfl (zF 2 rfl GQ rfl (zL 3 0 (nZ x4.Of) rfl cB rfl rfl rfl (zF 4 rfl mQ rfl (zE 5 rfl (aL 1 (aI { ({ Kind:=0,Id:=gW,Seq:=0,Of:=0,Off:=q3,Len:=20}:aE) with Kind:=3}) u rfl rfl rfl rfl AT rfl rfl λK26=>⟨⟨λ_=>aO 0 K26 rfl,λe=>absurd e (by decide),trivial⟩, ?_⟩))))))))))))))))
 refine zF 6 rfl lR rfl (zE 7 rfl (aL 1 (aI { { ({ Kind:=0,Id:=gW,Seq:=0,Of:=0,Off:=q3,Len:=20}:aE) with Kind:=3} with Seq:=x4.Seq}) K26 rfl rfl rfl rfl AT rfl rfl λK27=>⟨⟨λ_=>aO 0 K27 rfl,λe=>absurd e (by decide),trivial⟩, ?_⟩))
 refine zF 8 rfl xP rfl (zE 9 rfl (aL 1 (aI { { { ({ Kind:=0,Id:=gW,Seq:=0,Of:=0,Off:=q3,Len:=20}:aE) with Kind:=3} with Seq:=x4.Seq} with Of:=x4.Of}) K27 rfl rfl rfl rfl AT rfl rfl λK28=>⟨⟨λ_=>aO 0 K28 rfl,λe=>absurd e (by decide),trivial⟩, ?_⟩))
 exact zX (qk (f:=fq7 193 _ _ _ _ _ _ _ _) K28 rfl (zH m (mE [1,2,3,4,5] rfl rfl (.k8 .nil))))
 rintro _ j7 m
 exact LY m
 rintro _ j8 m
 refine v (vl 0 (.agg (aI j8)) B6 rfl rfl rfl (bU (eA (List.map aI ([j8]:List aE)) lA rfl rfl rfl rfl) ?_))
 obtain⟨z1,Z3,m⟩:=aD m
 exact ve λu=>fG (c:=aI) 1 Z3 lA rfl rfl rfl t4 u rfl λtg5 t5 K29=>qk K29 rfl (eH m tg5 t5 (mE [1,2,3,4] rfl rfl (.k7 .nil)))
 rintro tg6 ⟨j9,j10⟩ t6 m
 exact v (eH m tg6 t6 (lx (.k7 .nil)))
 exact v (lN m tg4 t4 (lx (.k7 .nil)))
 rintro tg7 ⟨r2,r3,r4⟩ t7 m
 refine v (bU (eI ([nZ 3,nZ 0,.sc (.string ByteArray.empty),sZ,sZ,sZ,nZ 0,nZ j0,ow tg7 37 (List.map aI r2)]) B9 (by cases tg7 <;> rfl)) (bU (uU l4 t7 rfl) (ve λu=>aL 1 ([nZ 3,nZ 0,.sc (.string ByteArray.empty),sZ,sZ,sZ,nZ 0,nZ j0,ow tg7 37 (List.map aI r2)]) u rfl rfl rfl (by repeat (first | exact rfl | refine cG (jG _ _ _) ?_ | refine cG (cC _ _ _) ?_ | refine cG (gG _ _ _ _) ?_ | refine cG rfl ?_)) xT rfl rfl λK30=>qk K30 rfl ?_)))
 refine v ?_
 cases m
 exact vr λu=>dW.of2 (.inl rfl) (sE (.agg ([nZ 3,nZ 0,.sc (.string ByteArray.empty),sZ,sZ,sZ,nZ 0,nZ j0,ow tg7 37 (List.map aI r2)])) sO rfl (aW 1 u rfl) rfl) (gN _ _ (.sc (.bool _)) rfl) (aU (List.nil_sublist _) u).1 (bD.agg (.k3 (.cons (a9 _) (.cons (a9 _) (.cons (a9 _) (.k2 (.cons ((dU _ 0 t7 u rfl)) .nil))))))) (bD.refl _ _) ⟨rfl,rfl⟩
 refine v (v ?_)
 apply vi m <;> intro c16 m
 refine v (bU (eI ([nZ 4,nZ 0,.sc (.string ByteArray.empty),sZ,sZ,sZ,nZ 0,nZ j0,sZ]) B9 rfl) (ve λu=>aL 0 ([nZ 4,nZ 0,.sc (.string ByteArray.empty),sZ,sZ,sZ,nZ 0,nZ j0,sZ]) u rfl rfl rfl rfl xT rfl rfl λK31=>qk K31 rfl (v ?_)))
 cases m
 exact vr λu=>dW.of2 (.inl rfl) (sE (.agg ([nZ 4,nZ 0,.sc (.string ByteArray.empty),sZ,sZ,sZ,nZ 0,nZ j0,sZ])) sO rfl (aW 0 u rfl) rfl) (gN _ _ (.sc (.bool _)) rfl) (aU (List.nil_sublist _) u).1 (bD.agg (.k3 (.cons (a9 _) (.cons (a9 _) (.cons (a9 _) (.k2 (.cons (a9 _) .nil))))))) (bD.refl _ _) ⟨rfl,rfl⟩
 refine v (v (bU (eI ([nZ 5,nZ 0,.sc (.string ByteArray.empty),sZ,sZ,sZ,nZ 0,nZ j0,sZ]) B9 rfl) (ve λu=>aL 0 ([nZ 5,nZ 0,.sc (.string ByteArray.empty),sZ,sZ,sZ,nZ 0,nZ j0,sZ]) u rfl rfl rfl rfl xT rfl rfl λK32=>qk K32 rfl (v ?_))))
 cases m
 exact vr λu=>dW.of2 (.inl rfl) (sE (.agg ([nZ 5,nZ 0,.sc (.string ByteArray.empty),sZ,sZ,sZ,nZ 0,nZ j0,sZ])) sO rfl (aW 0 u rfl) rfl) (gN _ _ (.sc (.bool _)) rfl) (aU (List.nil_sublist _) u).1 (bD.agg (.k3 (.cons (a9 _) (.cons (a9 _) (.cons (a9 _) (.k2 (.cons (a9 _) .nil))))))) (bD.refl _ _) ⟨rfl,rfl⟩
theorem aH6:aP Tryz.prog 35=true:=by kernel_rfl
end Go.Proofs.YtbbifdfldpfphaaGreat
