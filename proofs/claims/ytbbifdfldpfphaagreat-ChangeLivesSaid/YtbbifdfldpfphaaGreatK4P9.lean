import Derived.Test.YtbbifdfldpfphaaGreatK4P4
import Derived.Test.YtbbifdfldpfphaaGreatK4P8
set_option linter.unusedSimpArgs false
set_option linter.unusedVariables false
set_option maxHeartbeats 4000000
set_option maxRecDepth 100000
namespace Go.Proofs.YtbbifdfldpfphaaGreat
open Go.Vm
def rO (m:Nat) (p1:aR) (q0:Bool) (q1:Int):Option (Lp (Bool×Int) (Lp (Int×fD) (Int×Int×fD))):=
 if (decide (q1 < (p1.Chunks.length:Int)))=true then (after (if q0=true then ((ix p1.Chunks q1).bind λx0=>if x0.Staged=true then ((ix p1.Chunks q1).bind λx1=>some (.brk ((x1.Locs.length:Int)==0))) else some (.brk false)) else some (.brk false):Option (Lp (Bool) (Lp (Bool×Int) (Lp (Int×fD) (Int×Int×fD))))) λj0=>some (.go (j0,IntKind.wrap .i64 (q1+1)))) else some (.brk (q0,q1))
def vP (m:Nat) (p1:aR) (q0:List aB) (q1:Int):Option (Lp ((List aB)×Int) (Lp (Int×fD) (Int×Int×fD))):=
 if (decide (q1 < (p1.Chunks.length:Int)))=true then ((ix p1.Chunks q1).bind λx0=>(FK m q0 x0).bind λy0=>some (.go (y0,IntKind.wrap .i64 (q1+1)))) else some (.brk (q0,q1))
def rP (m:Nat) (p1:aR) (q0:Bool) (q1:Int):Option (Lp (Bool×Int) (Lp (Int×fD) (Lp (Int×fD) (Lp (Int×fD) (Int×Int×fD))))):=
 if (decide (q1 < (p1.Items.length:Int)))=true then (after (if q0=true then ((ix p1.Items q1).bind λx0=>if (decide (1≤x0.Kind))=true then ((ix p1.Items q1).bind λx1=>some (.brk (decide (x1.Kind≤3)))) else some (.brk false)) else some (.brk false):Option (Lp (Bool) (Lp (Bool×Int) (Lp (Int×fD) (Lp (Int×fD) (Lp (Int×fD) (Int×Int×fD))))))) λj0=>some (.go (j0,IntKind.wrap .i64 (q1+1)))) else some (.brk (q0,q1))
def qA (m:Nat) (p0:aA) (p1:aR) (x0:aP) (q0:Int) (q1:List aH) (q2:List aB) (q3:List aQ) (q4:Int):Option (Lp (Int×(List aH)×(List aB)×(List aQ)×Int) (Lp (Int×fD) (Lp (Int×fD) (Lp (Int×fD) (Int×Int×fD))))):=
 if (decide (q4 < (p1.Items.length:Int)))=true then ((ix p1.Items q4).bind λx1=>(ix p1.Items q4).bind λx2=>(ix p1.Items q4).bind λx3=>(HM m ({ Seq:=q0,Snaps:=q1,Chunks:=q2,Exps:=q3,Vols:=(p0.Vols.set p1.Vol.toNat ({ x0 with State:=2})).set p1.Vol.toNat ({ ({ x0 with State:=2}:aP) with Files:=IntKind.wrap .i64 (x0.Files+1)})}:aA) x1 ({ Vol:=p1.Vol,File:=({ ({ x0 with State:=2}:aP) with Files:=IntKind.wrap .i64 (x0.Files+1)}:aP).Files,Off:=x2.Off,Len:=x3.Len}:bG)).bind λy0=>if (!y0.1)=true then (some (.ret (.ret (.ret (.ret (8,y0.2.1,y0.2.2.1,y0.2.2.2.1,y0.2.2.2.2,(p0.Vols.set p1.Vol.toNat ({ x0 with State:=2})).set p1.Vol.toNat ({ ({ x0 with State:=2}:aP) with Files:=IntKind.wrap .i64 (x0.Files+1)}))))))) else some (.go (y0.2.1,y0.2.2.1,y0.2.2.2.1,y0.2.2.2.2,IntKind.wrap .i64 (q4+1)))) else some (.brk (q0,q1,q2,q3,q4))
def nB (m:Nat) (p0:aA) (p1:aR) (x0:aP) (r0:Int) (r1:List aQ) (q0:List aH) (q1:List aB) (q2:Int):Option (Lp ((List aH)×(List aB)×Int) (Lp (Int×fD) (Lp (Int×fD) (Lp (Int×fD) (Int×Int×fD))))):=
 if (decide (q2 < (p1.Items.length:Int)))=true then ((ix p1.Items q2).bind λx1=>after (if (x1.Kind==3)=true then ((ix p1.Items q2).bind λx2=>(DC m ({ Seq:=r0,Snaps:=q0,Chunks:=q1,Exps:=r1,Vols:=(p0.Vols.set p1.Vol.toNat ({ x0 with State:=2})).set p1.Vol.toNat ({ ({ x0 with State:=2}:aP) with Files:=IntKind.wrap .i64 (x0.Files+1)})}:aA) x2.Of).bind λy0=>some (.brk (y0.2.1,y0.2.2))) else some (.brk (q0,q1)):Option (Lp ((List aH)×(List aB)) (Lp ((List aH)×(List aB)×Int) (Lp (Int×fD) (Lp (Int×fD) (Lp (Int×fD) (Int×Int×fD))))))) λ⟨j0,j1⟩=>some (.go (j0,j1,IntKind.wrap .i64 (q2+1)))) else some (.brk (q0,q1,q2))
def nK (m:Nat) (p0:aA) (p1:aR) (x0:aP) (r0:Int) (r1:List aQ) (r2:List aH) (q0:List aB) (q1:Int):Option (Lp ((List aB)×Int) (Lp ((List aB)) (Lp (Int×fD) (Lp (Int×fD) (Lp (Int×fD) (Int×Int×fD)))))):=
 if (decide (q1 < (p1.Items.length:Int)))=true then ((ix p1.Items q1).bind λx1=>after (if (x1.Kind==1)=true then ((ix p1.Items q1).bind λx2=>(KS m ({ Seq:=r0,Snaps:=r2,Chunks:=q0,Exps:=r1,Vols:=(p0.Vols.set p1.Vol.toNat ({ x0 with State:=2})).set p1.Vol.toNat ({ ({ x0 with State:=2}:aP) with Files:=IntKind.wrap .i64 (x0.Files+1)})}:aA) x2.Id).bind λy0=>after (if (decide (0≤y0))=true then ((ix q0 y0).bind λx3=>(ix (q0.set y0.toNat ({ x3 with Staged:=false})) y0).bind λx4=>some (.brk ((q0.set y0.toNat ({ x3 with Staged:=false})).set y0.toNat ({ x4 with Data:=([]:List Int)})))) else some (.brk q0):Option (Lp ((List aB)) (Lp ((List aB)) (Lp ((List aB)×Int) (Lp ((List aB)) (Lp (Int×fD) (Lp (Int×fD) (Lp (Int×fD) (Int×Int×fD))))))))) λj0=>some (.brk j0)) else some (.brk q0):Option (Lp ((List aB)) (Lp ((List aB)×Int) (Lp ((List aB)) (Lp (Int×fD) (Lp (Int×fD) (Lp (Int×fD) (Int×Int×fD)))))))) λj1=>some (.go (j1,IntKind.wrap .i64 (q1+1)))) else some (.brk (q0,q1))
def tT (m:Nat) (p0:aA) (p1:aR) (q0:List aB) (q1:Int):Option (Lp ((List aB)×Int) (Lp (fD) (Lp (Int×fD) (Lp (Int×fD) (Lp (Int×fD) (Int×Int×fD)))))):=
 if (decide (q1 < (p0.Chunks.length:Int)))=true then ((ix p0.Chunks q1).bind λx0=>(HK m x0.Locs p1.Vol).bind λy0=>after (if ({ x0 with Locs:=y0}.Staged)=true then (some (.brk true)) else some (.brk (decide (0 < (({ x0 with Locs:=y0}.Locs).length:Int)))):Option (Lp (Bool) (Lp ((List aB)×Int) (Lp (fD) (Lp (Int×fD) (Lp (Int×fD) (Lp (Int×fD) (Int×Int×fD)))))))) λj0=>after (if j0=true then ((app q0 ([{ x0 with Locs:=y0}]:List aB)).bind λz0=>some (.brk z0)) else some (.brk q0):Option (Lp ((List aB)) (Lp ((List aB)×Int) (Lp (fD) (Lp (Int×fD) (Lp (Int×fD) (Lp (Int×fD) (Int×Int×fD)))))))) λj1=>some (.go (j1,IntKind.wrap .i64 (q1+1)))) else some (.brk (q0,q1))
def tU (m:Nat) (p1:aR) (q0:List aH) (q1:Int):Option (Lp ((List aH)×Int) (Lp (fD) (Lp (Int×fD) (Lp (Int×fD) (Lp (Int×fD) (Int×Int×fD)))))):=
 if (decide (q1 < (q0.length:Int)))=true then ((ix q0 q1).bind λx0=>(HK m x0.Locs p1.Vol).bind λy0=>(ix q0 q1).bind λx1=>some (.go (q0.set q1.toNat ({ x1 with Locs:=y0}),IntKind.wrap .i64 (q1+1)))) else some (.brk (q0,q1))
def tV (m:Nat) (p0:aA) (p1:aR) (q0:List aQ) (q1:Int):Option (Lp ((List aQ)×Int) (Lp (fD) (Lp (Int×fD) (Lp (Int×fD) (Lp (Int×fD) (Int×Int×fD)))))):=
 if (decide (q1 < (p0.Exps.length:Int)))=true then ((ix p0.Exps q1).bind λx0=>(HK m x0.Locs p1.Vol).bind λy0=>after (if (decide (0 < (({ x0 with Locs:=y0}.Locs).length:Int)))=true then ((app q0 ([{ x0 with Locs:=y0}]:List aQ)).bind λz0=>some (.brk z0)) else some (.brk q0):Option (Lp ((List aQ)) (Lp ((List aQ)×Int) (Lp (fD) (Lp (Int×fD) (Lp (Int×fD) (Lp (Int×fD) (Int×Int×fD)))))))) λj0=>some (.go (j0,IntKind.wrap .i64 (q1+1)))) else some (.brk (q0,q1))
def rQ (m:Nat) (p0:aA) (p1:aR):Option (Int×Int×fD):=
 after (if (p1.Kind==1)=true then (after (if (p1.Snap.Seq==p0.Seq)=true then (some (.brk ((p1.Snap.Locs.length:Int)==0))) else some (.brk false):Option (Lp (Bool) (Lp (Int×fD) (Int×Int×fD)))) λj0=>after (aT (λs=>rO m p1 s.1 s.2) m (j0,0)) λ⟨r0,r1⟩=>if (!r0)=true then (some (.ret (1,p0.Seq,p0.Snaps,p0.Chunks,p0.Exps,p0.Vols))) else (yJ m ({ Seq:=p0.Seq,Snaps:=p0.Snaps,Chunks:=p0.Chunks,Exps:=p0.Exps,Vols:=p0.Vols}:aA) p1.Snap.Man.Name).bind λy0=>if (decide (0≤y0))=true then (some (.ret (9,p0.Seq,p0.Snaps,p0.Chunks,p0.Exps,p0.Vols))) else (app p0.Snaps ([p1.Snap]:List aH)).bind λz0=>after (aT (λs=>vP m p1 s.1 s.2) m (p0.Chunks,0)) λ⟨r2,r3⟩=>some (.brk (IntKind.wrap .i64 (p0.Seq+1),z0,r2,p0.Exps,p0.Vols))) else after (if (p1.Kind==2)=true then ((DC m ({ Seq:=p0.Seq,Snaps:=p0.Snaps,Chunks:=p0.Chunks,Exps:=p0.Exps,Vols:=p0.Vols}:aA) p1.Seq).bind λy1=>if (!y1.1)=true then (some (.ret (.ret (8,p0.Seq,y1.2.1,y1.2.2,p0.Exps,p0.Vols)))) else some (.brk (p0.Seq,y1.2.1,y1.2.2,p0.Exps,p0.Vols))) else after (if (p1.Kind==3)=true then (after ((AN m ({ Seq:=p0.Seq,Snaps:=p0.Snaps,Chunks:=p0.Chunks,Exps:=p0.Exps,Vols:=p0.Vols}:aA) p1.Vol 1 2).bind λy2=>if y2=true then (if (decide (1≤(p1.Items.length:Int)))=true then (some (.brk (decide ((p1.Items.length:Int)≤64)))) else some (.brk false)) else some (.brk false):Option (Lp (Bool) (Lp (Int×fD) (Lp (Int×fD) (Lp (Int×fD) (Int×Int×fD)))))) λj1=>after (aT (λs=>rP m p1 s.1 s.2) m (j1,0)) λ⟨r4,r5⟩=>if (!r4)=true then (some (.ret (.ret (.ret (1,p0.Seq,p0.Snaps,p0.Chunks,p0.Exps,p0.Vols))))) else (ix p0.Vols p1.Vol).bind λx0=>after (aT (λs=>qA m p0 p1 x0 s.1 s.2.1 s.2.2.1 s.2.2.2.1 s.2.2.2.2) m (p0.Seq,p0.Snaps,p0.Chunks,p0.Exps,0)) λ⟨r6,r7,r8,r9,r10⟩=>after (aT (λs=>nB m p0 p1 x0 r6 r9 s.1 s.2.1 s.2.2) m (r7,r8,0)) λ⟨r11,r12,r13⟩=>after (if ((({ ({ x0 with State:=2}:aP) with Files:=IntKind.wrap .i64 (x0.Files+1)}:aP).Pool)==0)=true then (after (aT (λs=>nK m p0 p1 x0 r6 r9 r11 s.1 s.2) m (r12,0)) λ⟨r14,r15⟩=>some (.brk r14)) else some (.brk r12):Option (Lp ((List aB)) (Lp (Int×fD) (Lp (Int×fD) (Lp (Int×fD) (Int×Int×fD)))))) λj2=>some (.brk (r6,r11,j2,r9,(p0.Vols.set p1.Vol.toNat ({ x0 with State:=2})).set p1.Vol.toNat ({ ({ x0 with State:=2}:aP) with Files:=IntKind.wrap .i64 (x0.Files+1)})))) else after (if (p1.Kind==4)=true then ((AN m ({ Seq:=p0.Seq,Snaps:=p0.Snaps,Chunks:=p0.Chunks,Exps:=p0.Exps,Vols:=p0.Vols}:aA) p1.Vol 2 2).bind λy3=>if (!y3)=true then (some (.ret (.ret (.ret (.ret (1,p0.Seq,p0.Snaps,p0.Chunks,p0.Exps,p0.Vols)))))) else (ix p0.Vols p1.Vol).bind λx1=>(ix (p0.Vols.set p1.Vol.toNat ({ x1 with State:=3})) p1.Vol).bind λx2=>after (aT (λs=>tT m p0 p1 s.1 s.2) m ([],0)) λ⟨r16,r17⟩=>after (aT (λs=>tU m p1 s.1 s.2) m (p0.Snaps,0)) λ⟨r18,r19⟩=>after (aT (λs=>tV m p0 p1 s.1 s.2) m ([],0)) λ⟨r20,r21⟩=>some (.brk (r18,r16,r20,(p0.Vols.set p1.Vol.toNat ({ x1 with State:=3})).set p1.Vol.toNat ({ x2 with Files:=0})))) else after (if (p1.Kind==5)=true then ((AN m ({ Seq:=p0.Seq,Snaps:=p0.Snaps,Chunks:=p0.Chunks,Exps:=p0.Exps,Vols:=p0.Vols}:aA) p1.Vol 3 3).bind λy4=>if (!y4)=true then (some (.ret (.ret (.ret (.ret (.ret (1,p0.Seq,p0.Snaps,p0.Chunks,p0.Exps,p0.Vols))))))) else (ix p0.Vols p1.Vol).bind λx3=>(ix p0.Vols p1.Vol).bind λx4=>(ix (p0.Vols.set p1.Vol.toNat ({ x4 with State:=1})) p1.Vol).bind λx5=>some (.brk ((p0.Vols.set p1.Vol.toNat ({ x4 with State:=1})).set p1.Vol.toNat ({ x5 with Epoch:=IntKind.wrap .i64 (x3.Epoch+1)})))) else some (.brk p0.Vols):Option (Lp ((List aP)) (Lp (fD) (Lp (Int×fD) (Lp (Int×fD) (Lp (Int×fD) (Int×Int×fD))))))) λj3=>some (.brk (p0.Snaps,p0.Chunks,p0.Exps,j3)):Option (Lp (fD) (Lp (Int×fD) (Lp (Int×fD) (Lp (Int×fD) (Int×Int×fD)))))) λ⟨j4,j5,j6,j7⟩=>some (.brk (p0.Seq,j4,j5,j6,j7)):Option (Lp (Int×fD) (Lp (Int×fD) (Lp (Int×fD) (Int×Int×fD))))) λ⟨j8,j9,j10,j11,j12⟩=>some (.brk (j8,j9,j10,j11,j12)):Option (Lp (Int×fD) (Lp (Int×fD) (Int×Int×fD)))) λ⟨j13,j14,j15,j16,j17⟩=>some (.brk (j13,j14,j15,j16,j17)):Option (Lp (Int×fD) (Int×Int×fD))) λ⟨j18,j19,j20,j21,j22⟩=>some (0,j18,j19,j20,j21,j22)
theorem W91 {w:Nat} {p0:aA} {p1:aR} {o:Int×Int×fD} (h:aF) {p0K:cE} {gS:cU} (ok_Snaps:bK gS 4 p0.Snaps.length) {gC:cU} (oC:bK gC 35 p0.Chunks.length) {gE:cU} (oE:bK gE 3 p0.Exps.length) {gV:cU} (oV:bK gV 4 p0.Vols.length) (K0:bV h (hC p0K p0 gS gC gE gV)) (m:rQ w p0 p1=some o):
 aL Tryz.prog 91 [.ptr p0K 0,.agg (aD p1)] (hp h (hC p0K p0 gS gC gE gV)) (λr h'=>∃g_Snaps':cU,bK g_Snaps' 4 (o.2.2.1:List aH).length∧∃g_Chunks':cU,bK g_Chunks' 35 (o.2.2.2.1:List aB).length∧∃g_Exps':cU,bK g_Exps' 3 (o.2.2.2.2.1:List aQ).length∧∃g_Vols':cU,bK g_Vols' 4 (o.2.2.2.2.2:List aP).length∧bV h (hL p0K o.2.1 g_Snaps' g_Chunks' g_Exps' g_Vols' o.2.2.1 o.2.2.2.1 o.2.2.2.2.1 o.2.2.2.2.2)∧r=nZ o.1∧h'=hp h (hL p0K o.2.1 g_Snaps' g_Chunks' g_Exps' g_Vols' o.2.2.1 o.2.2.2.1 o.2.2.2.2.1 o.2.2.2.2.2)):=by
 refine uE K0 443 [.tmp 4] Tryz.func91 rfl rfl rfl rfl ?_
 unfold rQ at m
 refine vs (v0 (gO rfl rfl λk2 K3=>vs (vs (v0 (dN CS rfl rfl (vl 0 _ bZ rfl rfl rfl (v0 (vs (v0 (pJ m (σ:=Int×fD) (τ:=cU×cU×cU×cU) (λg s=>((some k2,.obj 62 (aD p1))::(hL p0K s.1 g.1 g.2.1 g.2.2.1 g.2.2.2 s.2.1 s.2.2.1 s.2.2.2.1 s.2.2.2.2))) (λg s=>bK g.1 4 (s.2.1:List aH).length∧bK g.2.1 35 (s.2.2.1:List aB).length∧bK g.2.2.1 3 (s.2.2.2.1:List aQ).length∧bK g.2.2.2 4 (s.2.2.2.2:List aP).length) (λg s=>.nil) (λx m=> ?_) ?_))))))))))
 refine v0 ?_
 apply vi m <;> intro c0 m
 refine vs (fL m (σ:=Bool) (λs=>((some k2,.obj 62 (aD p1))::(hC p0K p0 gS gC gE gV))) (λs=>.c 0 (.ptr p0K 0) (.c 3 (.ptr k2 0) (.c 5 (.sc (.bool s)) .nil))) (λx m=> ?_) ?_)
 refine v0 (wU (by kernel_rfl) (dN lC rfl rfl (dN uY rfl rfl (vl 0 _ bZ rfl rfl rfl (jM rfl (dN nQ rfl rfl (vl 1 _ bZ rfl rfl rfl ?_)))))))
 apply vi m <;> intro b0 m
 rw[b0]
 exact dN lC rfl rfl (dN jS rfl rfl (vl 0 _ eZ rfl rfl rfl (dE i9 rfl (gK m))))
 rw[b0]
 exact gK m
 rintro _ j0 m
 refine vs (vs (v0 (jN m (σ:=Bool×Int) (λs=>((some k2,.obj 62 (aD p1))::(hC p0K p0 gS gC gE gV))) (λs=>.c 0 (.ptr p0K 0) (.c 3 (.ptr k2 0) (.c 5 (.sc (.bool s.1)) (.c 6 (nZ s.2) .nil)))) (lx (.k4 .nil)) ?_ ?_)))
 rintro _ ⟨q0,q1⟩ x m
 replace m:rO w p1 q0 q1=some x:=m
 unfold rO at m
 refine vs (vs (v0 (dN m7 rfl rfl (vl 0 _ eU rfl rfl rfl (dE iX rfl (v0 ?_))))))
 apply vi m <;> intro c1 m
 refine v0 (vs (v0 (fL m (σ:=Bool) (λs=>((some k2,.obj 62 (aD p1))::(hC p0K p0 gS gC gE gV))) (λs=>.c 0 (.ptr p0K 0) (.c 3 (.ptr k2 0) (.c 5 (.sc (.bool s)) (.c 6 (nZ q1) .nil)))) (λx m=> ?_) ?_)))
 refine v0 ?_
 apply vi m <;> intro b1 m
 rw[b1]
 refine dN m7 rfl rfl (vl 0 _ eU rfl rfl rfl (vx m fJ rfl rfl λx0 _ m=>bW (o9 oI rfl rfl) (va (.sc (.bool x0.Staged)) CN rfl rfl ?_)))
 apply vi m <;> intro b2 m
 rw[b2]
 exact dN m7 rfl rfl (vl 0 _ eU rfl rfl rfl (vx m fJ rfl rfl λx1 _ m=>bW (o9 iY rfl rfl) (va (.sl none 4 (List.map aO x1.Locs)) eZ rfl rfl (dE i9 rfl (f8 m)))))
 rw[b2]
 exact f8 m
 rw[b1]
 exact f8 m
 rintro _ j1 m
 exact v0 (f8 m)
 exact v0 (wS m)
 rintro _ ⟨r0,r1⟩ m
 refine vs (vs (v0 (v0 ?_)))
 apply vi m <;> intro c2 m
 refine vs (v0 (v0 (fZ m λm=> ?_)))
 cases m
 exact vr λu=>dX.of1 (.inl rfl) (fT _ _ (.sc (.int _ _)) rfl) (bI u [1,2,3,4,5] rfl).2 (bJ.refl _ _) ⟨gS,ok_Snaps,gC,oC,gE,oE,gV,oV,(bI u [1,2,3,4,5] rfl).1,rfl,rfl⟩
 refine v0 (vs (vs (v0 (wU (by kernel_rfl) (jM rfl (vl 1 (.agg ([nZ p0.Seq,aZ gS,aZ gC,aZ gE,aZ gV])) eV rfl rfl rfl (dN lC rfl rfl (dN oJ rfl rfl (dN LZ rfl rfl (vl 0 _ uF rfl rfl rfl ?_))))))))))
 obtain⟨_,Y0,m⟩:=aC m
 refine vn (λu=>cC (fF (.cons (Br.agg (.cons (Br.refl _ _) (.cons (Br.aw 2 eJ ok_Snaps u rfl) (.cons (Br.aw 3 cR oC u rfl) (.cons (Br.aw 4 fM oE u rfl) (.cons (Br.aw 5 eA oV u rfl) .nil)))))) (.cons (Br.refl _ _) .nil)) rfl (T4 _ Y0)) rfl MK rfl) (v0 ?_)
 apply vi m <;> intro c3 m
 refine vs (v0 (v0 (fZ m λm=> ?_)))
 cases m
 exact vr λu=>dX.of1 (.inl rfl) (fT _ _ (.sc (.int _ _)) rfl) (bI u [1,2,3,4,5] rfl).2 (bJ.refl _ _) ⟨gS,ok_Snaps,gC,oC,gE,oE,gV,oV,(bI u [1,2,3,4,5] rfl).1,rfl,rfl⟩
 refine v0 (vs (v0 (jM rfl (dN nQ rfl rfl (vl 1 _ bZ rfl rfl rfl (jM rfl (dN nQ rfl rfl (ve λu=>aK 1 ([nZ (IntKind.wrap .i64 (p0.Seq+1)),aZ gS,aZ gC,aZ gE,aZ gV]) u rfl rfl rfl rfl AA rfl rfl λK1=>qk K1 rfl (vs (v0 (vz [(11,some p0K,.obj 30 ([nZ (IntKind.wrap .i64 (p0.Seq+1)),aZ gS,aZ gC,aZ gE,aZ gV])),(1000000,some k2,.obj 62 (aD p1))] mixed (λu=>⟨λ_=>aI 1 u rfl,λ_=>aI 0 u rfl,trivial⟩) λu=>zP 0 rfl rfl (zP 1 rfl rfl (zN 2 rfl rfl (zF 3 rfl dV rfl (zL 4 0 (aZ gS) rfl fC rfl rfl rfl (zF 5 rfl lC rfl (zL 6 1 (.agg (bP p1.Snap)) rfl rG rfl rfl rfl (zC 7 rfl (eL (List.map bP ([p1.Snap]:List aH)) wM rfl rfl rfl rfl) ?_))))))))))))))))))
 obtain⟨z0,Z0,m⟩:=aC m
 refine zE 8 rfl (gD (c:=bP) 2 Z0 wM rfl uZ rfl eJ rfl rfl ok_Snaps u rfl λag0 O0 K2=>⟨⟨λ_=>aI 1 K2 rfl,λ_=>aI 0 K2 rfl,trivial⟩, ?_⟩)
 refine zN 9 rfl rfl (zF 10 rfl dV rfl (zE 11 rfl (aK 1 ([nZ (IntKind.wrap .i64 (p0.Seq+1)),aZ ag0,aZ gC,aZ gE,aZ gV]) K2 rfl rfl (cD rfl) (cG (bY _ _ _) rfl) GT rfl rfl λK4=>⟨⟨λe=>absurd e (by decide),λ_=>aI 0 K4 rfl,trivial⟩, ?_⟩)))
 refine zX (qk (f:=TB 95 _ _ _ _ _ _ _ _ _ _ _ _) K4 rfl (vs (v0 (nP m (σ:=(List aB)×Int) (τ:=cU) (λg s=>((some k2,.obj 62 (aD p1))::(hL p0K (IntKind.wrap .i64 (p0.Seq+1)) ag0 g gE gV z0 s.1 p0.Exps p0.Vols))) (λg s=>bK g 35 (s.1:List aB).length) (λg s=>.c 0 (.ptr p0K 0) (.c 3 (.ptr k2 0) (.c 7 (nZ s.2) .nil))) gC oC (lx (.k3 .nil)) ?_ ?_))))
 rintro ag1 ⟨q2,q3⟩ x O1 m
 replace m:vP w p1 q2 q3=some x:=m
 unfold vP at m
 refine vs (vs (v0 (dN m7 rfl rfl (vl 0 _ eU rfl rfl rfl (dE iX rfl (v0 ?_))))))
 apply vi m <;> intro c4 m
 refine v0 (vs (v0 (v0 (vz [(13,some p0K,.obj 30 ([nZ (IntKind.wrap .i64 (p0.Seq+1)),aZ ag0,aZ ag1,aZ gE,aZ gV])),(1000000,some k2,.obj 62 (aD p1))] mixed (λu=>⟨λ_=>aI 1 u rfl,λ_=>aI 0 u rfl,trivial⟩) λu=>zP 0 rfl rfl (zP 1 rfl rfl (zN 2 rfl rfl (zF 3 rfl dY rfl (zL 4 0 (aZ ag1) rfl eU rfl rfl rfl (zF 5 rfl m7 rfl (zL 6 1 (.sl none 35 (List.map aJ p1.Chunks)) rfl eU rfl rfl rfl (zI 7 rfl rfl ?_)))))))))))
 obtain⟨x2,X0,m⟩:=aC m
 refine zC 8 rfl (mI X0 fJ rfl rfl) (zC 9 rfl (mX (.agg (aJ x2)) lZ rfl rfl) ?_)
 obtain⟨_,Y1,m⟩:=aC m
 refine zE 10 rfl (xV (s:=107) (.sl none 35 (List.map aJ q2)) (aS (.cons_cons _ (.cons_cons _ (.cons_cons _ (.cons _ (.refl _))))) u).1 (Fz.aw 3 cR O1 u rfl (.refl _)) (cM (aAV _ Y1) rfl aAW rfl ?_))
 rintro x h' ⟨ag2,O2,K5,rfl,rfl⟩
 rw[iV]
 refine⟨⟨λ_=>aI 2 (bV.co ((aS (.cons_cons _ (.cons_cons _ (.cons_cons _ (.cons _ (.refl _))))) u).2) K5) rfl,λ_=>aI 1 (bV.co ((aS (.cons_cons _ (.cons_cons _ (.cons_cons _ (.cons _ (.refl _))))) u).2) K5) rfl,trivial⟩, ?_⟩
 refine zN 11 rfl rfl (zF 12 rfl dY rfl (zE 13 rfl (aK 2 ([nZ (IntKind.wrap .i64 (p0.Seq+1)),aZ ag0,aZ ag2,aZ gE,aZ gV]) (bV.co ((aS (.cons_cons _ (.cons_cons _ (.cons_cons _ (.cons _ (.refl _))))) u).2) K5) rfl rfl (cD rfl) (cG (bY _ _ _) rfl) AD rfl rfl λK6=>⟨⟨λe=>absurd e (by decide),λ_=>aI 1 K6 rfl,trivial⟩, ?_⟩)))
 exact zX (qk (f:=TC 115 _ _ _ _ _ _ _ _ _ _ _ _ _ _) K6 rfl (v0 (eW m ag2 O2 (lJ [1,2,3,0,4,5] rfl rfl (.k3 .nil)))))
 exact v0 (lK m ag1 O1 (lx (.k3 .nil)))
 rintro ag3 ⟨r2,r3⟩ t0 m
 exact eW m (ag0,ag3,gE,gV) ⟨O0,t0,oE,oV⟩ (lx .nil)
 refine vs (v0 (pJ m (σ:=Int×fD) (τ:=cU×cU×cU×cU) (λg s=>((some k2,.obj 62 (aD p1))::(hL p0K s.1 g.1 g.2.1 g.2.2.1 g.2.2.2 s.2.1 s.2.2.1 s.2.2.2.1 s.2.2.2.2))) (λg s=>bK g.1 4 (s.2.1:List aH).length∧bK g.2.1 35 (s.2.2.1:List aB).length∧bK g.2.2.1 3 (s.2.2.2.1:List aQ).length∧bK g.2.2.2 4 (s.2.2.2.2:List aP).length) (λg s=>.nil) (λx m=> ?_) ?_))
 refine v0 ?_
 apply vi m <;> intro c5 m
 refine vs (v0 (dN TN rfl rfl (vl 0 _ bZ rfl rfl rfl ?_)))
 obtain⟨y0,Y2,m⟩:=aC m
 refine ve λu=>dC ((bE u [1,2,3,4,5,0] rfl rfl).1.trans (cW h (hC p0K p0 gS gC gE gV) [(some k2,.obj 62 (aD p1))]).symm) (cM (aAY (hp h [(some k2,.obj 62 (aD p1))]) ok_Snaps oC oE oV (cL (hC p0K p0 gS gC gE gV) [(some k2,.obj 62 (aD p1))] (bE u [1,2,3,4,5,0] rfl rfl).2).2 Y2) rfl SM rfl ?_)
 rintro x h' ⟨ag4,O3,ag5,O4,K7,rfl,rfl⟩
 have K8:=bE (L':=((some k2,.obj 62 (aD p1))::(hL p0K p0.Seq ag4 ag5 gE gV y0.2.1 y0.2.2 p0.Exps p0.Vols))) (dI (cL (hC p0K p0 gS gC gE gV) [(some k2,.obj 62 (aD p1))] (bE u [1,2,3,4,5,0] rfl rfl).2).1 K7) [5,0,1,2,3,4] rfl rfl
 refine qk K8.2 ((cW h (hL p0K p0.Seq ag4 ag5 gE gV y0.2.1 y0.2.2 p0.Exps p0.Vols) [(some k2,.obj 62 (aD p1))]).trans K8.1) (v0 ?_)
 apply vi m <;> intro c6 m
 refine vs (v0 (v0 (fZ m λm=>fZ m λm=> ?_)))
 cases m
 exact vr λu=>dX.of1 (.inl rfl) (fT _ _ (.sc (.int _ _)) rfl) (bI u [1,2,3,4,5] rfl).2 (bJ.refl _ _) ⟨ag4,O3,ag5,O4,gE,oE,gV,oV,(bI u [1,2,3,4,5] rfl).1,rfl,rfl⟩
 exact v0 (eW m (ag4,ag5,gE,gV) ⟨O3,O4,oE,oV⟩ (lx .nil))
 refine vs (v0 (pJ m (σ:=Int×fD) (τ:=cU×cU×cU×cU) (λg s=>((some k2,.obj 62 (aD p1))::(hL p0K s.1 g.1 g.2.1 g.2.2.1 g.2.2.2 s.2.1 s.2.2.1 s.2.2.2.1 s.2.2.2.2))) (λg s=>bK g.1 4 (s.2.1:List aH).length∧bK g.2.1 35 (s.2.2.1:List aB).length∧bK g.2.2.1 3 (s.2.2.2.1:List aQ).length∧bK g.2.2.2 4 (s.2.2.2.2:List aP).length) (λg s=>.nil) (λx m=> ?_) ?_))
 refine v0 ?_
 apply vi m <;> intro c7 m
 refine vs (fL m (σ:=Bool) (λs=>((some k2,.obj 62 (aD p1))::(hC p0K p0 gS gC gE gV))) (λs=>.c 0 (.ptr p0K 0) (.c 3 (.ptr k2 0) (.c 8 (.sc (.bool s)) .nil))) (λx m=> ?_) ?_)
 refine v0 (dN fG rfl rfl (vl 0 _ bZ rfl rfl rfl ?_))
 obtain⟨_,Y3,m⟩:=aC m
 refine ve λu=>dC ((bE u [1,2,3,4,5,0] rfl rfl).1.trans (cW h (hC p0K p0 gS gC gE gV) [(some k2,.obj 62 (aD p1))]).symm) (cM (U0 (hp h [(some k2,.obj 62 (aD p1))]) ok_Snaps oC oE oV (cL (hC p0K p0 gS gC gE gV) [(some k2,.obj 62 (aD p1))] (bE u [1,2,3,4,5,0] rfl rfl).2).2 Y3) rfl NT rfl ?_)
 rintro x h' ⟨K9,rfl,rfl⟩
 have K10:=bE (L':=((some k2,.obj 62 (aD p1))::(hC p0K p0 gS gC gE gV))) (dI (cL (hC p0K p0 gS gC gE gV) [(some k2,.obj 62 (aD p1))] (bE u [1,2,3,4,5,0] rfl rfl).2).1 K9) [5,0,1,2,3,4] rfl rfl
 refine qk K10.2 ((cW h (hC p0K p0 gS gC gE gV) [(some k2,.obj 62 (aD p1))]).trans K10.1) ?_
 apply vi m <;> intro b3 m
 rw[b3]
 refine dN gU rfl rfl (vl 0 _ kZ rfl rfl rfl (dE pB rfl ?_))
 apply vi m <;> intro b4 m
 rw[b4]
 exact dN gU rfl rfl (vl 0 _ kZ rfl rfl rfl (dE pB rfl (gK m)))
 rw[b4]
 exact gK m
 rw[b3]
 exact gK m
 rintro _ j2 m
 refine vs (vs (v0 (jN m (σ:=Bool×Int) (λs=>((some k2,.obj 62 (aD p1))::(hC p0K p0 gS gC gE gV))) (λs=>.c 0 (.ptr p0K 0) (.c 3 (.ptr k2 0) (.c 8 (.sc (.bool s.1)) (.c 9 (nZ s.2) .nil)))) (lx (.k4 .nil)) ?_ ?_)))
 rintro _ ⟨q4,q5⟩ x m
 replace m:rP w p1 q4 q5=some x:=m
 unfold rP at m
 refine vs (vs (v0 (dN gU rfl rfl (vl 0 _ kZ rfl rfl rfl (dE pB rfl (v0 ?_))))))
 apply vi m <;> intro c8 m
 refine v0 (vs (v0 (fL m (σ:=Bool) (λs=>((some k2,.obj 62 (aD p1))::(hC p0K p0 gS gC gE gV))) (λs=>.c 0 (.ptr p0K 0) (.c 3 (.ptr k2 0) (.c 8 (.sc (.bool s)) (.c 9 (nZ q5) .nil)))) (λx m=> ?_) ?_)))
 refine v0 ?_
 apply vi m <;> intro b5 m
 rw[b5]
 refine dN gU rfl rfl (vl 0 _ kZ rfl rfl rfl (vx m wN rfl rfl λx3 _ m=>bW (o9 lY rfl rfl) (va (nZ x3.Kind) bZ rfl rfl ?_)))
 apply vi m <;> intro b6 m
 rw[b6]
 exact dN gU rfl rfl (vl 0 _ kZ rfl rfl rfl (vx m wN rfl rfl λx4 _ m=>bW (o9 lY rfl rfl) (va (nZ x4.Kind) bZ rfl rfl (f8 m))))
 rw[b6]
 exact f8 m
 rw[b5]
 exact f8 m
 rintro _ j3 m
 exact v0 (f8 m)
 exact v0 (wS m)
 rintro _ ⟨r4,r5⟩ m
 refine vs (vs (v0 (v0 ?_)))
 apply vi m <;> intro c9 m
 refine vs (v0 (v0 (fZ m λm=>fZ m λm=>fZ m λm=> ?_)))
 cases m
 exact vr λu=>dX.of1 (.inl rfl) (fT _ _ (.sc (.int _ _)) rfl) (bI u [1,2,3,4,5] rfl).2 (bJ.refl _ _) ⟨gS,ok_Snaps,gC,oC,gE,oE,gV,oV,(bI u [1,2,3,4,5] rfl).1,rfl,rfl⟩
 refine v0 (vs (v0 (wU (by kernel_rfl) (jM rfl (dN fP rfl rfl (vl 1 (aZ gV) iP rfl rfl rfl (dN fG rfl rfl (vl 0 _ bZ rfl rfl rfl ?_))))))))
 obtain⟨x5,X1,m⟩:=aC m
 refine bW (cP X1 lQ oV rfl rfl) (vs (v0 (bW (iW (bK.ne oV X1) rfl) (bW (cV (bK.ne oV X1) pS rfl rfl) (vn (λu=>dW (fo:=3) (nZ x5.Files) X1 eA oV bZ rfl (aI 5 u rfl) (λ_=>rfl)) (bW (iW (bK.ne oV X1) rfl) (bW (cV (bK.ne oV X1) m5 rfl rfl) (ve λu=>cK (fo:=2) ({ x5 with State:=2}:aP) 5 u X1 eA oV rfl rfl rfl rfl (cX.refl _ _) AA rfl rfl λK11=>qk K11 rfl (bW (iW (bK.ne (bK.set oV) (dG (x':=({ x5 with State:=2}:aP)) X1)) rfl) (bW (cV (bK.ne (bK.set oV) (dG (x':=({ x5 with State:=2}:aP)) X1)) pS rfl rfl) (ve λu=>cK (fo:=3) ({ ({ x5 with State:=2}:aP) with Files:=IntKind.wrap .i64 (x5.Files+1)}:aP) 5 u (dG (x':=({ x5 with State:=2}:aP)) X1) eA (bK.set oV) rfl rfl rfl rfl (cX.refl _ _) AA rfl rfl λK12=>qk K12 rfl (vs (vs (v0 (nP m (σ:=Int×(List aH)×(List aB)×(List aQ)×Int) (τ:=cU×cU×cU) (λg s=>((some k2,.obj 62 (aD p1))::(hL p0K s.1 g.1 g.2.1 g.2.2 gV s.2.1 s.2.2.1 s.2.2.2.1 ((p0.Vols.set p1.Vol.toNat ({ x5 with State:=2})).set p1.Vol.toNat ({ ({ x5 with State:=2}:aP) with Files:=IntKind.wrap .i64 (x5.Files+1)}))))) (λg s=>bK g.1 4 (s.2.1:List aH).length∧bK g.2.1 35 (s.2.2.1:List aB).length∧bK g.2.2 3 (s.2.2.2.1:List aQ).length) (λg s=>.c 0 (.ptr p0K 0) (.c 3 (.ptr k2 0) (.c 10 (wH gV.t (p1.Vol.toNat*4+0)) (.c 11 (nZ s.2.2.2.2) .nil)))) (gS,gC,gE) (⟨ok_Snaps,oC,oE⟩) (lx (.k4 .nil)) ?_ ?_)))))))))))))))
 rintro⟨ag6,ag7,ag8⟩ ⟨q6,q7,q8,q9,q10⟩ x ⟨O5,O6,O7⟩ m
 replace m:qA w p0 p1 x5 q6 q7 q8 q9 q10=some x:=m
 unfold qA at m
 refine vs (vs (v0 (dN gU rfl rfl (vl 0 _ kZ rfl rfl rfl (dE pB rfl (v0 ?_))))))
 apply vi m <;> intro c10 m
 refine v0 (vs (v0 (vs (v0 (vz [(1000000,some k2,.obj 62 (aD p1)),(1000000,gV.t,.obj 49 (fl cI ((p0.Vols.set p1.Vol.toNat ({ x5 with State:=2})).set p1.Vol.toNat ({ ({ x5 with State:=2}:aP) with Files:=IntKind.wrap .i64 (x5.Files+1)}):List aP) gV.sp))] mixed (λu=>⟨λ_=>aI 0 u rfl,λ_=>aI 5 u rfl,trivial⟩) λu=>zP 0 rfl rfl (zF 1 rfl gU rfl (zL 2 0 (.sl none 37 (List.map a8 p1.Items)) rfl kZ rfl rfl rfl (zI 3 rfl rfl ?_))))))))
 obtain⟨x6,X2,m⟩:=aC m
 refine zC 4 rfl (mI X2 wN rfl rfl) (zC 5 rfl (mX (.agg (a8 x6)) GV rfl rfl) (zF 6 rfl fG rfl (zL 7 0 (nZ p1.Vol) rfl bZ rfl rfl rfl (zC 8 rfl (eS (wH _ _) rfl) (zC 9 rfl (iW (bK.ne (bK.set (bK.set oV)) (dG (x':=({ ({ x5 with State:=2}:aP) with Files:=IntKind.wrap .i64 (x5.Files+1)}:aP)) (dG (x':=({ x5 with State:=2}:aP)) X1))) rfl) (zC 10 rfl (cV (bK.ne (bK.set (bK.set oV)) (dG (x':=({ ({ x5 with State:=2}:aP) with Files:=IntKind.wrap .i64 (x5.Files+1)}:aP)) (dG (x':=({ x5 with State:=2}:aP)) X1))) pS rfl rfl) (wJ 11 rfl (λ_ _ hi hB=>dW (fo:=3) (nZ (({ ({ x5 with State:=2}:aP) with Files:=IntKind.wrap .i64 (x5.Files+1)}:aP).Files)) (dG (x':=({ ({ x5 with State:=2}:aP) with Files:=IntKind.wrap .i64 (x5.Files+1)}:aP)) (dG (x':=({ x5 with State:=2}:aP)) X1)) eA (bK.set (bK.set oV)) bZ rfl (fV.get 1 hi rfl (hB 1000000 (by kernel_rfl))) (λ_=>rfl)) (zF 12 rfl gU rfl (zL 13 0 (.sl none 37 (List.map a8 p1.Items)) rfl kZ rfl rfl rfl (zI 14 rfl rfl ?_))))))))))
 obtain⟨x7,X3,m⟩:=aC m
 refine zC 15 rfl (mI X3 wN rfl rfl) (zC 16 rfl (o9 GW rfl rfl) (zC 17 rfl (mX (nZ x7.Off) bZ rfl rfl) (zF 18 rfl gU rfl (zL 19 0 (.sl none 37 (List.map a8 p1.Items)) rfl kZ rfl rfl rfl (zI 20 rfl rfl ?_)))))
 obtain⟨x8,X4,m⟩:=aC m
 refine zC 21 rfl (mI X4 wN rfl rfl) (zC 22 rfl (o9 GX rfl rfl) (zC 23 rfl (mX (nZ x8.Len) bZ rfl rfl) (zC 24 rfl (fI (aO ({ Vol:=p1.Vol,File:=({ ({ x5 with State:=2}:aP) with Files:=IntKind.wrap .i64 (x5.Files+1)}:aP).Files,Off:=x7.Off,Len:=x8.Len}:bG)) W1 rfl) ?_)))
 obtain⟨y1,Y4,m⟩:=aC m
 refine zE 25 rfl (dC ((bE u [1,2,3,4,5,0] rfl rfl).1.trans (cW h (hL p0K q6 ag6 ag7 ag8 gV q7 q8 q9 ((p0.Vols.set p1.Vol.toNat ({ x5 with State:=2})).set p1.Vol.toNat ({ ({ x5 with State:=2}:aP) with Files:=IntKind.wrap .i64 (x5.Files+1)}))) [(some k2,.obj 62 (aD p1))]).symm) (cM (aF7 (hp h [(some k2,.obj 62 (aD p1))]) O5 O6 O7 (bK.set (bK.set oV)) (cL (hL p0K q6 ag6 ag7 ag8 gV q7 q8 q9 ((p0.Vols.set p1.Vol.toNat ({ x5 with State:=2})).set p1.Vol.toNat ({ ({ x5 with State:=2}:aP) with Files:=IntKind.wrap .i64 (x5.Files+1)}))) [(some k2,.obj 62 (aD p1))] (bE u [1,2,3,4,5,0] rfl rfl).2).2 Y4) rfl aAZ rfl ?_))
 rintro x h' ⟨ag9,O8,ag10,O9,ag11,O10,K13,rfl,rfl⟩
 have K14:=bE (L':=((some k2,.obj 62 (aD p1))::(hL p0K y1.2.1 ag9 ag10 ag11 gV y1.2.2.1 y1.2.2.2.1 y1.2.2.2.2 ((p0.Vols.set p1.Vol.toNat ({ x5 with State:=2})).set p1.Vol.toNat ({ ({ x5 with State:=2}:aP) with Files:=IntKind.wrap .i64 (x5.Files+1)}))))) (dI (cL (hL p0K q6 ag6 ag7 ag8 gV q7 q8 q9 ((p0.Vols.set p1.Vol.toNat ({ x5 with State:=2})).set p1.Vol.toNat ({ ({ x5 with State:=2}:aP) with Files:=IntKind.wrap .i64 (x5.Files+1)}))) [(some k2,.obj 62 (aD p1))] (bE u [1,2,3,4,5,0] rfl rfl).2).1 K13) [5,0,1,2,3,4] rfl rfl
 refine kT ((cW h (hL p0K y1.2.1 ag9 ag10 ag11 gV y1.2.2.1 y1.2.2.2.1 y1.2.2.2.2 ((p0.Vols.set p1.Vol.toNat ({ x5 with State:=2})).set p1.Vol.toNat ({ ({ x5 with State:=2}:aP) with Files:=IntKind.wrap .i64 (x5.Files+1)}))) [(some k2,.obj 62 (aD p1))]).trans K14.1) (⟨⟨λ_=>aI 0 K14.2 rfl,λ_=>aI 5 K14.2 rfl,trivial⟩, ?_⟩)
 refine zC 26 rfl (WD rfl) (zX (qk (f:=aCV 220 _ _ _ _ _ _ _ _ _ _ _ _ _ _ _ _ _ _ _ _ _ _ _ _ _ _ _ _) K14.2 rfl (v0 ?_)))
 apply vi m <;> intro c11 m
 refine vs (v0 (v0 (fZ m λm=>fZ m λm=>fZ m λm=>fZ m λm=> ?_)))
 cases m
 exact vr λu=>dX.of1 (.inl rfl) (fT _ _ (.sc (.int _ _)) rfl) (bI u [1,2,3,4,5] rfl).2 (bJ.refl _ _) ⟨ag9,O8,ag10,O9,ag11,O10,gV,(bK.set (bK.set oV)),(bI u [1,2,3,4,5] rfl).1,rfl,rfl⟩
 exact v0 (v0 (eW m (ag9,ag10,ag11) ⟨O8,O9,O10⟩ (lx (.k4 .nil))))
 exact v0 (lK m (ag6,ag7,ag8) ⟨O5,O6,O7⟩ (lx (.k4 .nil)))
 rintro⟨ag12,ag13,ag14⟩ ⟨r6,r7,r8,r9,r10⟩ ⟨t1,t2,t3⟩ m
 refine vs (vs (v0 (nP m (σ:=(List aH)×(List aB)×Int) (τ:=cU×cU) (λg s=>((some k2,.obj 62 (aD p1))::(hL p0K r6 g.1 g.2 ag14 gV s.1 s.2.1 r9 ((p0.Vols.set p1.Vol.toNat ({ x5 with State:=2})).set p1.Vol.toNat ({ ({ x5 with State:=2}:aP) with Files:=IntKind.wrap .i64 (x5.Files+1)}))))) (λg s=>bK g.1 4 (s.1:List aH).length∧bK g.2 35 (s.2.1:List aB).length) (λg s=>.c 0 (.ptr p0K 0) (.c 3 (.ptr k2 0) (.c 10 (wH gV.t (p1.Vol.toNat*4+0)) (.c 12 (nZ s.2.2) .nil)))) (ag12,ag13) (⟨t1,t2⟩) (lx (.k4 .nil)) ?_ ?_)))
 rintro⟨ag15,ag16⟩ ⟨q11,q12,q13⟩ x ⟨O11,O12⟩ m
 replace m:nB w p0 p1 x5 r6 r9 q11 q12 q13=some x:=m
 unfold nB at m
 refine vs (vs (v0 (dN gU rfl rfl (vl 0 _ kZ rfl rfl rfl (dE pB rfl (v0 ?_))))))
 apply vi m <;> intro c12 m
 refine v0 (vs (v0 (vs (v0 (dN gU rfl rfl (vl 0 _ kZ rfl rfl rfl (vx m wN rfl rfl λx9 _ m=>bW (o9 lY rfl rfl) (va (nZ x9.Kind) bZ rfl rfl (pJ m (σ:=(List aH)×(List aB)) (τ:=cU×cU) (λg s=>((some k2,.obj 62 (aD p1))::(hL p0K r6 g.1 g.2 ag14 gV s.1 s.2 r9 ((p0.Vols.set p1.Vol.toNat ({ x5 with State:=2})).set p1.Vol.toNat ({ ({ x5 with State:=2}:aP) with Files:=IntKind.wrap .i64 (x5.Files+1)}))))) (λg s=>bK g.1 4 (s.1:List aH).length∧bK g.2 35 (s.2:List aB).length) (λg s=>.c 0 (.ptr p0K 0) (.c 3 (.ptr k2 0) (.c 10 (wH gV.t (p1.Vol.toNat*4+0)) (.c 12 (nZ q13) .nil)))) (λx m=> ?_) ?_)))))))))
 refine v0 ?_
 apply vi m <;> intro c13 m
 refine v0 (dN gU rfl rfl (vl 0 _ kZ rfl rfl rfl (vx m wN rfl rfl λx10 _ m=>bW (o9 uX rfl rfl) (va (nZ x10.Of) bZ rfl rfl ?_))))
 obtain⟨y2,Y5,m⟩:=aC m
 refine ve λu=>dC ((bE u [1,2,3,4,5,0] rfl rfl).1.trans (cW h (hL p0K r6 ag15 ag16 ag14 gV q11 q12 r9 ((p0.Vols.set p1.Vol.toNat ({ x5 with State:=2})).set p1.Vol.toNat ({ ({ x5 with State:=2}:aP) with Files:=IntKind.wrap .i64 (x5.Files+1)}))) [(some k2,.obj 62 (aD p1))]).symm) (cM (aAY (hp h [(some k2,.obj 62 (aD p1))]) O11 O12 t3 (bK.set (bK.set oV)) (cL (hL p0K r6 ag15 ag16 ag14 gV q11 q12 r9 ((p0.Vols.set p1.Vol.toNat ({ x5 with State:=2})).set p1.Vol.toNat ({ ({ x5 with State:=2}:aP) with Files:=IntKind.wrap .i64 (x5.Files+1)}))) [(some k2,.obj 62 (aD p1))] (bE u [1,2,3,4,5,0] rfl rfl).2).2 Y5) rfl SM rfl ?_)
 rintro x h' ⟨ag17,O13,ag18,O14,K15,rfl,rfl⟩
 have K16:=bE (L':=((some k2,.obj 62 (aD p1))::(hL p0K r6 ag17 ag18 ag14 gV y2.2.1 y2.2.2 r9 ((p0.Vols.set p1.Vol.toNat ({ x5 with State:=2})).set p1.Vol.toNat ({ ({ x5 with State:=2}:aP) with Files:=IntKind.wrap .i64 (x5.Files+1)}))))) (dI (cL (hL p0K r6 ag15 ag16 ag14 gV q11 q12 r9 ((p0.Vols.set p1.Vol.toNat ({ x5 with State:=2})).set p1.Vol.toNat ({ ({ x5 with State:=2}:aP) with Files:=IntKind.wrap .i64 (x5.Files+1)}))) [(some k2,.obj 62 (aD p1))] (bE u [1,2,3,4,5,0] rfl rfl).2).1 K15) [5,0,1,2,3,4] rfl rfl
 exact qk K16.2 ((cW h (hL p0K r6 ag17 ag18 ag14 gV y2.2.1 y2.2.2 r9 ((p0.Vols.set p1.Vol.toNat ({ x5 with State:=2})).set p1.Vol.toNat ({ ({ x5 with State:=2}:aP) with Files:=IntKind.wrap .i64 (x5.Files+1)}))) [(some k2,.obj 62 (aD p1))]).trans K16.1) (eW m (ag17,ag18) ⟨O13,O14⟩ (lx (.k4 .nil)))
 exact v0 (eW m (ag15,ag16) ⟨O11,O12⟩ (lx (.k4 .nil)))
 rintro⟨ag19,ag20⟩ ⟨j4,j5⟩ ⟨O15,O16⟩ m
 exact v0 (eW m (ag19,ag20) ⟨O15,O16⟩ (lx (.k4 .nil)))
 exact v0 (lK m (ag15,ag16) ⟨O11,O12⟩ (lx (.k4 .nil)))
 rintro⟨ag21,ag22⟩ ⟨r11,r12,r13⟩ ⟨t4,t5⟩ m
 refine vs (v0 (bW (iW (bK.ne (bK.set (bK.set oV)) (dG (x':=({ ({ x5 with State:=2}:aP) with Files:=IntKind.wrap .i64 (x5.Files+1)}:aP)) (dG (x':=({ x5 with State:=2}:aP)) X1))) rfl) (bW (cV (bK.ne (bK.set (bK.set oV)) (dG (x':=({ ({ x5 with State:=2}:aP) with Files:=IntKind.wrap .i64 (x5.Files+1)}:aP)) (dG (x':=({ x5 with State:=2}:aP)) X1))) LY rfl rfl) (vn (λu=>dW (fo:=0) (nZ (({ ({ x5 with State:=2}:aP) with Files:=IntKind.wrap .i64 (x5.Files+1)}:aP).Pool)) (dG (x':=({ ({ x5 with State:=2}:aP) with Files:=IntKind.wrap .i64 (x5.Files+1)}:aP)) (dG (x':=({ x5 with State:=2}:aP)) X1)) eA (bK.set (bK.set oV)) bZ rfl (aI 5 u rfl) (λ_=>rfl)) (pJ m (σ:=(List aB)) (τ:=cU) (λg s=>((some k2,.obj 62 (aD p1))::(hL p0K r6 ag21 g ag14 gV r11 s r9 ((p0.Vols.set p1.Vol.toNat ({ x5 with State:=2})).set p1.Vol.toNat ({ ({ x5 with State:=2}:aP) with Files:=IntKind.wrap .i64 (x5.Files+1)}))))) (λg s=>bK g 35 (s:List aB).length) (λg s=>.nil) (λx m=> ?_) ?_)))))
 refine v0 ?_
 apply vi m <;> intro c14 m
 refine vs (v0 (nP m (σ:=(List aB)×Int) (τ:=cU) (λg s=>((some k2,.obj 62 (aD p1))::(hL p0K r6 ag21 g ag14 gV r11 s.1 r9 ((p0.Vols.set p1.Vol.toNat ({ x5 with State:=2})).set p1.Vol.toNat ({ ({ x5 with State:=2}:aP) with Files:=IntKind.wrap .i64 (x5.Files+1)}))))) (λg s=>bK g 35 (s.1:List aB).length) (λg s=>.c 0 (.ptr p0K 0) (.c 3 (.ptr k2 0) (.c 13 (nZ s.2) .nil))) ag22 t5 (lx (.k3 .nil)) ?_ ?_))
 rintro ag23 ⟨q14,q15⟩ x O17 m
 replace m:nK w p0 p1 x5 r6 r9 r11 q14 q15=some x:=m
 unfold nK at m
 refine vs (vs (v0 (dN gU rfl rfl (vl 0 _ kZ rfl rfl rfl (dE pB rfl (v0 ?_))))))
 apply vi m <;> intro c15 m
 refine v0 (vs (v0 (vs (v0 (dN gU rfl rfl (vl 0 _ kZ rfl rfl rfl (vx m wN rfl rfl λx11 _ m=>bW (o9 lY rfl rfl) (va (nZ x11.Kind) bZ rfl rfl (pJ m (σ:=(List aB)) (τ:=cU) (λg s=>((some k2,.obj 62 (aD p1))::(hL p0K r6 ag21 g ag14 gV r11 s r9 ((p0.Vols.set p1.Vol.toNat ({ x5 with State:=2})).set p1.Vol.toNat ({ ({ x5 with State:=2}:aP) with Files:=IntKind.wrap .i64 (x5.Files+1)}))))) (λg s=>bK g 35 (s:List aB).length) (λg s=>.c 0 (.ptr p0K 0) (.c 3 (.ptr k2 0) (.c 13 (nZ q15) .nil))) (λx m=> ?_) ?_)))))))))
 refine v0 ?_
 apply vi m <;> intro c16 m
 refine vs (v0 (wU (by kernel_rfl) (jM rfl (vl 1 (.agg ([nZ r6,aZ ag21,aZ ag23,aZ ag14,aZ gV])) eV rfl rfl rfl (dN gU rfl rfl (vl 0 _ kZ rfl rfl rfl (vx m wN rfl rfl λx12 _ m=>bW (o9 uW rfl rfl) (va (.agg (bL x12.Id)) fR rfl rfl ?_))))))))
 obtain⟨_,Y6,m⟩:=aC m
 refine vn (λu=>cC (fF (.cons (Br.agg (.cons (Br.refl _ _) (.cons (Br.aw 2 eJ t4 u rfl) (.cons (Br.aw 3 cR O17 u rfl) (.cons (Br.aw 4 fM t3 u rfl) (.cons (Br.aw 5 eA (bK.set (bK.set oV)) u rfl) .nil)))))) (.cons (Br.refl _ _) .nil)) rfl (W88 _ Y6)) rfl QC rfl) (vs (v0 (pJ m (σ:=(List aB)) (τ:=cU) (λg s=>((some k2,.obj 62 (aD p1))::(hL p0K r6 ag21 g ag14 gV r11 s r9 ((p0.Vols.set p1.Vol.toNat ({ x5 with State:=2})).set p1.Vol.toNat ({ ({ x5 with State:=2}:aP) with Files:=IntKind.wrap .i64 (x5.Files+1)}))))) (λg s=>bK g 35 (s:List aB).length) (λg s=>.c 0 (.ptr p0K 0) (.c 3 (.ptr k2 0) (.c 13 (nZ q15) .nil))) (λx m=> ?_) ?_)))
 refine v0 ?_
 apply vi m <;> intro c17 m
 refine v0 (vz [(1000000,some p0K,.obj 30 ([nZ r6,aZ ag21,aZ ag23,aZ ag14,aZ gV]))] mixed (λu=>⟨λ_=>aI 1 u rfl,trivial⟩) λu=>zP 0 rfl rfl (zN 1 rfl rfl (zF 2 rfl dY rfl (zL 3 0 (aZ ag23) rfl eU rfl rfl rfl (zI 4 rfl rfl (zP 5 rfl rfl (zN 6 rfl rfl (zF 7 rfl dY rfl (zL 8 0 (aZ ag23) rfl eU rfl rfl rfl (zI 9 rfl rfl ?_))))))))))
 obtain⟨x13,X5,m⟩:=aC m
 refine zC 10 rfl (cP X5 fJ O17 rfl rfl) (zC 11 rfl (cV (bK.ne O17 X5) oI rfl rfl) (zE 12 rfl (cK (fo:=32) ({ x13 with Staged:=false}:aB) 3 u X5 cR O17 rfl rfl rfl rfl (cX.refl _ _) VQ rfl rfl λK17=>⟨⟨λ_=>aI 1 K17 rfl,trivial⟩, ?_⟩)))
 obtain⟨x14,X6,m⟩:=aC m
 refine zC 13 rfl (cP X6 fJ (bK.set O17) rfl rfl) (zC 14 rfl (cV (bK.ne (bK.set O17) X6) jR rfl rfl) (zE 15 rfl (cK (fo:=33) ({ x14 with Data:=([]:List Int)}:aB) 3 K17 X6 cR (bK.set O17) rfl rfl rfl rfl (.cons (aY _) .nil) CQ rfl rfl λK18=>⟨⟨λ_=>aI 1 K18 rfl,trivial⟩, ?_⟩)))
 exact zX (qk (f:=TD 287 _ _ _ _ _ _ _ _ _ _ _ _ _ _ _) K18 rfl (eW m ag23 (bK.set (bK.set O17)) (lx (.k3 .nil))))
 exact v0 (eW m ag23 O17 (lx (.k3 .nil)))
 rintro ag24 j6 O18 m
 exact eW m ag24 O18 (lx (.k3 .nil))
 exact v0 (eW m ag23 O17 (lx (.k3 .nil)))
 rintro ag25 j7 O19 m
 exact v0 (eW m ag25 O19 (lx (.k3 .nil)))
 exact v0 (lK m ag23 O17 (lx (.k3 .nil)))
 rintro ag26 ⟨r14,r15⟩ t6 m
 exact eW m ag26 t6 (lx .nil)
 exact v0 (eW m ag22 t5 (lx .nil))
 rintro ag27 j8 O20 m
 exact eW m (ag21,ag27,ag14,gV) ⟨t4,O20,t3,(bK.set (bK.set oV))⟩ (lx .nil)
 refine vs (v0 (pJ m (σ:=fD) (τ:=cU×cU×cU×cU) (λg s=>((some k2,.obj 62 (aD p1))::(hL p0K p0.Seq g.1 g.2.1 g.2.2.1 g.2.2.2 s.1 s.2.1 s.2.2.1 s.2.2.2))) (λg s=>bK g.1 4 (s.1:List aH).length∧bK g.2.1 35 (s.2.1:List aB).length∧bK g.2.2.1 3 (s.2.2.1:List aQ).length∧bK g.2.2.2 4 (s.2.2.2:List aP).length) (λg s=>.nil) (λx m=> ?_) ?_))
 refine v0 ?_
 apply vi m <;> intro c18 m
 refine vs (vs (v0 (dN fG rfl rfl (vl 0 _ bZ rfl rfl rfl ?_))))
 obtain⟨_,Y7,m⟩:=aC m
 refine ve λu=>dC ((bE u [1,2,3,4,5,0] rfl rfl).1.trans (cW h (hC p0K p0 gS gC gE gV) [(some k2,.obj 62 (aD p1))]).symm) (cM (U0 (hp h [(some k2,.obj 62 (aD p1))]) ok_Snaps oC oE oV (cL (hC p0K p0 gS gC gE gV) [(some k2,.obj 62 (aD p1))] (bE u [1,2,3,4,5,0] rfl rfl).2).2 Y7) rfl NT rfl ?_)
 rintro x h' ⟨K19,rfl,rfl⟩
 have K20:=bE (L':=((some k2,.obj 62 (aD p1))::(hC p0K p0 gS gC gE gV))) (dI (cL (hC p0K p0 gS gC gE gV) [(some k2,.obj 62 (aD p1))] (bE u [1,2,3,4,5,0] rfl rfl).2).1 K19) [5,0,1,2,3,4] rfl rfl
 refine qk K20.2 ((cW h (hC p0K p0 gS gC gE gV) [(some k2,.obj 62 (aD p1))]).trans K20.1) (v0 ?_)
 apply vi m <;> intro c19 m
 refine vs (v0 (v0 (fZ m λm=>fZ m λm=>fZ m λm=>fZ m λm=> ?_)))
 cases m
 exact vr λu=>dX.of1 (.inl rfl) (fT _ _ (.sc (.int _ _)) rfl) (bI u [1,2,3,4,5] rfl).2 (bJ.refl _ _) ⟨gS,ok_Snaps,gC,oC,gE,oE,gV,oV,(bI u [1,2,3,4,5] rfl).1,rfl,rfl⟩
 refine v0 (vs (v0 (vz [(1000000,some p0K,.obj 30 ([nZ p0.Seq,aZ gS,aZ gC,aZ gE,aZ gV])),(1000000,some k2,.obj 62 (aD p1))] mixed (λu=>⟨λ_=>aI 1 u rfl,λ_=>aI 0 u rfl,trivial⟩) λu=>zP 0 rfl rfl (zN 1 rfl rfl (zF 2 rfl fP rfl (zL 3 0 (aZ gV) rfl iP rfl rfl rfl (zF 4 rfl fG rfl (zL 5 1 (nZ p1.Vol) rfl bZ rfl rfl rfl (zP 6 rfl rfl (zN 7 rfl rfl (zF 8 rfl fP rfl (zL 9 0 (aZ gV) rfl iP rfl rfl rfl (zF 10 rfl fG rfl (zL 11 1 (nZ p1.Vol) rfl bZ rfl rfl rfl ?_))))))))))))))
 obtain⟨x15,X7,m⟩:=aC m
 refine zC 12 rfl (cP X7 lQ oV rfl rfl) (zC 13 rfl (cV (bK.ne oV X7) m5 rfl rfl) (zE 14 rfl (cK (fo:=2) ({ x15 with State:=3}:aP) 5 u X7 eA oV rfl rfl rfl rfl (cX.refl _ _) AA rfl rfl λK21=>⟨⟨λ_=>aI 1 K21 rfl,λ_=>aI 0 K21 rfl,trivial⟩, ?_⟩)))
 obtain⟨x16,X8,m⟩:=aC m
 refine zC 15 rfl (cP X8 lQ (bK.set oV) rfl rfl) (zC 16 rfl (cV (bK.ne (bK.set oV) X8) pS rfl rfl) (zE 17 rfl (cK (fo:=3) ({ x16 with Files:=0}:aP) 5 K21 X8 eA (bK.set oV) rfl rfl rfl rfl (cX.refl _ _) AA rfl rfl λK22=>⟨⟨λ_=>aI 1 K22 rfl,λ_=>aI 0 K22 rfl,trivial⟩, ?_⟩)))
 refine zX (qk (f:=TE 310 _ _ _ _ _ _ _ _ _ _ _ _ _ _ _ _ _) K22 rfl (vs (v0 (vs (vs (v0 (qC (FZ (.obj 44 (fl aJ ([]:List aB) g0.sp)) 15 (aZ g0) (fY _)) (nP m (σ:=(List aB)×Int) (τ:=cU) (λg s=>((cH g s.1)::(some k2,.obj 62 (aD p1))::(hL p0K p0.Seq gS gC gE gV p0.Snaps p0.Chunks p0.Exps ((p0.Vols.set p1.Vol.toNat ({ x15 with State:=3})).set p1.Vol.toNat ({ x16 with Files:=0}))))) (λg s=>bK g 35 (s.1:List aB).length) (λg s=>.c 0 (.ptr p0K 0) (.c 3 (.ptr k2 0) (.c 15 (aZ g) (.c 16 (nZ s.2) .nil)))) g0 (bK.g0 35) (lx (.k4 .nil)) ?_ ?_))))))))
 rintro ag28 ⟨q16,q17⟩ x O21 m
 replace m:tT w p0 p1 q16 q17=some x:=m
 unfold tT at m
 refine vs (vs (v0 (jM rfl (dN dY rfl rfl (vl 2 (aZ gC) eU rfl rfl rfl (bW (dQ iX oC rfl) (v0 ?_)))))))
 apply vi m <;> intro c20 m
 refine v0 (vs (v0 (vs (v0 (jM rfl (dN dY rfl rfl (vl 2 (aZ gC) eU rfl rfl rfl ?_)))))))
 obtain⟨x17,X9,m⟩:=aC m
 refine bW (cP X9 fJ oC rfl rfl) (vn (λu=>dW (fo:=0) (.agg (aJ x17)) X9 cR oC lZ rfl (aI 4 u rfl) (λ_=>rfl)) (ve λu=>bH (bL kG++(KT:List AV)) u nR rfl rfl λk15855 K23=>qk K23 rfl (ve λu=>aK 0 (aJ x17) u rfl rfl rfl rfl xY rfl rfl λK24=>qk K24 rfl (vs (v0 (dN iY rfl rfl (vl 0 _ eZ rfl rfl rfl (dN fG rfl rfl (vl 2 _ bZ rfl rfl rfl (vk UZ NS m rfl rfl λy3 m=>dN iY rfl rfl (ve λu=>aK 0 (aJ { x17 with Locs:=y3}) u rfl rfl rfl rfl nX rfl rfl λK25=>qk K25 rfl (vs (fL m (σ:=Bool) (λs=>((some k15855,.obj 44 (aJ { x17 with Locs:=y3}))::(cH ag28 q16)::(some k2,.obj 62 (aD p1))::(hL p0K p0.Seq gS gC gE gV p0.Snaps p0.Chunks p0.Exps ((p0.Vols.set p1.Vol.toNat ({ x15 with State:=3})).set p1.Vol.toNat ({ x16 with Files:=0}))))) (λs=>.c 0 (.ptr p0K 0) (.c 3 (.ptr k2 0) (.c 15 (aZ ag28) (.c 16 (nZ q17) (.c 17 (.ptr k15855 0) (.c 340 (.sc (.bool s)) .nil)))))) (λx m=> ?_) ?_)))))))))))))
 refine v0 (dN oI rfl rfl (vl 0 _ CN rfl rfl rfl ?_))
 apply vi m <;> intro b7 m
 rw[b7]
 exact rD m
 rw[b7]
 exact dN iY rfl rfl (vl 0 _ eZ rfl rfl rfl (dE i9 rfl (rD m)))
 rintro _ j9 m
 refine pJ m (σ:=(List aB)) (τ:=cU) (λg s=>((some k15855,.obj 44 (aJ { x17 with Locs:=y3}))::(cH g s)::(some k2,.obj 62 (aD p1))::(hL p0K p0.Seq gS gC gE gV p0.Snaps p0.Chunks p0.Exps ((p0.Vols.set p1.Vol.toNat ({ x15 with State:=3})).set p1.Vol.toNat ({ x16 with Files:=0}))))) (λg s=>bK g 35 (s:List aB).length) (λg s=>.c 0 (.ptr p0K 0) (.c 3 (.ptr k2 0) (.c 15 (aZ g) (.c 16 (nZ q17) .nil)))) (λx m=> ?_) ?_
 refine v0 ?_
 apply vi m <;> intro c21 m
 refine v0 (vl 0 (.agg (aJ { x17 with Locs:=y3})) lZ rfl rfl rfl (bW (eL (List.map aJ ([{ x17 with Locs:=y3}]:List aB)) lP rfl rfl rfl rfl) ?_))
 obtain⟨z1,Z1,m⟩:=aC m
 exact ve λu=>gD (c:=aJ) 1 Z1 lP rfl nR rfl cR rfl rfl O21 u rfl λag29 O22 K26=>qk K26 rfl (eW m ag29 O22 (lx (.k4 .nil)))
 exact v0 (eW m ag28 O21 (lx (.k4 .nil)))
 rintro ag30 j10 O23 m
 exact v0 (eW m ag30 O23 (lJ [1,2,3,4,5,6,7] rfl rfl (.k4 .nil)))
 exact v0 (lK m ag28 O21 (lx (.k4 .nil)))
 rintro ag31 ⟨r16,r17⟩ t7 m
 refine vs (v0 (jM rfl (dN dY rfl rfl (ve λu=>aK 2 ([nZ p0.Seq,aZ gS,aZ ag31,aZ gE,aZ gV]) u rfl rfl (cD rfl) (cG (bY _ _ _) rfl) AD rfl rfl λK27=>qk K27 rfl (vs (vs (v0 (nP m (σ:=(List aH)×Int) (τ:=cU) (λg s=> [(cH ag31 r16),(some k2,.obj 62 (aD p1)),(hO p0K p0.Seq g ag31 gE gV),(dO g s.1),(cH gC p0.Chunks),(fA gE p0.Exps),(lE gV ((p0.Vols.set p1.Vol.toNat ({ x15 with State:=3})).set p1.Vol.toNat ({ x16 with Files:=0})))]) (λg s=>bK g 4 (s.1:List aH).length) (λg s=>.c 0 (.ptr p0K 0) (.c 3 (.ptr k2 0) (.c 18 (nZ s.2) .nil))) gS ok_Snaps (lx (.k3 .nil)) ?_ ?_))))))))
 rintro ag32 ⟨q18,q19⟩ x O24 m
 replace m:tU w p1 q18 q19=some x:=m
 unfold tU at m
 refine vs (vs (v0 (jM rfl (dN dV rfl rfl (vl 2 (aZ ag32) fC rfl rfl rfl (bW (dQ jQ O24 rfl) (v0 ?_)))))))
 apply vi m <;> intro c22 m
 refine v0 (vs (v0 (v0 (vz [(1000000,some p0K,.obj 30 ([nZ p0.Seq,aZ ag32,aZ ag31,aZ gE,aZ gV])),(18,ag32.t,.obj 60 (fl bP (q18:List aH) ag32.sp)),(1000000,some k2,.obj 62 (aD p1))] mixed (λu=>⟨λ_=>aI 2 u rfl,λ_=>aI 3 u rfl,λ_=>aI 1 u rfl,trivial⟩) λu=>zP 0 rfl rfl (zN 1 rfl rfl (zF 2 rfl dV rfl (zL 3 0 (aZ ag32) rfl fC rfl rfl rfl (zI 4 rfl rfl (zP 5 rfl rfl (zN 6 rfl rfl (zF 7 rfl dV rfl (zL 8 0 (aZ ag32) rfl fC rfl rfl rfl (zI 9 rfl rfl ?_)))))))))))))
 obtain⟨x18,X10,m⟩:=aC m
 refine zC 10 rfl (cP X10 iJ O24 rfl rfl) (zC 11 rfl (cV (bK.ne O24 X10) jS rfl rfl) (wJ 12 rfl (λ_ _ hi hB=>dW (fo:=3) (.sl none 4 (List.map aO x18.Locs)) X10 eJ O24 eZ rfl (fV.get 1 hi rfl (hB 18 (by kernel_rfl))) (λ_=>rfl)) (zF 13 rfl fG rfl (zL 14 2 (nZ p1.Vol) rfl bZ rfl rfl rfl ?_))))
 obtain⟨y4,Y8,m⟩:=aC m
 refine zC 15 rfl (cC (UZ _ Y8) rfl NS rfl) ?_
 obtain⟨x19,X11,m⟩:=aC m
 refine zC 16 rfl (cP X11 iJ O24 rfl rfl) (zC 17 rfl (cV (bK.ne O24 X11) jS rfl rfl) (zE 18 rfl (cK (fo:=3) ({ x19 with Locs:=y4}:aH) 3 u X11 eJ O24 rfl rfl rfl rfl (cX.refl _ _) nX rfl rfl λK28=>⟨⟨λ_=>aI 2 K28 rfl,λe=>absurd e (by decide),λ_=>aI 1 K28 rfl,trivial⟩, ?_⟩)))
 exact zX (qk (f:=aCT 375 _ _ _ _ _ _ _ _ _ _ _ _ _ _ _ _ _ _ _) K28 rfl (v0 (eW m ag32 (bK.set O24) (lx (.k3 .nil)))))
 exact v0 (lK m ag32 O24 (lx (.k3 .nil)))
 rintro ag33 ⟨r18,r19⟩ t8 m
 refine vs (v0 (vs (vs (v0 (qC (FZ (.obj 99 (fl cF ([]:List aQ) g0.sp)) 19 (aZ g0) (fY _)) (nP m (σ:=(List aQ)×Int) (τ:=cU) (λg s=> [(fA g s.1),(cH ag31 r16),(some k2,.obj 62 (aD p1)),(hO p0K p0.Seq ag33 ag31 gE gV),(dO ag33 r18),(cH gC p0.Chunks),(fA gE p0.Exps),(lE gV ((p0.Vols.set p1.Vol.toNat ({ x15 with State:=3})).set p1.Vol.toNat ({ x16 with Files:=0})))]) (λg s=>bK g 3 (s.1:List aQ).length) (λg s=>.c 0 (.ptr p0K 0) (.c 3 (.ptr k2 0) (.c 19 (aZ g) (.c 20 (nZ s.2) .nil)))) g0 (bK.g0 3) (lx (.k4 .nil)) ?_ ?_))))))
 rintro ag34 ⟨q20,q21⟩ x O25 m
 replace m:tV w p0 p1 q20 q21=some x:=m
 unfold tV at m
 refine vs (vs (v0 (jM rfl (dN eR rfl rfl (vl 3 (aZ gE) iF rfl rfl rfl (bW (dQ nW oE rfl) (v0 ?_)))))))
 apply vi m <;> intro c23 m
 refine v0 (vs (v0 (vs (v0 (jM rfl (dN eR rfl rfl (vl 3 (aZ gE) iF rfl rfl rfl ?_)))))))
 obtain⟨x20,X12,m⟩:=aC m
 refine bW (cP X12 iE oE rfl rfl) (vn (λu=>dW (fo:=0) (.agg (cF x20)) X12 fM oE rH rfl (aI 6 u rfl) (λ_=>rfl)) (ve λu=>bH ([nZ 0,nZ 0,sZ]) u oL rfl rfl λk16100 K29=>qk K29 rfl (ve λu=>aK 0 (cF x20) u rfl rfl rfl rfl yB rfl rfl λK30=>qk K30 rfl (vs (v0 (dN lD rfl rfl (vl 0 _ eZ rfl rfl rfl (dN fG rfl rfl (vl 3 _ bZ rfl rfl rfl (vk UZ NS m rfl rfl λy5 m=>dN lD rfl rfl (ve λu=>aK 0 (cF { x20 with Locs:=y5}) u rfl rfl rfl rfl nX rfl rfl λK31=>qk K31 rfl (vs (v0 (dN lD rfl rfl (vl 0 _ eZ rfl rfl rfl (dE i9 rfl (pJ m (σ:=(List aQ)) (τ:=cU) (λg s=> [(some k16100,.obj 99 (cF { x20 with Locs:=y5})),(fA g s),(cH ag31 r16),(some k2,.obj 62 (aD p1)),(hO p0K p0.Seq ag33 ag31 gE gV),(dO ag33 r18),(cH gC p0.Chunks),(fA gE p0.Exps),(lE gV ((p0.Vols.set p1.Vol.toNat ({ x15 with State:=3})).set p1.Vol.toNat ({ x16 with Files:=0})))]) (λg s=>bK g 3 (s:List aQ).length) (λg s=>.c 0 (.ptr p0K 0) (.c 3 (.ptr k2 0) (.c 19 (aZ g) (.c 20 (nZ q21) .nil)))) (λx m=> ?_) ?_)))))))))))))))))
 refine v0 ?_
 apply vi m <;> intro c24 m
 refine v0 (vl 0 (.agg (cF { x20 with Locs:=y5})) rH rfl rfl rfl (bW (eL (List.map cF ([{ x20 with Locs:=y5}]:List aQ)) pA rfl rfl rfl rfl) ?_))
 obtain⟨z2,Z2,m⟩:=aC m
 exact ve λu=>gD (c:=cF) 1 Z2 pA rfl oL rfl fM rfl rfl O25 u rfl λag35 O26 K32=>qk K32 rfl (eW m ag35 O26 (lx (.k4 .nil)))
 exact v0 (eW m ag34 O25 (lx (.k4 .nil)))
 rintro ag36 j11 O27 m
 exact v0 (eW m ag36 O27 (lJ [1,2,3,4,5,6,7,8] rfl rfl (.k4 .nil)))
 exact v0 (lK m ag34 O25 (lx (.k4 .nil)))
 rintro ag37 ⟨r20,r21⟩ t9 m
 exact v0 (jM rfl (dN eR rfl rfl (ve λu=>aK 3 ([nZ p0.Seq,aZ ag33,aZ ag31,aZ ag37,aZ gV]) u rfl rfl (cD rfl) (cG (bY _ _ _) rfl) JU rfl rfl λK33=>qk K33 rfl (eW m (ag33,ag31,ag37,gV) ⟨t8,t7,t9,(bK.set (bK.set oV))⟩ (lJ [2,3,4,1,0,7] rfl rfl .nil)))))
 refine vs (v0 (pJ m (σ:=(List aP)) (τ:=cU) (λg s=>((some k2,.obj 62 (aD p1))::(hL p0K p0.Seq gS gC gE g p0.Snaps p0.Chunks p0.Exps s))) (λg s=>bK g 4 (s:List aP).length) (λg s=>.nil) (λx m=> ?_) ?_))
 refine v0 ?_
 apply vi m <;> intro c25 m
 refine vs (vs (v0 (dN fG rfl rfl (vl 0 _ bZ rfl rfl rfl ?_))))
 obtain⟨_,Y9,m⟩:=aC m
 refine ve λu=>dC ((bE u [1,2,3,4,5,0] rfl rfl).1.trans (cW h (hC p0K p0 gS gC gE gV) [(some k2,.obj 62 (aD p1))]).symm) (cM (U0 (hp h [(some k2,.obj 62 (aD p1))]) ok_Snaps oC oE oV (cL (hC p0K p0 gS gC gE gV) [(some k2,.obj 62 (aD p1))] (bE u [1,2,3,4,5,0] rfl rfl).2).2 Y9) rfl NT rfl ?_)
 rintro x h' ⟨K34,rfl,rfl⟩
 have K35:=bE (L':=((some k2,.obj 62 (aD p1))::(hC p0K p0 gS gC gE gV))) (dI (cL (hC p0K p0 gS gC gE gV) [(some k2,.obj 62 (aD p1))] (bE u [1,2,3,4,5,0] rfl rfl).2).1 K34) [5,0,1,2,3,4] rfl rfl
 refine qk K35.2 ((cW h (hC p0K p0 gS gC gE gV) [(some k2,.obj 62 (aD p1))]).trans K35.1) (v0 ?_)
 apply vi m <;> intro c26 m
 refine vs (v0 (v0 (fZ m λm=>fZ m λm=>fZ m λm=>fZ m λm=>fZ m λm=> ?_)))
 cases m
 exact vr λu=>dX.of1 (.inl rfl) (fT _ _ (.sc (.int _ _)) rfl) (bI u [1,2,3,4,5] rfl).2 (bJ.refl _ _) ⟨gS,ok_Snaps,gC,oC,gE,oE,gV,oV,(bI u [1,2,3,4,5] rfl).1,rfl,rfl⟩
 refine v0 (v0 (vz [(1000000,some p0K,.obj 30 ([nZ p0.Seq,aZ gS,aZ gC,aZ gE,aZ gV])),(1000000,some k2,.obj 62 (aD p1)),(24,gV.t,.obj 49 (fl cI (p0.Vols:List aP) gV.sp))] mixed (λu=>⟨λ_=>aI 1 u rfl,λ_=>aI 0 u rfl,λ_=>aI 5 u rfl,trivial⟩) λu=>zP 0 rfl rfl (zN 1 rfl rfl (zF 2 rfl fP rfl (zL 3 0 (aZ gV) rfl iP rfl rfl rfl (zF 4 rfl fG rfl (zL 5 1 (nZ p1.Vol) rfl bZ rfl rfl rfl (zP 6 rfl rfl (zN 7 rfl rfl (zF 8 rfl fP rfl (zL 9 0 (aZ gV) rfl iP rfl rfl rfl (zF 10 rfl fG rfl (zL 11 1 (nZ p1.Vol) rfl bZ rfl rfl rfl (zP 12 rfl rfl (zN 13 rfl rfl (zF 14 rfl fP rfl (zL 15 0 (aZ gV) rfl iP rfl rfl rfl (zF 16 rfl fG rfl (zL 17 1 (nZ p1.Vol) rfl bZ rfl rfl rfl ?_)))))))))))))))))))
 obtain⟨x21,X13,m⟩:=aC m
 refine zC 18 rfl (cP X13 lQ oV rfl rfl) (zC 19 rfl (cV (bK.ne oV X13) CR rfl rfl) (wJ 20 rfl (λ_ _ hi hB=>dW (fo:=1) (nZ x21.Epoch) X13 eA oV bZ rfl (fV.get 2 hi rfl (hB 24 (by kernel_rfl))) (λ_=>rfl)) (zC 21 rfl (lO rfl rfl rfl trivial) ?_)))
 obtain⟨x22,X14,m⟩:=aC m
 refine zC 22 rfl (cP X14 lQ oV rfl rfl) (zC 23 rfl (cV (bK.ne oV X14) m5 rfl rfl) (zE 24 rfl (cK (fo:=2) ({ x22 with State:=1}:aP) 5 u X14 eA oV rfl rfl rfl rfl (cX.refl _ _) AA rfl rfl λK36=>⟨⟨λ_=>aI 1 K36 rfl,λ_=>aI 0 K36 rfl,λe=>absurd e (by decide),trivial⟩, ?_⟩)))
 obtain⟨x23,X15,m⟩:=aC m
 refine zC 25 rfl (cP X15 lQ (bK.set oV) rfl rfl) (zC 26 rfl (cV (bK.ne (bK.set oV) X15) CR rfl rfl) (zE 27 rfl (cK (fo:=1) ({ x23 with Epoch:=IntKind.wrap .i64 (x21.Epoch+1)}:aP) 5 K36 X15 eA (bK.set oV) rfl rfl rfl rfl (cX.refl _ _) AA rfl rfl λK37=>⟨⟨λ_=>aI 1 K37 rfl,λ_=>aI 0 K37 rfl,λe=>absurd e (by decide),trivial⟩, ?_⟩)))
 exact zX (qk (f:=aCU 442 _ _ _ _ _ _ _ _ _ _ _ _ _ _ _ _ _ _ _ _ _ _ _ _ _ _ _) K37 rfl (eW m gV (bK.set (bK.set oV)) (lx .nil)))
 exact v0 (eW m gV oV (lx .nil))
 rintro ag38 j12 O28 m
 exact eW m (gS,gC,gE,ag38) ⟨ok_Snaps,oC,oE,O28⟩ (lx .nil)
 rintro⟨ag39,ag40,ag41,ag42⟩ ⟨j13,j14,j15,j16⟩ ⟨O29,O30,O31,O32⟩ m
 exact eW m (ag39,ag40,ag41,ag42) ⟨O29,O30,O31,O32⟩ (lx .nil)
 rintro⟨ag43,ag44,ag45,ag46⟩ ⟨j17,j18,j19,j20,j21⟩ ⟨O33,O34,O35,O36⟩ m
 exact eW m (ag43,ag44,ag45,ag46) ⟨O33,O34,O35,O36⟩ (lx .nil)
 rintro⟨ag47,ag48,ag49,ag50⟩ ⟨j22,j23,j24,j25,j26⟩ ⟨O37,O38,O39,O40⟩ m
 exact eW m (ag47,ag48,ag49,ag50) ⟨O37,O38,O39,O40⟩ (lx .nil)
 rintro⟨ag51,ag52,ag53,ag54⟩ ⟨j27,j28,j29,j30,j31⟩ ⟨O41,O42,O43,O44⟩ m
 refine vs (v0 (v0 ?_))
 cases m
 exact vr λu=>dX.of1 (.inl rfl) (fT _ _ (.sc (.int _ _)) rfl) (bI u [1,2,3,4,5] rfl).2 (bJ.refl _ _) ⟨ag51,O41,ag52,O42,ag53,O43,ag54,O44,(bI u [1,2,3,4,5] rfl).1,rfl,rfl⟩
theorem aF8:aN Tryz.prog 91=true:=by kernel_rfl
open Go.Vm
def IW (m:Nat) (p0:aA) (p1:aR):Option (aA×Int):=
 after ((T5 m p0).bind λy0=>if (!y0)=true then (some (.brk true)) else if (decide (p1.Kind < 1))=true then (some (.brk true)) else some (.brk (decide (5 < p1.Kind))):Option (Lp (Bool) (aA×Int))) λj0=>if j0=true then (some (({ Seq:=0,Snaps:= [],Chunks:= [],Exps:= [],Vols:= []}:aA),1)) else (Q1 m p0).bind λy1=>(M92 m p1).bind λy2=>(rQ m ({ Seq:=y1.Seq,Snaps:=y1.Snaps,Chunks:=y1.Chunks,Exps:=y1.Exps,Vols:=y1.Vols}:aA) y2).bind λy3=>if (y3.1 !=0)=true then (some (({ Seq:=0,Snaps:= [],Chunks:= [],Exps:= [],Vols:= []}:aA),y3.1)) else (T5 m ({ Seq:=y3.2.1,Snaps:=y3.2.2.1,Chunks:=y3.2.2.2.1,Exps:=y3.2.2.2.2.1,Vols:=y3.2.2.2.2.2}:aA)).bind λy4=>if (!y4)=true then (some (({ Seq:=0,Snaps:= [],Chunks:= [],Exps:= [],Vols:= []}:aA),1)) else some (({ Seq:=y3.2.1,Snaps:=y3.2.2.1,Chunks:=y3.2.2.2.1,Exps:=y3.2.2.2.2.1,Vols:=y3.2.2.2.2.2}:aA),0)
theorem W36 {w:Nat} {p0:aA} {p1:aR} {o:aA×Int} (h:aF) (m:IW w p0 p1=some o):
 aL Tryz.prog 36 [.agg (aE p0),.agg (aD p1)] h (λr h'=>r= .tup [.agg (aE o.1),nZ o.2]∧h'=h):=by
 refine fQ 36 [.cell 4 30,.tmp 5] Tryz.func36 rfl rfl rfl rfl ?_
 unfold IW at m
 refine vs (v0 (gO rfl rfl λk2 K3=>gO rfl rfl λk5 K6=>ve λu=>bH (iK) u qM rfl rfl λk8 K9=>qk K9 rfl (vs (vs (fL m (σ:=Bool) (λs=> [(some k8,.obj 30 (iK)),(some k5,.obj 62 (aD p1)),(some k2,.obj 30 (aE p0))]) (λs=>.c 2 (.ptr k2 0) (.c 3 (.ptr k5 0) (.c 4 (.ptr k8 0) (.c 20 (.sc (.bool s)) .nil)))) (λx m=> ?_) ?_)))))
 refine v0 (vl 2 (.agg (aE p0)) eV rfl rfl rfl (vk W89 XS m rfl rfl λ_ m=> ?_))
 apply vi m <;> intro b0 m
 rw[b0]
 exact f8 m
 rw[b0]
 refine dN CS rfl rfl (vl 1 _ bZ rfl rfl rfl ?_)
 apply vi m <;> intro b1 m
 rw[b1]
 exact f8 m
 rw[b1]
 exact dN CS rfl rfl (vl 1 _ bZ rfl rfl rfl (f8 m))
 rintro _ j0 m
 refine v0 ?_
 apply vi m <;> intro c0 m
 refine vs (v0 (bW (fI (iK) CO rfl) (ve λu=>aK 0 (iK) u rfl rfl rfl rfl lX rfl rfl λK0=>qk K0 rfl (v0 ?_))))
 cases m
 exact vr λu=>dX.of2 (.inl rfl) (rA (.agg (iK)) eV rfl (bC 0 u rfl) rfl) (fT _ _ (.sc (.int _ _)) rfl) (aS (List.nil_sublist _) u).1 (bJ.agg (.cons (bJ.refl _ _) (.cons (aY _) (.cons (aY _) (.cons (aY _) (.cons (aY _) .nil)))))) (bJ.refl _ _) ⟨rfl,rfl⟩
 refine v0 (vs (v0 (vl 2 (.agg (aE p0)) eV rfl rfl rfl ?_)))
 obtain⟨y0,Y0,m⟩:=aC m
 refine ve λu=>cM (aF2 _ Y0) rfl aER rfl ?_
 rintro x h' ⟨ag0,O0,ag1,O1,ag2,O2,ag3,O3,K1,rfl,rfl⟩
 refine qk (dI u K1) (cW h [(dO ag0 y0.Snaps),(cH ag1 y0.Chunks),(fA ag2 y0.Exps),(lE ag3 y0.Vols)] [(some k8,.obj 30 (iK)),(some k5,.obj 62 (aD p1)),(some k2,.obj 30 (aE p0))]) (ve λu=>bH (iK) u qM rfl rfl λk42 K2=>qk K2 rfl (ve λu=>aK 0 ([nZ y0.Seq,aZ ag0,aZ ag1,aZ ag2,aZ ag3]) u rfl rfl rfl (by repeat (first | exact rfl | refine cG (iO _ _ _) ?_ | refine cG (bY _ _ _) ?_ | refine cG (gG _ _ _ _) ?_ | refine cG rfl ?_)) lX rfl rfl λK4=>qk K4 rfl ?_))
 refine vs (v0 (vl 6 (.agg (aD p1)) oK rfl rfl rfl (vk W92 aF4 m rfl rfl λ_ m=> ?_)))
 obtain⟨y1,Y1,m⟩:=aC m
 refine ve λu=>dC ((bE u [0,1,2,3,4,5,6,7] rfl rfl).1.trans (cW h (hC k42 y0 ag0 ag1 ag2 ag3) [(some k8,.obj 30 (iK)),(some k5,.obj 62 (aD p1)),(some k2,.obj 30 (aE p0))]).symm) (cM (W91 (hp h [(some k8,.obj 30 (iK)),(some k5,.obj 62 (aD p1)),(some k2,.obj 30 (aE p0))]) O0 O1 O2 O3 (cL (hC k42 y0 ag0 ag1 ag2 ag3) [(some k8,.obj 30 (iK)),(some k5,.obj 62 (aD p1)),(some k2,.obj 30 (aE p0))] (bE u [0,1,2,3,4,5,6,7] rfl rfl).2).2 Y1) rfl aF8 rfl ?_)
 rintro x h' ⟨ag4,O4,ag5,O5,ag6,O6,ag7,O7,K5,rfl,rfl⟩
 have K7:=bE (L':= [(hO k42 y1.2.1 ag4 ag5 ag6 ag7),(dO ag4 y1.2.2.1),(cH ag5 y1.2.2.2.1),(fA ag6 y1.2.2.2.2.1),(lE ag7 y1.2.2.2.2.2),(some k8,.obj 30 (iK)),(some k5,.obj 62 (aD p1)),(some k2,.obj 30 (aE p0))]) (dI (cL (hC k42 y0 ag0 ag1 ag2 ag3) [(some k8,.obj 30 (iK)),(some k5,.obj 62 (aD p1)),(some k2,.obj 30 (aE p0))] (bE u [0,1,2,3,4,5,6,7] rfl rfl).2).1 K5) [0,1,2,3,4,5,6,7] rfl rfl
 refine qk K7.2 ((cW h (hL k42 y1.2.1 ag4 ag5 ag6 ag7 y1.2.2.1 y1.2.2.2.1 y1.2.2.2.2.1 y1.2.2.2.2.2) [(some k8,.obj 30 (iK)),(some k5,.obj 62 (aD p1)),(some k2,.obj 30 (aE p0))]).trans K7.1) (vs (vs (v0 (v0 ?_))))
 apply vi m <;> intro c1 m
 refine vs (v0 (bW (fI (iK) CO rfl) (ve λu=>aK 5 (iK) u rfl rfl rfl rfl lX rfl rfl λK8=>qk K8 rfl (v0 ?_))))
 cases m
 exact vr λu=>dX.of2 (.inl rfl) (rA (.agg (iK)) eV rfl (bC 5 u rfl) rfl) (fT _ _ (.sc (.int _ _)) rfl) (aS (List.nil_sublist _) u).1 (bJ.agg (.cons (bJ.refl _ _) (.cons (aY _) (.cons (aY _) (.cons (aY _) (.cons (aY _) .nil)))))) (bJ.refl _ _) ⟨rfl,rfl⟩
 refine v0 (vs (vs (v0 (vl 0 (.agg ([nZ y1.2.1,aZ ag4,aZ ag5,aZ ag6,aZ ag7])) eV rfl rfl rfl ?_))))
 obtain⟨_,Y2,m⟩:=aC m
 refine vn (λu=>cC (fF (.cons (Br.agg (.cons (Br.refl _ _) (.cons (Br.aw 1 eJ O4 u rfl) (.cons (Br.aw 2 cR O5 u rfl) (.cons (Br.aw 3 fM O6 u rfl) (.cons (Br.aw 4 eA O7 u rfl) .nil)))))) .nil) rfl (W89 _ Y2)) rfl XS rfl) (v0 ?_)
 apply vi m <;> intro c2 m
 refine vs (v0 (bW (fI (iK) CO rfl) (ve λu=>aK 5 (iK) u rfl rfl rfl rfl lX rfl rfl λK73=>qk K73 rfl (v0 ?_))))
 cases m
 exact vr λu=>dX.of2 (.inl rfl) (rA (.agg (iK)) eV rfl (bC 5 u rfl) rfl) (fT _ _ (.sc (.int _ _)) rfl) (aS (List.nil_sublist _) u).1 (bJ.agg (.cons (bJ.refl _ _) (.cons (aY _) (.cons (aY _) (.cons (aY _) (.cons (aY _) .nil)))))) (bJ.refl _ _) ⟨rfl,rfl⟩
 refine v0 (vs (v0 (vl 0 (.agg ([nZ y1.2.1,aZ ag4,aZ ag5,aZ ag6,aZ ag7])) eV rfl rfl rfl (ve λu=>aK 5 ([nZ y1.2.1,aZ ag4,aZ ag5,aZ ag6,aZ ag7]) u rfl rfl rfl (by repeat (first | exact rfl | refine cG (iO _ _ _) ?_ | refine cG (bY _ _ _) ?_ | refine cG (gG _ _ _ _) ?_ | refine cG rfl ?_)) lX rfl rfl λK75=>qk K75 rfl ?_))))
 refine v0 ?_
 cases m
 refine vrl λu=> ?_
 obtain⟨K76,le0⟩:=i8.fzO (n:=36) (f:=_) 1 4 ([nZ y1.2.1,.sl none 4 (List.map bP y1.2.2.1),aZ ag5,aZ ag6,aZ ag7]) u rfl (.cons (Fz.refl _ _ _) (.cons (Fz.aw 1 eJ O4 u rfl (.refl _)) (.cons (Fz.refl _ _ _) (.cons (Fz.refl _ _ _) (.cons (Fz.refl _ _ _) .nil)))))
 obtain⟨K78,le1⟩:=i8.fzO (n:=36) (f:=_) 1 3 ([nZ y1.2.1,.sl none 4 (List.map bP y1.2.2.1),.sl none 35 (List.map aJ y1.2.2.2.1),aZ ag6,aZ ag7]) K76 rfl (.cons (Fz.refl _ _ _) (.cons (Fz.refl _ _ _) (.cons (Fz.aw 1 cR O5 K76 rfl (.refl _)) (.cons (Fz.refl _ _ _) (.cons (Fz.refl _ _ _) .nil)))))
 obtain⟨K80,le2⟩:=i8.fzO (n:=36) (f:=_) 1 2 ([nZ y1.2.1,.sl none 4 (List.map bP y1.2.2.1),.sl none 35 (List.map aJ y1.2.2.2.1),.sl none 3 (List.map cF y1.2.2.2.2.1),aZ ag7]) K78 rfl (.cons (Fz.refl _ _ _) (.cons (Fz.refl _ _ _) (.cons (Fz.refl _ _ _) (.cons (Fz.aw 1 fM O6 K78 rfl (.refl _)) (.cons (Fz.refl _ _ _) .nil)))))
 obtain⟨K82,le3⟩:=i8.fzO (n:=36) (f:=_) 1 1 ([nZ y1.2.1,.sl none 4 (List.map bP y1.2.2.1),.sl none 35 (List.map aJ y1.2.2.2.1),.sl none 3 (List.map cF y1.2.2.2.2.1),.sl none 4 (List.map cI y1.2.2.2.2.2)]) K80 rfl (.cons (Fz.refl _ _ _) (.cons (Fz.refl _ _ _) (.cons (Fz.refl _ _ _) (.cons (Fz.refl _ _ _) (.cons (Fz.aw 1 eA O7 K80 rfl (.refl _)) .nil)))))
 exact OT.mk (i8.trans (i8.trans (i8.trans le0 le1) le2) le3) (dX.of2 (.inl rfl) (rA (.agg (aE ({ Seq:=y1.2.1,Snaps:=y1.2.2.1,Chunks:=y1.2.2.2.1,Exps:=y1.2.2.2.2.1,Vols:=y1.2.2.2.2.2}:aA))) eV rfl (bC 1 K82 rfl) rfl) (fT _ _ (.sc (.int _ _)) rfl) (aS (List.nil_sublist _) K82).1 (bJ.refl _ _) (bJ.refl _ _) ⟨rfl,rfl⟩)
theorem aF9:aN Tryz.prog 36=true:=by kernel_rfl
open Go.Vm
def tW (m:Nat) (p0:List dR) (q0:Int):Option (Lp (Int) (Bool)):=
 if (decide (q0 < (p0.length:Int)))=true then ((ix p0 q0).bind λx0=>if (decide (200 < (x0.Data.length:Int)))=true then (some (.ret true)) else some (.go (IntKind.wrap .i64 (q0+1)))) else some (.brk q0)
def KI (m:Nat) (p0:List dR):Option (Bool):=
 if (decide (6 < (p0.length:Int)))=true then (some true) else after (aT (λs=>tW m p0 s) m 0) λr0=>some false
theorem aA0 {u:Nat} {p0:List dR} {o:Bool} (h:aF) (m:KI u p0=some o):
 aL Tryz.prog 139 [.sl none 2 (List.map eT p0)] h (λr h'=>r= .sc (.bool o)∧h'=h):=by
 refine fQ 20 [.tmp 2] Tryz.func139 rfl rfl rfl rfl ?_
 unfold KI at m
 refine v (v (dE AF rfl (v ?_)))
 apply vi m <;> intro c4 m
 refine v (v ?_)
 obtain rfl:=eE m
 exact dU rfl
 refine v (v (jN m (σ:=Int) (λs=> []) (λs=>.c 0 (.sl none 2 (List.map eT p0)) (.c 3 (nZ s) .nil)) (lx (.k2 .nil)) ?_ ?_))
 rintro _ q0 x m
 replace m:tW u p0 q0=some x:=m
 unfold tW at m
 refine v (dE AF rfl (v ?_))
 apply vi m <;> intro c0 m
 refine v (v (v (vx m pD rfl rfl λ_ _ m=>dE kU rfl (v ?_))))
 apply vi m <;> intro c1 m
 refine v (v (fZ m λm=> ?_))
 obtain rfl:=eE m
 exact dU rfl
 exact v (v (rC m))
 exact v (OU m)
 rintro _ r0 m
 refine v (v ?_)
 obtain rfl:=eE m
 exact dU rfl
theorem SN:aN Tryz.prog 139=true:=by kernel_rfl
def DD (m:Nat) (p0:List dR) (q0:Int):Option (Lp (Int) ((List dR)×Int)):=
 if (decide (q0 < (p0.length:Int)))=true then ((ix p0 q0).bind λx0=>(CY m x0.Path).bind λy0=>if (!y0)=true then (some (.ret ([],1))) else some (.go (IntKind.wrap .i64 (q0+1)))) else some (.brk q0)
def DE (m:Nat) (p0:List dR) (q0:List dR) (q1:Int) (q2:Int):Option (Lp (Int) (Lp ((List dR)×Int) ((List dR)×Int))):=
 after (if (decide (q2 < (q0.length:Int)))=true then ((ix q0 q2).bind λx0=>(ix p0 q1).bind λx1=>some (.brk (Op.bytesLess x0.Path.toList x1.Path.toList))) else some (.brk false):Option (Lp (Bool) (Lp (Int) (Lp ((List dR)×Int) ((List dR)×Int))))) λj0=>if j0=true then (some (.go (IntKind.wrap .i64 (q2+1)))) else some (.brk q2)
def DF (m:Nat) (p0:List dR) (q0:List dR) (q1:Int):Option (Lp ((List dR)×Int) ((List dR)×Int)):=
 if (decide (q1 < (p0.length:Int)))=true then (after (aT (λs=>DE m p0 q0 q1 s) m 0) λr0=>after (if (decide (r0 < (q0.length:Int)))=true then ((ix q0 r0).bind λx0=>(ix p0 q1).bind λx1=>some (.brk (x0.Path.toList==x1.Path.toList))) else some (.brk false):Option (Lp (Bool) (Lp ((List dR)×Int) ((List dR)×Int)))) λj0=>if j0=true then (some (.ret ([],9))) else (slc q0 0 r0).bind λx2=>(ix p0 q1).bind λx3=>(ix p0 q1).bind λx4=>(app ([]:List dR) x2).bind λz0=>(vK m x4.Data).bind λy0=>(app z0 ([({ Path:=x3.Path,Data:=y0}:dR)]:List dR)).bind λz1=>(slc q0 r0 (q0.length:Int)).bind λx5=>(app z1 x5).bind λz2=>some (.go (z2,IntKind.wrap .i64 (q1+1)))) else some (.brk (q0,q1))
def M85 (m:Nat) (p0:List dR):Option ((List dR)×Int):=
 (KI m p0).bind λy4=>if y4=true then (some ([],2)) else after (aT (λs=>DD m p0 s) m 0) λr0=>after (aT (λs=>DF m p0 s.1 s.2) m ([],0)) λ⟨r1,r2⟩=>some (r1,0)
theorem W85 {w:Nat} {p0:List dR} {o:(List dR)×Int} (h:aF) (m:M85 w p0=some o):
 aL Tryz.prog 85 [.sl none 2 (List.map eT p0)] h (λr h'=>r= .tup [.sl none 2 (List.map eT o.1),nZ o.2]∧h'=h):=by
 refine fQ 91 [.tmp 2,.tmp 3] Tryz.func85 rfl rfl rfl rfl ?_
 unfold M85 at m
 refine v (v (vk aA0 SN m rfl rfl λ_ m=>v ?_))
 apply vi m <;> intro c6 m
 refine v (v ?_)
 cases m
 exact vr λu=>dX.of2 (.inl rfl) (fT _ _ (.sc (.slice _ _ _)) rfl) (fT _ _ (.sc (.int _ _)) rfl) (iG.refl _) (aY _) (bJ.refl _ _) ⟨rfl,rfl⟩
 refine v (v (jN m (σ:=Int) (λs=> []) (λs=>.c 0 (.sl none 2 (List.map eT p0)) (.c 4 (nZ s) .nil)) (lx (.k2 .nil)) ?_ ?_))
 rintro _ q0 x m
 replace m:DD w p0 q0=some x:=m
 unfold DD at m
 refine v (dE AF rfl (v ?_))
 apply vi m <;> intro c0 m
 refine v (v (v (vx m pD rfl rfl λ_ _ m=>vk MJ EW m rfl rfl λ_ m=>v ?_)))
 apply vi m <;> intro c1 m
 refine v (v (fZ m λm=> ?_))
 cases m
 exact vr λu=>dX.of2 (.inl rfl) (fT _ _ (.sc (.slice _ _ _)) rfl) (fT _ _ (.sc (.int _ _)) rfl) (iG.refl _) (aY _) (bJ.refl _ _) ⟨rfl,rfl⟩
 exact v (v (rC m))
 exact v (OU m)
 rintro _ r0 m
 refine v (v (qC (FZ (.tok 95 2 (([]:List dR).length*2)) 5 (ow none 2 (List.map eT [])) (jF _ _)) (nP m (σ:=(List dR)×Int) (τ:=Option cE) (λg s=> [(g,.tok 95 2 ((s.1:List dR).length*2))]) (λg s=>(g=none→s.1= [])) (λg s=>.c 0 (.sl none 2 (List.map eT p0)) (.c 5 (ow g 2 (List.map eT s.1)) (.c 6 (nZ s.2) .nil))) none (λ_=>rfl) (lx (.k3 .nil)) ?_ ?_)))
 rintro tg0 ⟨q1,q2⟩ x t0 m
 replace m:DF w p0 q1 q2=some x:=m
 unfold DF at m
 refine v (dE AF rfl (v ?_))
 apply vi m <;> intro c2 m
 refine v (v (v (vs (jN m (σ:=Int) (λs=> [(tg0,.tok 95 2 ((q1:List dR).length*2))]) (λs=>.c 0 (.sl none 2 (List.map eT p0)) (.c 5 (ow tg0 2 (List.map eT q1)) (.c 6 (nZ q2) (.c 7 (nZ s) .nil)))) (lx (.k4 .nil)) ?_ ?_))))
 rintro _ q3 x m
 replace m:DE w p0 q1 q2 q3=some x:=m
 unfold DE at m
 refine vs (vs (fL m (σ:=Bool) (λs=> [(tg0,.tok 95 2 ((q1:List dR).length*2))]) (λs=>.c 0 (.sl none 2 (List.map eT p0)) (.c 5 (ow tg0 2 (List.map eT q1)) (.c 6 (nZ q2) (.c 7 (nZ q3) (.c 46 (.sc (.bool s)) .nil))))) (λx m=> ?_) ?_))
 refine v (vq (by kernel_rfl) (bW (uS AF t0 rfl) ?_))
 apply vi m <;> intro b0 m
 rw[b0]
 obtain⟨_,X0,m⟩:=aC m
 exact bW (RQ X0 pD t0 rfl rfl) (vx m pD rfl rfl λ_ _ m=>bW (wE rfl rfl rfl trivial) (nJ m))
 rw[b0]
 exact nJ m
 rintro _ j0 m
 refine v ?_
 apply vi m <;> intro c3 m
 exact v (v (v (f8 m)))
 exact v (wS m)
 rintro _ r1 m
 refine vs (vs (fL m (σ:=Bool) (λs=> [(tg0,.tok 95 2 ((q1:List dR).length*2))]) (λs=>.c 0 (.sl none 2 (List.map eT p0)) (.c 5 (ow tg0 2 (List.map eT q1)) (.c 6 (nZ q2) (.c 7 (nZ r1) (.c 65 (.sc (.bool s)) .nil))))) (λx m=> ?_) ?_))
 refine v (vq (by kernel_rfl) (bW (uS AF t0 rfl) ?_))
 apply vi m <;> intro b1 m
 rw[b1]
 obtain⟨_,X1,m⟩:=aC m
 exact bW (RQ X1 pD t0 rfl rfl) (vx m pD rfl rfl λ_ _ m=>bW (wE rfl rfl rfl trivial) (nJ m))
 rw[b1]
 exact nJ m
 rintro _ j1 m
 refine v ?_
 apply vi m <;> intro c4 m
 refine v (v (fZ m λm=> ?_))
 cases m
 exact vr λu=>dX.of2 (.inl rfl) (fT _ _ (.sc (.slice _ _ _)) rfl) (fT _ _ (.sc (.int _ _)) rfl) (aS (List.nil_sublist _) u).1 (aY _) (bJ.refl _ _) ⟨rfl,rfl⟩
 refine v (v (v (vz [] mixed (λu=>trivial) λu=>zC 0 rfl (eS (.sc (.slice _ _ _)) rfl) (zC 1 rfl (eS (ow _ _ _) rfl) (zI 2 rfl rfl ?_)))))
 obtain⟨_,X2,m⟩:=aC m
 refine zC 3 rfl (CF X2 pD rfl t0 rfl rfl rfl) (zC 5 rfl (eS (.sl _ _ _) rfl) (zI 6 rfl rfl ?_))
 obtain⟨x0,X3,m⟩:=aC m
 refine zC 7 rfl (mI X3 pD rfl rfl) (zC 8 rfl (o9 L8 rfl rfl) (zC 9 rfl (mX (.sc (.string x0.Path)) uF rfl rfl) (zC 10 rfl (eS (.sl _ _ _) rfl) (zI 11 rfl rfl ?_))))
 obtain⟨x1,X4,m⟩:=aC m
 refine zC 12 rfl (mI X4 pD rfl rfl) (zC 13 rfl (o9 L9 rfl rfl) (zC 14 rfl (mX (.sl none 1 (List.map dF x1.Data)) lR rfl rfl) ?_))
 obtain⟨z0,Z0,m⟩:=aC m
 refine zE 4 rfl (oF (c:=eT) Z0 P6 rfl rfl u nofun (nU (sH X2 t0)) λtg1 t1 K0=>⟨trivial, ?_⟩)
 obtain⟨y0,Y0,m⟩:=aC m
 refine zC 15 rfl (cC (MU _ Y0) rfl E5 rfl) (zC 16 rfl (fI (eT ({ Path:=x0.Path,Data:=y0}:dR)) aDC rfl) (zC 17 rfl (eL (List.map eT ([({ Path:=x0.Path,Data:=y0}:dR)]:List dR)) P6 rfl rfl rfl rfl) ?_))
 obtain⟨z1,Z1,m⟩:=aC m
 refine zE 18 rfl (fE (c:=eT) 0 Z1 P6 rfl rfl rfl t1 K0 rfl λtg2 t2 K1=>⟨trivial, ?_⟩)
 refine zC 19 rfl (iI (ow _ _ _) rfl) (zX (qk (f:=.c 8 _ (PU 84 _ _ _ _ (.c 70 _ (JQ 80 _ _ _ _ _ _ _ _ _ _ (PU 69 _ _ _ _ _))))) K1 rfl (v ?_)))
 obtain⟨_,X5,m⟩:=aC m
 refine bW (CF X5 pD rfl t0 rfl rfl rfl) ?_
 obtain⟨z2,Z2,m⟩:=aC m
 exact ve λu=>fE (c:=eT) 0 Z2 P6 rfl rfl rfl t2 u (nU (sH X5 t0)) λtg3 t3 K2=>qk K2 rfl (v (eW m tg3 t3 (lJ [0] rfl rfl (.k3 .nil))))
 exact v (lK m tg0 t0 (lx (.k3 .nil)))
 rintro tg4 ⟨r2,r3⟩ t4 m
 refine v (v ?_)
 cases m
 exact vr λu=>dX.of2 (.inl rfl) (fT _ _ (ow _ _ _) rfl) (fT _ _ (.sc (.int _ _)) rfl) (aS (List.nil_sublist _) u).1 ((eY _ 0 t4 u rfl)) (bJ.refl _ _) ⟨rfl,rfl⟩
theorem aGA:aN Tryz.prog 85=true:=by kernel_rfl
def U1 (m:Nat):Option ((Ar 64)):=
 some (⟨[1116352408,1899447441,3049323471,3921009573,961987163,1508970993,2453635748,2870763221,3624381080,310598401,607225278,1426881987,1925078388,2162078206,2614888103,3248222580,3835390401,4022224774,264347078,604807628,770255983,1249150122,1555081692,1996064986,2554220882,2821834349,2952996808,3210313671,3336571891,3584528711,113926993,338241895,666307205,773529912,1294757372,1396182291,1695183700,1986661051,2177026350,2456956037,2730485921,2820302411,3259730800,3345764771,3516065817,3600352804,4094571909,275423344,430227734,506948616,659060556,883997877,958139571,1322822218,1537002063,1747873779,1955562222,2024104815,2227730452,2361852424,2428436474,2756734187,3204031479,3329325298],rfl⟩:Ar 64)
theorem aGB {w:Nat} {o:(Ar 64)} (h:aF) (m:U1 w=some o):
 aL Tryz.prog 144 [] h (λr h'=>r= .agg (dD o)∧h'=h):=by
 refine fQ 2 [.cell 0 181] Tryz.func144 rfl rfl rfl rfl ?_
 unfold U1 at m
 refine v (ve λu=>bH (dD (VO 64)) u MC rfl rfl λk2 K3=>qk K3 rfl (v (bW (CG [1116352408,1899447441,3049323471,3921009573,961987163,1508970993,2453635748,2870763221,3624381080,310598401,607225278,1426881987,1925078388,2162078206,2614888103,3248222580,3835390401,4022224774,264347078,604807628,770255983,1249150122,1555081692,1996064986,2554220882,2821834349,2952996808,3210313671,3336571891,3584528711,113926993,338241895,666307205,773529912,1294757372,1396182291,1695183700,1986661051,2177026350,2456956037,2730485921,2820302411,3259730800,3345764771,3516065817,3600352804,4094571909,275423344,430227734,506948616,659060556,883997877,958139571,1322822218,1537002063,1747873779,1955562222,2024104815,2227730452,2361852424,2428436474,2756734187,3204031479,3329325298] rfl TZ rfl rfl rfl) (ve λu=>aK 0 (dD (⟨[1116352408,1899447441,3049323471,3921009573,961987163,1508970993,2453635748,2870763221,3624381080,310598401,607225278,1426881987,1925078388,2162078206,2614888103,3248222580,3835390401,4022224774,264347078,604807628,770255983,1249150122,1555081692,1996064986,2554220882,2821834349,2952996808,3210313671,3336571891,3584528711,113926993,338241895,666307205,773529912,1294757372,1396182291,1695183700,1986661051,2177026350,2456956037,2730485921,2820302411,3259730800,3345764771,3516065817,3600352804,4094571909,275423344,430227734,506948616,659060556,883997877,958139571,1322822218,1537002063,1747873779,1955562222,2024104815,2227730452,2361852424,2428436474,2756734187,3204031479,3329325298],rfl⟩:Ar 64)) u rfl rfl rfl rfl RW rfl rfl λK6=>qk K6 rfl ?_))))
 refine v ?_
 cases m
 exact vr λu=>dX.of1 (.inl rfl) (rA (.agg (dD (⟨[1116352408,1899447441,3049323471,3921009573,961987163,1508970993,2453635748,2870763221,3624381080,310598401,607225278,1426881987,1925078388,2162078206,2614888103,3248222580,3835390401,4022224774,264347078,604807628,770255983,1249150122,1555081692,1996064986,2554220882,2821834349,2952996808,3210313671,3336571891,3584528711,113926993,338241895,666307205,773529912,1294757372,1396182291,1695183700,1986661051,2177026350,2456956037,2730485921,2820302411,3259730800,3345764771,3516065817,3600352804,4094571909,275423344,430227734,506948616,659060556,883997877,958139571,1322822218,1537002063,1747873779,1955562222,2024104815,2227730452,2361852424,2428436474,2756734187,3204031479,3329325298],rfl⟩:Ar 64))) W5 rfl (bC 0 u rfl) rfl) (aS (List.nil_sublist _) u).1 (bJ.refl _ _) ⟨rfl,rfl⟩
theorem aA2:aN Tryz.prog 144=true:=by kernel_rfl
def wY (m:Nat) (q0:List Int):Option (Lp ((List Int)) ((List Int))):=
 if (((IntKind.wrap .i64 ((q0.length:Int)+8)).tmod 64) !=0)=true then ((app q0 ([0]:List Int)).bind λz0=>some (.go z0)) else some (.brk q0)
def wZ (m:Nat) (p0:List Int) (q0:List Int) (q1:Int):Option (Lp ((List Int)×Int) ((List Int))):=
 if (decide (0≤q1))=true then (grd (decide (0≤(IntKind.wrap .u64 (8*(IntKind.wrap .u64 q1))))) <| (app q0 ([IntKind.wrap .u8 ((IntKind.wrap .u64 ((IntKind.wrap .u64 (p0.length:Int))*8)).fdiv (2 ^ (min ((IntKind.wrap .u64 (8*(IntKind.wrap .u64 q1))):Int).toNat (IntKind.bits .u64))))]:List Int)).bind λz0=>some (.go (z0,IntKind.wrap .i64 (q1 - 1)))) else some (.brk (q0,q1))
def NU (m:Nat) (p0:List Int):Option ((List Int)):=
 (app ([]:List Int) p0).bind λz4=>(app z4 ([128]:List Int)).bind λz0=>after (aT (λs=>wY m s) m z0) λr0=>after (aT (λs=>wZ m p0 s.1 s.2) m (r0,7)) λ⟨r1,r2⟩=>some r1
theorem aGC {w:Nat} {p0:List Int} {o:(List Int)} (h:aF) (m:NU w p0=some o):
 aL Tryz.prog 145 [.sl none 1 (List.map dF p0)] h (λr h'=>r= .sl none 1 (List.map dF o)∧h'=h):=by
 refine fQ 37 [.tmp 2] Tryz.func145 rfl rfl rfl rfl ?_
 unfold NU at m
 refine v (v (v ?_))
 obtain⟨z4,Z5,m⟩:=aC m
 refine ve λu=>oF (c:=dF) Z5 jJ rfl rfl u nofun rfl λtg6 t7 K8=>qk K8 rfl (bW (eL (List.map dF ([128]:List Int)) jJ rfl rfl rfl rfl) ?_)
 obtain⟨z0,Z0,m⟩:=aC m
 refine ve λu=>fE (c:=dF) 0 Z0 jJ rfl rfl rfl t7 u rfl λtg0 t0 K0=>qk K0 rfl (vs (nP m (σ:=(List Int)) (τ:=Option cE) (λg s=> [(g,.tok 5 1 ((s:List Int).length*1))]) (λg s=>(g=none→s= [])) (λg s=>.c 0 (.sl none 1 (List.map dF p0)) (.c 3 (ow g 1 (List.map dF s)) .nil)) tg0 t0 (lx (.k2 .nil)) ?_ ?_))
 rintro tg1 q0 x t1 m
 replace m:wY w q0=some x:=m
 unfold wY at m
 refine v (bW (uS kU t1 rfl) (v ?_))
 apply vi m <;> intro c0 m
 refine v (v (v (bW (eL (List.map dF ([0]:List Int)) jJ rfl rfl rfl rfl) ?_)))
 obtain⟨z1,Z1,m⟩:=aC m
 exact ve λu=>fE (c:=dF) 0 Z1 jJ rfl rfl rfl t1 u rfl λtg2 t2 K1=>qk K1 rfl (eW m tg2 t2 (lx (.k2 .nil)))
 exact v (lK m tg1 t1 (lx (.k2 .nil)))
 rintro tg3 r0 t3 m
 refine v (dE kU rfl (v (nP m (σ:=(List Int)×Int) (τ:=Option cE) (λg s=> [(g,.tok 5 1 ((s.1:List Int).length*1))]) (λg s=>(g=none→s.1= [])) (λg s=>.c 3 (ow g 1 (List.map dF s.1)) (.c 4 (.sc (.int .u64 (IntKind.wrap .u64 ((IntKind.wrap .u64 (p0.length:Int))*8)))) (.c 5 (nZ s.2) .nil))) tg3 t3 (lx (.k3 .nil)) ?_ ?_)))
 rintro tg4 ⟨q1,q2⟩ x t4 m
 replace m:wZ w p0 q1 q2=some x:=m
 unfold wZ at m
 refine v (v ?_)
 apply vi m <;> intro c1 m
 refine v (v (v (TF m λ_ m=>bW (eL (List.map dF ([IntKind.wrap .u8 ((IntKind.wrap .u64 ((IntKind.wrap .u64 (p0.length:Int))*8)).fdiv (2 ^ (min ((IntKind.wrap .u64 (8*(IntKind.wrap .u64 q2))):Int).toNat (IntKind.bits .u64))))]:List Int)) jJ rfl rfl rfl rfl) ?_)))
 obtain⟨z2,Z2,m⟩:=aC m
 exact ve λu=>fE (c:=dF) 0 Z2 jJ rfl rfl rfl t4 u rfl λtg5 t5 K2=>qk K2 rfl (v (eW m tg5 t5 (lx (.k3 .nil))))
 exact v (lK m tg4 t4 (lx (.k3 .nil)))
 rintro tg7 ⟨r1,r2⟩ t6 m
 refine v (v ?_)
 obtain rfl:=eE m
 exact vr λu=>dX.of1 (.inl rfl) (fT _ _ (ow _ _ _) rfl) (aS (List.nil_sublist _) u).1 ((eY _ 0 t6 u rfl)) ⟨rfl,rfl⟩
theorem aA3:aN Tryz.prog 145=true:=by kernel_rfl
def tX (m:Nat) (p0:Int) (p1:Int):Option (Int):=
 grd (decide (0≤p1)) <| grd (decide (0≤(IntKind.wrap .u64 (32 - p1)))) <| some (cJ .or .u32 (p0.fdiv (2 ^ (min (p1:Int).toNat (IntKind.bits .u32)))) (IntKind.wrap .u32 (p0*2 ^ (min ((IntKind.wrap .u64 (32 - p1)):Int).toNat (IntKind.bits .u32)))))
theorem AO {u:Nat} {p0:Int} {p1:Int} {o:Int} (h:aF) (m:tX u p0 p1=some o):
 aL Tryz.prog 146 [.sc (.int .u32 p0),.sc (.int .u64 p1)] h (λr h'=>r= .sc (.int .u32 o)∧h'=h):=by
 refine fQ 13 [.tmp 4] Tryz.func146 rfl rfl rfl rfl ?_
 unfold tX at m
 refine v (v (TF m λ_ m=>TF m λ_ m=>v ?_))
 cases m
 exact dU rfl
theorem qT:aN Tryz.prog 146=true:=by kernel_rfl
def DG (m:Nat) (y0:(List Int)) (q0:Int) (q1:Int) (q2:Ar 64) (q3:Int):Option (Lp ((Ar 64)×Int) (Lp ((Ar 64)) (Lp ((Ar 64)×Int) (Lp ((Ar 8)×Int) (bO))))):=
 if (decide (q3 < 4))=true then ((ix q2.1 q1).bind λx0=>(ix y0 (IntKind.wrap .i64 ((IntKind.wrap .i64 (q0+(IntKind.wrap .i64 (4*q1))))+q3))).bind λx1=>(ix q2.1 q1).bind λ_=>some (.go (RR q2 q1.toNat (cJ .or .u32 (IntKind.wrap .u32 (x0*2 ^ (min (8:Int).toNat (IntKind.bits .u32)))) (IntKind.wrap .u32 x1)),IntKind.wrap .i64 (q3+1)))) else some (.brk (q2,q3))
def DH (m:Nat) (y0:(List Int)) (q0:Int) (q1:Ar 64) (q2:Int):Option (Lp ((Ar 64)×Int) (Lp ((Ar 8)×Int) (bO))):=
 if (decide (q2 < 64))=true then (after (if (decide (q2 < 16))=true then (after (aT (λs=>DG m y0 q0 q2 s.1 s.2) m (q1,0)) λ⟨r0,r1⟩=>some (.brk r0)) else (ix q1.1 (IntKind.wrap .i64 (q2 - 15))).bind λx0=>(ix q1.1 (IntKind.wrap .i64 (q2 - 2))).bind λx1=>(ix q1.1 (IntKind.wrap .i64 (q2 - 16))).bind λx2=>(ix q1.1 (IntKind.wrap .i64 (q2 - 7))).bind λx3=>(tX m x0 7).bind λy1=>(tX m x0 18).bind λy2=>(tX m x1 17).bind λy3=>(tX m x1 19).bind λy4=>(ix q1.1 q2).bind λ_=>some (.brk (RR q1 q2.toNat (IntKind.wrap .u32 ((IntKind.wrap .u32 ((IntKind.wrap .u32 (x2+x3))+(cJ .xor .u32 (cJ .xor .u32 y1 y2) (x0.fdiv (2 ^ (min (3:Int).toNat (IntKind.bits .u32)))))))+(cJ .xor .u32 (cJ .xor .u32 y3 y4) (x1.fdiv (2 ^ (min (10:Int).toNat (IntKind.bits .u32))))))))):Option (Lp ((Ar 64)) (Lp ((Ar 64)×Int) (Lp ((Ar 8)×Int) (bO))))) λj0=>some (.go (j0,IntKind.wrap .i64 (q2+1)))) else some (.brk (q1,q2))
def DI (m:Nat) (y6:(Ar 64)) (r0:Ar 64) (q0:Ar 8) (q1:Int):Option (Lp ((Ar 8)×Int) (Lp ((Ar 8)×Int) (bO))):=
 if (decide (q1 < 64))=true then ((ix q0.1 0).bind λx0=>(ix q0.1 4).bind λx1=>(ix q0.1 7).bind λx2=>(tX m x1 6).bind λy0=>(tX m x1 11).bind λy1=>(tX m x1 25).bind λy2=>(ix q0.1 5).bind λx3=>(ix q0.1 6).bind λx4=>(ix y6.1 q1).bind λx5=>(ix r0.1 q1).bind λx6=>(tX m x0 2).bind λy3=>(tX m x0 13).bind λy4=>(tX m x0 22).bind λy5=>(ix q0.1 1).bind λx7=>(ix q0.1 2).bind λx8=>(ix q0.1 1).bind λx9=>(ix q0.1 2).bind λx10=>(ix q0.1 0).bind λx11=>(ix q0.1 1).bind λx12=>(ix q0.1 2).bind λx13=>(ix q0.1 3).bind λx14=>(ix q0.1 4).bind λx15=>(ix q0.1 5).bind λx16=>(ix q0.1 6).bind λx17=>some (.go ((⟨[IntKind.wrap .u32 ((IntKind.wrap .u32 ((IntKind.wrap .u32 ((IntKind.wrap .u32 ((IntKind.wrap .u32 (x2+(cJ .xor .u32 (cJ .xor .u32 y0 y1) y2)))+(cJ .xor .u32 (cJ .and .u32 x1 x3) (cJ .and .u32 (cJ .xor .u32 (IntKind.max .u32) x1) x4))))+x5))+x6))+(IntKind.wrap .u32 ((cJ .xor .u32 (cJ .xor .u32 y3 y4) y5)+(cJ .xor .u32 (cJ .xor .u32 (cJ .and .u32 x0 x7) (cJ .and .u32 x0 x8)) (cJ .and .u32 x9 x10))))),x11,x12,x13,IntKind.wrap .u32 (x14+(IntKind.wrap .u32 ((IntKind.wrap .u32 ((IntKind.wrap .u32 ((IntKind.wrap .u32 (x2+(cJ .xor .u32 (cJ .xor .u32 y0 y1) y2)))+(cJ .xor .u32 (cJ .and .u32 x1 x3) (cJ .and .u32 (cJ .xor .u32 (IntKind.max .u32) x1) x4))))+x5))+x6))),x15,x16,x17],rfl⟩:Ar 8),IntKind.wrap .i64 (q1+1)))) else some (.brk (q0,q1))
def DJ (m:Nat) (r0:Ar 8) (q0:Ar 8) (q1:Int):Option (Lp ((Ar 8)×Int) (Lp ((Ar 8)×Int) (bO))):=
 if (decide (q1 < 8))=true then ((ix q0.1 q1).bind λx0=>(ix r0.1 q1).bind λx1=>(ix q0.1 q1).bind λ_=>some (.go (RR q0 q1.toNat (IntKind.wrap .u32 (x0+x1)),IntKind.wrap .i64 (q1+1)))) else some (.brk (q0,q1))
def DK (m:Nat) (y6:(Ar 64)) (y0:(List Int)) (q0:Ar 8) (q1:Int):Option (Lp ((Ar 8)×Int) (bO)):=
 if (decide (q1 < (y0.length:Int)))=true then (after (aT (λs=>DH m y0 q1 s.1 s.2) m ((VO 64),0)) λ⟨r0,r1⟩=>after (aT (λs=>DI m y6 r0 s.1 s.2) m (q0,0)) λ⟨r2,r3⟩=>after (aT (λs=>DJ m r2 s.1 s.2) m (q0,0)) λ⟨r4,r5⟩=>some (.go (r4,IntKind.wrap .i64 (q1+64)))) else some (.brk (q0,q1))
def w5 (m:Nat) (r0:Ar 8) (q0:bO) (q1:Int):Option (Lp (bO×Int) (bO)):=
 if (decide (q1 < 32))=true then ((ix r0.1 (IntKind.wrap .i64 (q1.tdiv 4))).bind λx0=>grd (decide (0≤(IntKind.wrap .u64 (IntKind.wrap .i64 (24 - (IntKind.wrap .i64 (8*(q1.tmod 4)))))))) <| (ix q0.1 q1).bind λ_=>some (.go (RR q0 q1.toNat (IntKind.wrap .u8 (x0.fdiv (2 ^ (min ((IntKind.wrap .u64 (IntKind.wrap .i64 (24 - (IntKind.wrap .i64 (8*(q1.tmod 4)))))):Int).toNat (IntKind.bits .u32))))),IntKind.wrap .i64 (q1+1)))) else some (.brk (q0,q1))
def V1 (m:Nat) (p0:List Int):Option (bO):=
 (U1 m).bind λy6=>(NU m p0).bind λy0=>after (aT (λs=>DK m y6 y0 s.1 s.2) m ((⟨[1779033703,3144134277,1013904242,2773480762,1359893119,2600822924,528734635,1541459225],rfl⟩:Ar 8),0)) λ⟨r0,r1⟩=>after (aT (λs=>w5 m r0 s.1 s.2) m (kG,0)) λ⟨r2,r3⟩=>some r2
theorem W87 {w:Nat} {p0:List Int} {o:bO} (h:aF) (m:V1 w p0=some o):
 aL Tryz.prog 87 [.sl none 1 (List.map dF p0)] h (λr h'=>r= .agg (bL o)∧h'=h):=by
 refine fQ 208 [.cell 2 36] Tryz.func87 rfl rfl rfl rfl ?_
 unfold V1 at m
 refine v (ve λu=>bH (bL kG) u JW rfl rfl λk2 K3=>qk K3 rfl (v (vk aGB aA2 m rfl rfl λy6 m=>ve λu=>bH (dD (VO 64)) u MC rfl rfl λk8 K9=>qk K9 rfl (ve λu=>aK 0 (dD y6) u rfl rfl rfl rfl RW rfl rfl λK0=>qk K0 rfl (v (bW (CG [1779033703,3144134277,1013904242,2773480762,1359893119,2600822924,528734635,1541459225] rfl ME rfl rfl rfl) (ve λu=>bH (eF (VO 8)) u RX rfl rfl λk13 K1=>qk K1 rfl (ve λu=>aK 0 (eF (⟨[1779033703,3144134277,1013904242,2773480762,1359893119,2600822924,528734635,1541459225],rfl⟩:Ar 8)) u rfl rfl rfl rfl MD rfl rfl λK2=>qk K2 rfl (v (vk aGC aA3 m rfl rfl λy0 m=>v (jN m (σ:=(Ar 8)×Int) (λs=> [(some k13,.obj 183 (eF s.1)),(some k8,.obj 181 (dD y6)),(some k2,.obj 36 (bL kG))]) (λs=>.c 2 (.ptr k2 0) (.c 3 (.ptr k8 0) (.c 4 (.ptr k13 0) (.c 5 (.sl none 1 (List.map dF y0)) (.c 6 (nZ s.2) .nil))))) (lx (.k5 .nil)) ?_ ?_)))))))))))
 rintro _ ⟨q0,q1⟩ x m
 replace m:DK w y6 y0 q0 q1=some x:=m
 unfold DK at m
 refine v (dE kU rfl (v ?_))
 apply vi m <;> intro c0 m
 refine v (v (v (ve λu=>bH (dD (VO 64)) u MC rfl rfl λk1783 K4=>qk K4 rfl (v (jN m (σ:=(Ar 64)×Int) (λs=> [(some k1783,.obj 181 (dD s.1)),(some k13,.obj 183 (eF q0)),(some k8,.obj 181 (dD y6)),(some k2,.obj 36 (bL kG))]) (λs=>.c 2 (.ptr k2 0) (.c 3 (.ptr k8 0) (.c 4 (.ptr k13 0) (.c 5 (.sl none 1 (List.map dF y0)) (.c 6 (nZ q1) (.c 7 (.ptr k1783 0) (.c 8 (nZ s.2) .nil))))))) (lx (.k7 .nil)) ?_ ?_)))))
 rintro _ ⟨q2,q3⟩ x m
 replace m:DH w y0 q1 q2 q3=some x:=m
 unfold DH at m
 refine v (v ?_)
 apply vi m <;> intro c1 m
 refine v (vs (fL m (σ:=(Ar 64)) (λs=> [(some k1783,.obj 181 (dD s)),(some k13,.obj 183 (eF q0)),(some k8,.obj 181 (dD y6)),(some k2,.obj 36 (bL kG))]) (λs=>.c 2 (.ptr k2 0) (.c 3 (.ptr k8 0) (.c 4 (.ptr k13 0) (.c 5 (.sl none 1 (List.map dF y0)) (.c 6 (nZ q1) (.c 7 (.ptr k1783 0) (.c 8 (nZ q3) .nil))))))) (λx m=> ?_) ?_))
 refine v (v (v ?_))
 apply vi m <;> intro c2 m
 refine v (jN m (σ:=(Ar 64)×Int) (λs=> [(some k1783,.obj 181 (dD s.1)),(some k13,.obj 183 (eF q0)),(some k8,.obj 181 (dD y6)),(some k2,.obj 36 (bL kG))]) (λs=>.c 2 (.ptr k2 0) (.c 3 (.ptr k8 0) (.c 4 (.ptr k13 0) (.c 5 (.sl none 1 (List.map dF y0)) (.c 6 (nZ q1) (.c 7 (.ptr k1783 0) (.c 8 (nZ q3) (.c 9 (nZ s.2) .nil)))))))) (lx (.k8 .nil)) ?_ ?_)
 rintro _ ⟨q4,q5⟩ x m
 replace m:DG w y0 q1 q3 q4 q5=some x:=m
 unfold DG at m
 refine v (v ?_)
 apply vi m <;> intro c3 m
 refine v (v (v (vz [(17,some k1783,.obj 181 (dD q4))] mixed (λu=>⟨λ_=>aI 0 u rfl,trivial⟩) λu=>zI 0 rfl rfl (zI 1 rfl rfl ?_))))
 obtain⟨x0,X0,m⟩:=aC m
 refine zC 2 rfl (eC (y:=q4) X0 sK rfl rfl) (wJ 3 rfl (λ_ _ hi hB=>eM (y:=q4) 0 X0 iH rfl (At.s (fV.get 0 hi rfl (hB 17 (by kernel_rfl)))) (eO _)) (zC 4 rfl (SY rfl rfl rfl (by decide)) (zC 5 rfl (eS (.sl _ _ _) rfl) (zI 6 rfl rfl (zI 7 rfl rfl (zC 8 rfl (lO rfl rfl rfl trivial) (zC 9 rfl (lO rfl rfl rfl trivial) (zI 10 rfl rfl (zC 11 rfl (lO rfl rfl rfl trivial) ?_)))))))))
 obtain⟨x1,X1,m⟩:=aC m
 refine zC 12 rfl (mI X1 GY rfl rfl) (zC 13 rfl (mX (.sc (.int .u8 x1)) D0 rfl rfl) (zC 14 rfl (JN ti5 W4 rfl) (zC 15 rfl (lO rfl rfl rfl trivial) ?_)))
 obtain⟨_,X2,m⟩:=aC m
 refine zC 16 rfl (eC (y:=q4) X2 sK rfl rfl) (zE 17 rfl (wR (y:=q4) (v:=cJ .or .u32 (IntKind.wrap .u32 (x0*2 ^ (min (8:Int).toNat (IntKind.bits .u32)))) (IntKind.wrap .u32 x1)) 0 u X2 rfl rfl rfl MB λK5=>⟨⟨λe=>absurd e (by decide),trivial⟩, ?_⟩))
 exact zX (qk (f:=wK 57 _ _ _ _ _ _ _ _ _ _ _ _ _ _ _ _ _ _) K5 rfl (v (ID m)))
 exact v (bq8 m)
 rintro _ ⟨r0,r1⟩ m
 exact v (CK m)
 refine v (v (vq (by kernel_rfl) ?_))
 obtain⟨x2,X3,m⟩:=aC m
 refine bW (eC (y:=q2) X3 sK rfl rfl) (vn (λu=>eM (y:=q2) 0 X3 iH rfl (bC 0 u rfl) (eO _)) ?_)
 obtain⟨x3,X4,m⟩:=aC m
 refine bW (eC (y:=q2) X4 sK rfl rfl) (vn (λu=>eM (y:=q2) 0 X4 iH rfl (bC 0 u rfl) (eO _)) (v (vz [(29,some k1783,.obj 181 (dD q2))] mixed (λu=>⟨λ_=>aI 0 u rfl,trivial⟩) λu=>zI 0 rfl rfl (zI 1 rfl rfl (zC 2 rfl (lO rfl rfl rfl trivial) ?_)))))
 obtain⟨x4,X5,m⟩:=aC m
 refine zC 3 rfl (eC (y:=q2) X5 sK rfl rfl) (wJ 4 rfl (λ_ _ hi hB=>eM (y:=q2) 0 X5 iH rfl (At.s (fV.get 0 hi rfl (hB 29 (by kernel_rfl)))) (eO _)) (zI 5 rfl rfl (zC 6 rfl (lO rfl rfl rfl trivial) ?_)))
 obtain⟨x5,X6,m⟩:=aC m
 refine zC 7 rfl (eC (y:=q2) X6 sK rfl rfl) (wJ 8 rfl (λ_ _ hi hB=>eM (y:=q2) 0 X6 iH rfl (At.s (fV.get 0 hi rfl (hB 29 (by kernel_rfl)))) (eO _)) (zC 9 rfl (lO rfl rfl rfl trivial) (zI 10 rfl rfl ?_)))
 obtain⟨y1,Y0,m⟩:=aC m
 refine zC 11 rfl (cC (AO _ Y0) rfl qT rfl) (zI 12 rfl rfl ?_)
 obtain⟨y2,Y1,m⟩:=aC m
 refine zC 13 rfl (cC (AO _ Y1) rfl qT rfl) (zC 14 rfl (lO rfl rfl rfl trivial) (zI 15 rfl rfl (zC 16 rfl (SY rfl rfl rfl (by decide)) (zC 17 rfl (lO rfl rfl rfl trivial) (zC 18 rfl (lO rfl rfl rfl trivial) (zI 19 rfl rfl ?_))))))
 obtain⟨y3,Y2,m⟩:=aC m
 refine zC 20 rfl (cC (AO _ Y2) rfl qT rfl) (zI 21 rfl rfl ?_)
 obtain⟨y4,Y3,m⟩:=aC m
 refine zC 22 rfl (cC (AO _ Y3) rfl qT rfl) (zC 23 rfl (lO rfl rfl rfl trivial) (zI 24 rfl rfl (zC 25 rfl (SY rfl rfl rfl (by decide)) (zC 26 rfl (lO rfl rfl rfl trivial) (zC 27 rfl (lO rfl rfl rfl trivial) ?_)))))
 obtain⟨_,X7,m⟩:=aC m
 refine zC 28 rfl (eC (y:=q2) X7 sK rfl rfl) (zE 29 rfl (wR (y:=q2) (v:=IntKind.wrap .u32 ((IntKind.wrap .u32 ((IntKind.wrap .u32 (x4+x5))+(cJ .xor .u32 (cJ .xor .u32 y1 y2) (x2.fdiv (2 ^ (min (3:Int).toNat (IntKind.bits .u32)))))))+(cJ .xor .u32 (cJ .xor .u32 y3 y4) (x3.fdiv (2 ^ (min (10:Int).toNat (IntKind.bits .u32))))))) 0 u X7 rfl rfl rfl MB λK6=>⟨⟨λe=>absurd e (by decide),trivial⟩, ?_⟩))
 exact zX (qk (f:=aCW 94 _ _ _ _ _ _ _ _ _ _ _ _ _ _ _ _ _ _ _ _ _ _ _ _ _ _ _ _ _ _) K6 rfl (CK m))
 rintro _ j0 m
 exact v (CK m)
 exact v (bq7 m)
 rintro _ ⟨r2,r3⟩ m
 refine v (vl 1 (.agg (eF q0)) W6 rfl rfl rfl (ve λu=>bH (eF (VO 8)) u RX rfl rfl λk2413 K7=>qk K7 rfl (ve λu=>aK 0 (eF q0) u rfl rfl rfl rfl MD rfl rfl λK8=>qk K8 rfl (v (jN m (σ:=(Ar 8)×Int) (λs=> [(some k2413,.obj 183 (eF s.1)),(some k1783,.obj 181 (dD r2)),(some k13,.obj 183 (eF q0)),(some k8,.obj 181 (dD y6)),(some k2,.obj 36 (bL kG))]) (λs=>.c 2 (.ptr k2 0) (.c 3 (.ptr k8 0) (.c 4 (.ptr k13 0) (.c 5 (.sl none 1 (List.map dF y0)) (.c 6 (nZ q1) (.c 7 (.ptr k1783 0) (.c 12 (.ptr k2413 0) (.c 13 (nZ s.2) .nil)))))))) (lx (.k8 .nil)) ?_ ?_)))))
 rintro _ ⟨q6,q7⟩ x m
 replace m:DI w y6 r2 q6 q7=some x:=m
 unfold DI at m
 refine v (v ?_)
 apply vi m <;> intro c4 m
 refine v (v (v (vq (by kernel_rfl) ?_)))
 obtain⟨x6,X8,m⟩:=aC m
 refine bW (eC (y:=q6) X8 kH rfl rfl) (vn (λu=>eM (y:=q6) 0 X8 iH rfl (bC 0 u rfl) (eO _)) ?_)
 obtain⟨x7,X9,m⟩:=aC m
 refine bW (eC (y:=q6) X9 kH rfl rfl) (vn (λu=>eM (y:=q6) 0 X9 iH rfl (bC 0 u rfl) (eO _)) (v (vq (by kernel_rfl) ?_)))
 obtain⟨x8,X10,m⟩:=aC m
 refine bW (eC (y:=q6) X10 kH rfl rfl) (vn (λu=>eM (y:=q6) 0 X10 iH rfl (bC 0 u rfl) (eO _)) (vk AO qT m rfl rfl λy5 m=>vk AO qT m rfl rfl λy7 m=>vk AO qT m rfl rfl λy8 m=> ?_))
 obtain⟨x9,X11,m⟩:=aC m
 refine bW (eC (y:=q6) X11 kH rfl rfl) (vn (λu=>eM (y:=q6) 0 X11 iH rfl (bC 0 u rfl) (eO _)) (bW (WQ rfl rfl) ?_))
 obtain⟨x10,X12,m⟩:=aC m
 refine bW (eC (y:=q6) X12 kH rfl rfl) (vn (λu=>eM (y:=q6) 0 X12 iH rfl (bC 0 u rfl) (eO _)) ?_)
 obtain⟨x11,X13,m⟩:=aC m
 refine bW (eC (y:=y6) X13 sK rfl rfl) (vn (λu=>eM (y:=y6) 0 X13 iH rfl (bC 3 u rfl) (eO _)) ?_)
 obtain⟨x12,X14,m⟩:=aC m
 refine bW (eC (y:=r2) X14 sK rfl rfl) (vn (λu=>eM (y:=r2) 0 X14 iH rfl (bC 1 u rfl) (eO _)) (v (vq (by kernel_rfl) (vk AO qT m rfl rfl λy9 m=>vk AO qT m rfl rfl λy10 m=>vk AO qT m rfl rfl λy11 m=> ?_))))
 obtain⟨x13,X15,m⟩:=aC m
 refine bW (eC (y:=q6) X15 kH rfl rfl) (vn (λu=>eM (y:=q6) 0 X15 iH rfl (bC 0 u rfl) (eO _)) ?_)
 obtain⟨x14,X16,m⟩:=aC m
 refine bW (eC (y:=q6) X16 kH rfl rfl) (vn (λu=>eM (y:=q6) 0 X16 iH rfl (bC 0 u rfl) (eO _)) ?_)
 obtain⟨x15,X17,m⟩:=aC m
 refine bW (eC (y:=q6) X17 kH rfl rfl) (vn (λu=>eM (y:=q6) 0 X17 iH rfl (bC 0 u rfl) (eO _)) ?_)
 obtain⟨x16,X18,m⟩:=aC m
 refine bW (eC (y:=q6) X18 kH rfl rfl) (vn (λu=>eM (y:=q6) 0 X18 iH rfl (bC 0 u rfl) (eO _)) (v ?_))
 obtain⟨x17,X19,m⟩:=aC m
 refine bW (eC (y:=q6) X19 kH rfl rfl) (vn (λu=>eM (y:=q6) 0 X19 iH rfl (bC 0 u rfl) (eO _)) ?_)
 obtain⟨x18,X20,m⟩:=aC m
 refine bW (eC (y:=q6) X20 kH rfl rfl) (vn (λu=>eM (y:=q6) 0 X20 iH rfl (bC 0 u rfl) (eO _)) ?_)
 obtain⟨x19,X21,m⟩:=aC m
 refine bW (eC (y:=q6) X21 kH rfl rfl) (vn (λu=>eM (y:=q6) 0 X21 iH rfl (bC 0 u rfl) (eO _)) ?_)
 obtain⟨x20,X22,m⟩:=aC m
 refine bW (eC (y:=q6) X22 kH rfl rfl) (vn (λu=>eM (y:=q6) 0 X22 iH rfl (bC 0 u rfl) (eO _)) ?_)
 obtain⟨x21,X23,m⟩:=aC m
 refine bW (eC (y:=q6) X23 kH rfl rfl) (vn (λu=>eM (y:=q6) 0 X23 iH rfl (bC 0 u rfl) (eO _)) ?_)
 obtain⟨x22,X24,m⟩:=aC m
 refine bW (eC (y:=q6) X24 kH rfl rfl) (vn (λu=>eM (y:=q6) 0 X24 iH rfl (bC 0 u rfl) (eO _)) ?_)
 obtain⟨x23,X25,m⟩:=aC m
 refine bW (eC (y:=q6) X25 kH rfl rfl) (vn (λu=>eM (y:=q6) 0 X25 iH rfl (bC 0 u rfl) (eO _)) (bW (CG [IntKind.wrap .u32 ((IntKind.wrap .u32 ((IntKind.wrap .u32 ((IntKind.wrap .u32 ((IntKind.wrap .u32 (x8+(cJ .xor .u32 (cJ .xor .u32 y5 y7) y8)))+(cJ .xor .u32 (cJ .and .u32 x7 x9) (cJ .and .u32 (cJ .xor .u32 (IntKind.max .u32) x7) x10))))+x11))+x12))+(IntKind.wrap .u32 ((cJ .xor .u32 (cJ .xor .u32 y9 y10) y11)+(cJ .xor .u32 (cJ .xor .u32 (cJ .and .u32 x6 x13) (cJ .and .u32 x6 x14)) (cJ .and .u32 x15 x16))))),x17,x18,x19,IntKind.wrap .u32 (x20+(IntKind.wrap .u32 ((IntKind.wrap .u32 ((IntKind.wrap .u32 ((IntKind.wrap .u32 (x8+(cJ .xor .u32 (cJ .xor .u32 y5 y7) y8)))+(cJ .xor .u32 (cJ .and .u32 x7 x9) (cJ .and .u32 (cJ .xor .u32 (IntKind.max .u32) x7) x10))))+x11))+x12))),x21,x22,x23] rfl ME rfl rfl rfl) (ve λu=>aK 0 (eF (⟨[IntKind.wrap .u32 ((IntKind.wrap .u32 ((IntKind.wrap .u32 ((IntKind.wrap .u32 ((IntKind.wrap .u32 (x8+(cJ .xor .u32 (cJ .xor .u32 y5 y7) y8)))+(cJ .xor .u32 (cJ .and .u32 x7 x9) (cJ .and .u32 (cJ .xor .u32 (IntKind.max .u32) x7) x10))))+x11))+x12))+(IntKind.wrap .u32 ((cJ .xor .u32 (cJ .xor .u32 y9 y10) y11)+(cJ .xor .u32 (cJ .xor .u32 (cJ .and .u32 x6 x13) (cJ .and .u32 x6 x14)) (cJ .and .u32 x15 x16))))),x17,x18,x19,IntKind.wrap .u32 (x20+(IntKind.wrap .u32 ((IntKind.wrap .u32 ((IntKind.wrap .u32 ((IntKind.wrap .u32 (x8+(cJ .xor .u32 (cJ .xor .u32 y5 y7) y8)))+(cJ .xor .u32 (cJ .and .u32 x7 x9) (cJ .and .u32 (cJ .xor .u32 (IntKind.max .u32) x7) x10))))+x11))+x12))),x21,x22,x23],rfl⟩:Ar 8)) u rfl rfl rfl rfl MD rfl rfl λK10=>qk K10 rfl ?_)))
 exact v (ID m)
 exact v (bq8 m)
 rintro _ ⟨r4,r5⟩ m
 refine v (jN m (σ:=(Ar 8)×Int) (λs=> [(some k2413,.obj 183 (eF r4)),(some k1783,.obj 181 (dD r2)),(some k13,.obj 183 (eF s.1)),(some k8,.obj 181 (dD y6)),(some k2,.obj 36 (bL kG))]) (λs=>.c 2 (.ptr k2 0) (.c 3 (.ptr k8 0) (.c 4 (.ptr k13 0) (.c 5 (.sl none 1 (List.map dF y0)) (.c 6 (nZ q1) (.c 12 (.ptr k2413 0) (.c 18 (nZ s.2) .nil))))))) (lx (.k7 .nil)) ?_ ?_)
 rintro _ ⟨q8,q9⟩ x m
 replace m:DJ w r4 q8 q9=some x:=m
 unfold DJ at m
 refine v (v ?_)
 apply vi m <;> intro c5 m
 refine v (v (v (vz [(8,some k13,.obj 183 (eF q8)),(1000000,some k2413,.obj 183 (eF r4))] mixed (λu=>⟨λ_=>aI 2 u rfl,λ_=>aI 0 u rfl,trivial⟩) λu=>zI 0 rfl rfl ?_)))
 obtain⟨x24,X26,m⟩:=aC m
 refine zC 1 rfl (eC (y:=q8) X26 kH rfl rfl) (wJ 2 rfl (λ_ _ hi hB=>eM (y:=q8) 0 X26 iH rfl (At.s (fV.get 0 hi rfl (hB 8 (by kernel_rfl)))) (eO _)) (zI 3 rfl rfl ?_))
 obtain⟨x25,X27,m⟩:=aC m
 refine zC 4 rfl (eC (y:=r4) X27 kH rfl rfl) (wJ 5 rfl (λ_ _ hi hB=>eM (y:=r4) 0 X27 iH rfl (At.s (fV.get 1 hi rfl (hB 1000000 (by kernel_rfl)))) (eO _)) (zC 6 rfl (lO rfl rfl rfl trivial) ?_))
 obtain⟨_,X28,m⟩:=aC m
 refine zC 7 rfl (eC (y:=q8) X28 kH rfl rfl) (zE 8 rfl (wR (y:=q8) (v:=IntKind.wrap .u32 (x24+x25)) 2 u X28 rfl rfl rfl MB λK12=>⟨⟨λe=>absurd e (by decide),λ_=>aI 0 K12 rfl,trivial⟩, ?_⟩))
 exact zX (qk (f:=PW 189 _ _ _ _ _ _ _ _ _) K12 rfl (v (CK m)))
 exact v (bq7 m)
 rintro _ ⟨r6,r7⟩ m
 exact v (wL m (lJ [2,3,4] rfl rfl (.k5 .nil)))
 exact v (WU m)
 rintro _ ⟨r8,r9⟩ m
 refine v (ve λu=>bH (bL kG) u JW rfl rfl λk2657 K13=>qk K13 rfl (v (jN m (σ:=bO×Int) (λs=> [(some k2657,.obj 36 (bL s.1)),(some k13,.obj 183 (eF r8)),(some k8,.obj 181 (dD y6)),(some k2,.obj 36 (bL kG))]) (λs=>.c 2 (.ptr k2 0) (.c 4 (.ptr k13 0) (.c 19 (.ptr k2657 0) (.c 20 (nZ s.2) .nil)))) (lx (.k4 .nil)) ?_ ?_)))
 rintro _ ⟨q10,q11⟩ x m
 replace m:w5 w r8 q10 q11=some x:=m
 unfold w5 at m
 refine v (v ?_)
 apply vi m <;> intro c6 m
 refine v (v (v ?_))
 obtain⟨x26,X29,m⟩:=aC m
 refine bW (eC (y:=r8) X29 kH rfl rfl) (vn (λu=>eM (y:=r8) 0 X29 iH rfl (bC 1 u rfl) (eO _)) (TF m λ_ m=> ?_))
 obtain⟨_,X30,m⟩:=aC m
 exact bW (mJ X30 sJ rfl rfl) (ve λu=>wR (y:=q10) (v:=IntKind.wrap .u8 (x26.fdiv (2 ^ (min ((IntKind.wrap .u64 (IntKind.wrap .i64 (24 - (IntKind.wrap .i64 (8*(q11.tmod 4)))))):Int).toNat (IntKind.bits .u32))))) 0 u X30 rfl rfl rfl sz5 λK15=>qk K15 rfl (v (f8 m)))
 exact v (wS m)
 rintro _ ⟨r10,r11⟩ m
 refine v (vl 0 (.agg (bL r10)) fR rfl rfl rfl (ve λu=>aK 3 (bL r10) u rfl rfl rfl rfl JV rfl rfl λK17=>qk K17 rfl (v ?_)))
 obtain rfl:=eE m
 exact vr λu=>dX.of1 (.inl rfl) (rA (.agg (bL r10)) fR rfl (bC 3 u rfl) rfl) (aS (List.nil_sublist _) u).1 (bJ.refl _ _) ⟨rfl,rfl⟩
theorem aA4:aN Tryz.prog 87=true:=by kernel_rfl
open Go.Vm
def w6 (m:Nat) (p0:List dR) (q0:Int):Option (Lp (Int) (Int)):=
 if (decide (q0 < (p0.length:Int)))=true then (after ((ix p0 q0).bind λx0=>(CY m x0.Path).bind λy0=>if (!y0)=true then (some (.brk true)) else if (decide (0 < q0))=true then ((ix p0 q0).bind λx1=>(ix p0 (IntKind.wrap .i64 (q0 - 1))).bind λx2=>some (.brk (Op.bytesLess x1.Path.toList x2.Path.toList || x1.Path.toList==x2.Path.toList))) else some (.brk false):Option (Lp (Bool) (Lp (Int) (Int)))) λj0=>if j0=true then (some (.ret 1)) else some (.go (IntKind.wrap .i64 (q0+1)))) else some (.brk q0)
def NV (m:Nat) (p0:List dR):Option (Int):=
 (KI m p0).bind λy4=>if y4=true then (some 2) else after (aT (λs=>w6 m p0 s) m 0) λr0=>some 0
theorem aGD {u:Nat} {p0:List dR} {o:Int} (h:aF) (m:NV u p0=some o):
 aL Tryz.prog 142 [.sl none 2 (List.map eT p0)] h (λr h'=>r=nZ o∧h'=h):=by
 refine fQ 37 [.tmp 2] Tryz.func142 rfl rfl rfl rfl ?_
 unfold NV at m
 refine v (v (vk aA0 SN m rfl rfl λ_ m=>v ?_))
 apply vi m <;> intro c6 m
 refine v (v ?_)
 obtain rfl:=eE m
 exact dU rfl
 refine v (v (jN m (σ:=Int) (λs=> []) (λs=>.c 0 (.sl none 2 (List.map eT p0)) (.c 3 (nZ s) .nil)) (lx (.k2 .nil)) ?_ ?_))
 rintro _ q0 x m
 replace m:w6 u p0 q0=some x:=m
 unfold w6 at m
 refine v (dE AF rfl (v ?_))
 apply vi m <;> intro c0 m
 refine v (v (vs (fL m (σ:=Bool) (λs=> []) (λs=>.c 0 (.sl none 2 (List.map eT p0)) (.c 3 (nZ q0) (.c 36 (.sc (.bool s)) .nil))) (λx m=> ?_) ?_)))
 refine v (vq (by kernel_rfl) (vx m pD rfl rfl λ_ _ m=>vk MJ EW m rfl rfl λ_ m=> ?_))
 apply vi m <;> intro b0 m
 rw[b0]
 exact gK m
 rw[b0]
 apply vi m <;> intro b1 m
 rw[b1]
 exact vx m pD rfl rfl λ_ _ m=>vx m pD rfl rfl λ_ _ m=>bW (wE rfl rfl rfl trivial) (gK m)
 rw[b1]
 exact gK m
 rintro _ j0 m
 refine v ?_
 apply vi m <;> intro c1 m
 refine v (v (fZ m λm=> ?_))
 obtain rfl:=eE m
 exact dU rfl
 exact v (v (rC m))
 exact v (OU m)
 rintro _ r0 m
 refine v (v ?_)
 obtain rfl:=eE m
 exact dU rfl
theorem aA5:aN Tryz.prog 142=true:=by kernel_rfl
def w7 (m:Nat) (p0:List Int) (q0:Int) (q1:Int):Option (Lp (Int×Int) (Int)):=
 if (decide (q1 < (p0.length:Int)))=true then ((ix p0 q1).bind λx0=>after (if (decide (8≤(IntKind.wrap .i64 (q1+1))))=true then (if (((IntKind.wrap .u32 ((IntKind.wrap .u32 (q0*2))+(IntKind.wrap .u32 ((IntKind.wrap .u32 ((IntKind.wrap .u32 x0)+1))*2654435761)))).fdiv (2 ^ (min (28:Int).toNat (IntKind.bits .u32))))==0)=true then (some (.brk true)) else some (.brk ((IntKind.wrap .i64 (q1+1))==64))) else some (.brk ((IntKind.wrap .i64 (q1+1))==64)):Option (Lp (Bool) (Lp (Int×Int) (Int)))) λj0=>if j0=true then (some (.ret (IntKind.wrap .i64 (q1+1)))) else some (.go (IntKind.wrap .u32 ((IntKind.wrap .u32 (q0*2))+(IntKind.wrap .u32 ((IntKind.wrap .u32 ((IntKind.wrap .u32 x0)+1))*2654435761))),IntKind.wrap .i64 (q1+1)))) else some (.brk (q0,q1))
def NW (m:Nat) (p0:List Int):Option (Int):=
 after (aT (λs=>w7 m p0 s.1 s.2) m (0,0)) λ⟨r0,r1⟩=>some (p0.length:Int)
theorem aGE {u:Nat} {p0:List Int} {o:Int} (h:aF) (m:NW u p0=some o):
 aL Tryz.prog 184 [.sl none 1 (List.map dF p0)] h (λr h'=>r=nZ o∧h'=h):=by
 refine fQ 38 [.tmp 2] Tryz.func184 rfl rfl rfl rfl ?_
 unfold NW at m
 refine v (v (v (jN m (σ:=Int×Int) (λs=> []) (λs=>.c 0 (.sl none 1 (List.map dF p0)) (.c 3 (.sc (.int .u32 s.1)) (.c 4 (nZ s.2) .nil))) (lx (.k3 .nil)) ?_ ?_)))
 rintro _ ⟨q0,q1⟩ x m
 replace m:w7 u p0 q0 q1=some x:=m
 unfold w7 at m
 refine v (dE kU rfl (v ?_))
 apply vi m <;> intro c0 m
 refine v (v (v (vx m GY rfl rfl λx0 _ m=>vs (fL m (σ:=Bool) (λs=> []) (λs=>.c 0 (.sl none 1 (List.map dF p0)) (.c 3 (.sc (.int .u32 (IntKind.wrap .u32 ((IntKind.wrap .u32 (q0*2))+(IntKind.wrap .u32 ((IntKind.wrap .u32 ((IntKind.wrap .u32 x0)+1))*2654435761)))))) (.c 4 (nZ q1) (.c 33 (.sc (.bool s)) .nil)))) (λx m=> ?_) ?_))))
 refine v ?_
 apply vi m <;> intro b0 m
 rw[b0]
 apply vi m <;> intro b1 m
 rw[b1]
 exact f8 m
 rw[b1]
 exact f8 m
 rw[b0]
 exact f8 m
 rintro _ j0 m
 refine v ?_
 apply vi m <;> intro c1 m
 refine v (v (fZ m λm=> ?_))
 cases m
 exact dU rfl
 exact v (v (gK m))
 exact v (z9 m)
 rintro _ ⟨r0,r1⟩ m
 refine v (dE kU rfl (v ?_))
 cases m
 exact dU rfl
theorem aA6:aN Tryz.prog 184=true:=by kernel_rfl
def w8 (m:Nat) (q0:List (List Int)) (q1:List Int):Option (Lp ((List (List Int))×(List Int)) ((List (List Int)))):=
 if (decide (0 < (q1.length:Int)))=true then ((NW m q1).bind λy0=>(slc q1 0 y0).bind λx0=>(vK m x0).bind λy1=>(app q0 ([y1]:List (List Int))).bind λz0=>(slc q1 y0 (q1).length).bind λx1=>some (.go (z0,x1))) else some (.brk (q0,q1))
def NX (m:Nat) (p0:List Int):Option ((List (List Int))):=
 after (aT (λs=>w8 m s.1 s.2) m ([],p0)) λ⟨r0,r1⟩=>some r0
theorem aGF {w:Nat} {p0:List Int} {o:(List (List Int))} (h:aF) (m:NX w p0=some o):
 aL Tryz.prog 143 [.sl none 1 (List.map dF p0)] h (λr h'=>r= .sl none 1 (List.map hU o)∧h'=h):=by
 refine fQ 21 [.tmp 2] Tryz.func143 rfl rfl rfl rfl ?_
 unfold NX at m
 refine v (v (vs (qC (FZ (.tok 41 1 (([]:List (List Int)).length*1)) 3 (ow none 1 (List.map hU [])) (jF _ _)) (nP m (σ:=(List (List Int))×(List Int)) (τ:=Option cE) (λg s=> [(g,.tok 41 1 ((s.1:List (List Int)).length*1))]) (λg s=>(g=none→s.1= [])) (λg s=>.c 0 (.sl none 1 (List.map dF s.2)) (.c 3 (ow g 1 (List.map hU s.1)) .nil)) none (λ_=>rfl) (lx (.k2 .nil)) ?_ ?_))))
 rintro tg0 ⟨q0,q1⟩ x t0 m
 replace m:w8 w q0 q1=some x:=m
 unfold w8 at m
 refine v (dE kU rfl (v ?_))
 apply vi m <;> intro c0 m
 refine v (v (v (vk aGE aA6 m rfl rfl λ_ m=>v ?_)))
 obtain⟨_,X0,m⟩:=aC m
 refine bW (pN X0 GY rfl rfl rfl rfl) (vk MU E5 m rfl rfl λy0 m=>bW (eL (List.map hU ([y0]:List (List Int))) BC rfl rfl rfl rfl) ?_)
 obtain⟨z0,Z0,m⟩:=aC m
 refine ve λu=>fE (c:=hU) 0 Z0 BC rfl rfl rfl t0 u rfl λtg1 t1 K0=>qk K0 rfl (v ?_)
 obtain⟨_,X1,m⟩:=aC m
 exact bW (pN X1 GY rfl rfl rfl rfl) (eW m tg1 t1 (lx (.k2 .nil)))
 exact v (lK m tg0 t0 (lx (.k2 .nil)))
 rintro tg2 ⟨r0,r1⟩ t2 m
 refine v (v ?_)
 obtain rfl:=eE m
 exact vr λu=>dX.of1 (.inl rfl) (fT _ _ (ow _ _ _) rfl) (aS (List.nil_sublist _) u).1 ((eY _ 0 t2 u rfl)) ⟨rfl,rfl⟩
theorem aA7:aN Tryz.prog 143=true:=by kernel_rfl
def DL (m:Nat) (y0:(List (List Int))) (q0:List bO) (q1:List (List Int)) (q2:List bO) (q3:Int):Option (Lp ((List bO)×(List (List Int))×(List bO)×Int) (Lp ((List dJ)×(List (List Int))×(List bO)×Int) (bD×(List (List Int))×Int))):=
 if (decide (q3 < (y0.length:Int)))=true then ((ix y0 q3).bind λx0=>(V1 m x0).bind λy1=>(app q0 ([y1]:List bO)).bind λz0=>(EX m q2 y1).bind λy2=>after (if y2.2.2=true then ((slc q1 0 y2.2.1).bind λx1=>(ix y0 q3).bind λx2=>(app ([]:List (List Int)) x1).bind λz1=>(app z1 ([x2]:List (List Int))).bind λz2=>(slc q1 y2.2.1 (q1.length:Int)).bind λx3=>(app z2 x3).bind λz3=>some (.brk z3)) else some (.brk q1):Option (Lp ((List (List Int))) (Lp ((List bO)×(List (List Int))×(List bO)×Int) (Lp ((List dJ)×(List (List Int))×(List bO)×Int) (bD×(List (List Int))×Int))))) λj0=>some (.go (z0,j0,y2.1,IntKind.wrap .i64 (q3+1)))) else some (.brk (q0,q1,q2,q3))
def DM (m:Nat) (p1:List dR) (q0:List dJ) (q1:List (List Int)) (q2:List bO) (q3:Int):Option (Lp ((List dJ)×(List (List Int))×(List bO)×Int) (bD×(List (List Int))×Int)):=
 if (decide (q3 < (p1.length:Int)))=true then ((ix p1 q3).bind λx0=>(ix p1 q3).bind λx1=>(ix p1 q3).bind λx2=>(NX m x2.Data).bind λy0=>after (aT (λs=>DL m y0 s.1 s.2.1 s.2.2.1 s.2.2.2) m ([],q1,q2,0)) λ⟨r0,r1,r2,r3⟩=>(app q0 ([({ Path:=x0.Path,Size:=(x1.Data.length:Int),Ids:=r0}:dJ)]:List dJ)).bind λz0=>some (.go (z0,r1,r2,IntKind.wrap .i64 (q3+1)))) else some (.brk (q0,q1,q2,q3))
def M86 (m:Nat) (p0:ByteArray) (p1:List dR):Option (bD×(List (List Int))×Int):=
 (CY m p0).bind λy7=>if (!y7)=true then (some (({ Name:=ByteArray.empty,Parts:= []}:bD), [],1)) else (NV m p1).bind λy0=>if (y0 !=0)=true then (some (({ Name:=ByteArray.empty,Parts:= []}:bD), [],y0)) else after (aT (λs=>DM m p1 s.1 s.2.1 s.2.2.1 s.2.2.2) m ([], [], [],0)) λ⟨r0,r1,r2,r3⟩=>some (({ Name:=p0,Parts:=r0}:bD),r1,0)
theorem W86 {w:Nat} {p0:ByteArray} {p1:List dR} {o:bD×(List (List Int))×Int} (h:aF) (m:M86 w p0 p1=some o):
 aL Tryz.prog 86 [.sc (.string p0),.sl none 2 (List.map eT p1)] h (λr h'=>r= .tup [.agg (aX o.1),.sl none 1 (List.map hU o.2.1),nZ o.2.2]∧h'=h):=by
 refine fQ 106 [.cell 4 58,.tmp 5,.tmp 6] Tryz.func86 rfl rfl rfl rfl ?_
 unfold M86 at m
 refine v (ve λu=>bH ([.sc (.string ByteArray.empty),sZ]) u L0 rfl rfl λk2 K3=>qk K3 rfl (v (vk MJ EW m rfl rfl λ_ m=>v ?_)))
 apply vi m <;> intro c9 m
 refine v (bW (fI ([.sc (.string ByteArray.empty),sZ]) P5 rfl) (ve λu=>aK 0 ([.sc (.string ByteArray.empty),sZ]) u rfl rfl rfl rfl AE rfl rfl λK0=>qk K0 rfl (v ?_)))
 cases m
 exact vr λu=>dX.of3 (.inl rfl) (rA (.agg ([.sc (.string ByteArray.empty),sZ])) m6 rfl (bC 0 u rfl) rfl) (fT _ _ (.sc (.slice _ _ _)) rfl) (fT _ _ (.sc (.int _ _)) rfl) (aS (List.nil_sublist _) u).1 (bJ.agg (.cons (bJ.refl _ _) (.cons (aY _) .nil))) (aY _) (bJ.refl _ _) ⟨rfl,rfl⟩
 refine v (v (vk aGD aA5 m rfl rfl λ_ m=>v (v ?_)))
 apply vi m <;> intro c0 m
 refine v (bW (fI ([.sc (.string ByteArray.empty),sZ]) P5 rfl) (ve λu=>aK 0 ([.sc (.string ByteArray.empty),sZ]) u rfl rfl rfl rfl AE rfl rfl λK1=>qk K1 rfl (v ?_)))
 cases m
 exact vr λu=>dX.of3 (.inl rfl) (rA (.agg ([.sc (.string ByteArray.empty),sZ])) m6 rfl (bC 0 u rfl) rfl) (fT _ _ (.sc (.slice _ _ _)) rfl) (fT _ _ (.sc (.int _ _)) rfl) (aS (List.nil_sublist _) u).1 (bJ.agg (.cons (bJ.refl _ _) (.cons (aY _) .nil))) (aY _) (bJ.refl _ _) ⟨rfl,rfl⟩
 refine v (v (bW (fI ([.sc (.string p0),sZ]) P5 rfl) (ve λu=>bH ([.sc (.string ByteArray.empty),sZ]) u L0 rfl rfl λk21 K2=>qk K2 rfl (ve λu=>aK 0 ([.sc (.string p0),sZ]) u rfl rfl rfl rfl AE rfl rfl λK4=>qk K4 rfl (v (v (v (qC (FZ (.tok 41 1 (([]:List (List Int)).length*1)) 10 (ow none 1 (List.map hU [])) (jF _ _)) (qC (WT (.tok 70 3 (([]:List dJ).length*3)) 2 ([.sc (.string p0),ow none 3 (List.map bT [])]) rfl (.cons (bJ.refl _ _) (.cons (jF (c:=bT) _ 3) .nil))) (nP m (σ:=(List dJ)×(List (List Int))×(List bO)×Int) (τ:=Option cE×Option cE) (λg s=> [(g.1,.tok 70 3 ((s.1:List dJ).length*3)),(g.2,.tok 41 1 ((s.2.1:List (List Int)).length*1)),(some k21,.obj 58 ([.sc (.string p0),ow g.1 3 (List.map bT s.1)])),(some k2,.obj 58 ([.sc (.string ByteArray.empty),sZ]))]) (λg s=>(g.1=none→s.1= [])∧(g.2=none→s.2.1= [])) (λg s=>.c 1 (.sl none 2 (List.map eT p1)) (.c 4 (.ptr k2 0) (.c 8 (.ptr k21 0) (.c 9 (.sl none 32 (List.map bL s.2.2.1)) (.c 10 (ow g.2 1 (List.map hU s.2.1)) (.c 11 (nZ s.2.2.2) .nil)))))) (none,none) (⟨(λ_=>rfl),(λ_=>rfl)⟩) (lx (.k3 (.cons (aY _) (.k2 .nil)))) ?_ ?_))))))))))
 rintro⟨tg0,tg1⟩ ⟨q0,q1,q2,q3⟩ x ⟨t0,t1⟩ m
 replace m:DM w p1 q0 q1 q2 q3=some x:=m
 unfold DM at m
 refine v (dE AF rfl (v ?_))
 apply vi m <;> intro c1 m
 refine v (v (v (vz [] mixed (λu=>trivial) λu=>zC 0 rfl (eS (.sl _ _ _) rfl) (zI 1 rfl rfl ?_))))
 obtain⟨x0,X0,m⟩:=aC m
 refine zC 2 rfl (mI X0 pD rfl rfl) (zC 3 rfl (o9 L8 rfl rfl) (zC 4 rfl (mX (.sc (.string x0.Path)) uF rfl rfl) (zC 5 rfl (eS (.sl _ _ _) rfl) (zI 6 rfl rfl ?_))))
 obtain⟨x1,X1,m⟩:=aC m
 refine zC 7 rfl (mI X1 pD rfl rfl) (zC 8 rfl (o9 L9 rfl rfl) (zC 9 rfl (mX (.sl none 1 (List.map dF x1.Data)) lR rfl rfl) (zC 10 rfl (uR kU rfl) (zC 11 rfl (fI ([.sc (.string x0.Path),nZ (x1.Data.length:Int),sZ]) aDB rfl) (zE 12 rfl (bH (OQ) u yA rfl rfl λk2233 K5=>⟨trivial, ?_⟩))))))
 refine zE 13 rfl (aK 0 ([.sc (.string x0.Path),nZ (x1.Data.length:Int),sZ]) K5 rfl rfl rfl rfl AH rfl rfl λK6=>⟨trivial, ?_⟩)
 refine zX (qk (f:=.c 12 _ (JR 49 _ _ _ _ _ _ _ _ _ _ _ _ _)) K6 rfl (v (vx m pD rfl rfl λ_ _ m=>vk aGF aA7 m rfl rfl λy0 m=>v (qC (WT (.tok 36 32 (([]:List bO).length*32)) 1 ([.sc (.string x0.Path),nZ (x1.Data.length:Int),ow none 32 (List.map bL [])]) rfl (.k2 (.cons (jF (c:=bL) _ 32) .nil))) (nP m (σ:=(List bO)×(List (List Int))×(List bO)×Int) (τ:=Option cE×Option cE) (λg s=> [(g.1,.tok 36 32 ((s.1:List bO).length*32)),(some k2233,.obj 70 ([.sc (.string x0.Path),nZ (x1.Data.length:Int),ow g.1 32 (List.map bL s.1)])),(tg0,.tok 70 3 ((q0:List dJ).length*3)),(g.2,.tok 41 1 ((s.2.1:List (List Int)).length*1)),(some k21,.obj 58 ([.sc (.string p0),ow tg0 3 (List.map bT q0)])),(some k2,.obj 58 ([.sc (.string ByteArray.empty),sZ]))]) (λg s=>(g.1=none→s.1= [])∧(g.2=none→s.2.1= [])) (λg s=>.c 1 (.sl none 2 (List.map eT p1)) (.c 4 (.ptr k2 0) (.c 8 (.ptr k21 0) (.c 9 (.sl none 32 (List.map bL s.2.2.1)) (.c 10 (ow g.2 1 (List.map hU s.2.1)) (.c 11 (nZ q3) (.c 12 (.ptr k2233 0) (.c 13 (.sl none 1 (List.map hU y0)) (.c 14 (nZ s.2.2.2) .nil))))))))) (none,tg1) (⟨(λ_=>rfl),t1⟩) (lx (.k9 .nil)) ?_ ?_)))))
 rintro⟨tg2,tg3⟩ ⟨q4,q5,q6,q7⟩ x ⟨t2,t3⟩ m
 replace m:DL w y0 q4 q5 q6 q7=some x:=m
 unfold DL at m
 refine v (dE RS rfl (v ?_))
 apply vi m <;> intro c2 m
 refine v (v (v (vx m BB rfl rfl λ_ _ m=>vk W87 aA4 m rfl rfl λy1 m=>ve λu=>bH (bL kG) u JW rfl rfl λk2604 K7=>qk K7 rfl (ve λu=>aK 0 (bL y1) u rfl rfl rfl rfl JV rfl rfl λK8=>qk K8 rfl (v (vl 2 (ow tg2 32 (List.map bL q4)) pU rfl rfl rfl (vl 0 (.agg (bL y1)) fR rfl rfl rfl (bW (eL (List.map bL ([y1]:List bO)) CU rfl rfl rfl rfl) ?_))))))))
 obtain⟨z0,Z0,m⟩:=aC m
 refine ve λu=>fE (c:=bL) 1 Z0 CU rfl rfl rfl t2 u rfl λtg4 t4 K9=>qk K9 rfl (ve λu=>aK 2 ([.sc (.string x0.Path),nZ (x1.Data.length:Int),ow tg4 32 (List.map bL z0)]) u rfl rfl (jG rfl) (pM _ _ _) TV rfl rfl λK10=>qk K10 rfl (v (vl 0 (.agg (bL y1)) fR rfl rfl rfl (vk XQ R7 m rfl rfl λy2 m=>v (pJ m (σ:=(List (List Int))) (τ:=Option cE) (λg s=> [(some k2604,.obj 36 (bL y1)),(tg4,.tok 36 32 ((z0:List bO).length*32)),(some k2233,.obj 70 ([.sc (.string x0.Path),nZ (x1.Data.length:Int),ow tg4 32 (List.map bL z0)])),(tg0,.tok 70 3 ((q0:List dJ).length*3)),(g,.tok 41 1 ((s:List (List Int)).length*1)),(some k21,.obj 58 ([.sc (.string p0),ow tg0 3 (List.map bT q0)])),(some k2,.obj 58 ([.sc (.string ByteArray.empty),sZ]))]) (λg s=>(g=none→s= [])) (λg s=>.c 1 (.sl none 2 (List.map eT p1)) (.c 4 (.ptr k2 0) (.c 8 (.ptr k21 0) (.c 10 (ow g 1 (List.map hU s)) (.c 11 (nZ q3) (.c 12 (.ptr k2233 0) (.c 13 (.sl none 1 (List.map hU y0)) (.c 14 (nZ q7) (.c 16 (.sl none 32 (List.map bL y2.1)) .nil))))))))) (λx m=> ?_) ?_)))))
 refine v ?_
 apply vi m <;> intro c3 m
 refine v (v (vz [] mixed (λu=>trivial) λu=>zC 0 rfl (eS (.sc (.slice _ _ _)) rfl) (zC 1 rfl (eS (ow _ _ _) rfl) (zI 2 rfl rfl ?_))))
 obtain⟨_,X2,m⟩:=aC m
 refine zC 3 rfl (CF X2 BB rfl t3 rfl rfl rfl) (zC 5 rfl (eS (.sl _ _ _) rfl) (zI 6 rfl rfl ?_))
 obtain⟨x2,X3,m⟩:=aC m
 refine zC 7 rfl (mI X3 BB rfl rfl) (zC 8 rfl (mX (.sl none 1 (List.map dF x2)) lR rfl rfl) (zC 9 rfl (eL (List.map hU ([x2]:List (List Int))) BC rfl rfl rfl rfl) ?_))
 obtain⟨z1,Z1,m⟩:=aC m
 refine zE 4 rfl (oF (c:=hU) Z1 BC rfl rfl u nofun (nU (sH X2 t3)) λtg5 t5 K12=>⟨trivial, ?_⟩)
 obtain⟨z2,Z2,m⟩:=aC m
 refine zE 10 rfl (fE (c:=hU) 0 Z2 BC rfl rfl rfl t5 K12 rfl λtg6 t6 K13=>⟨trivial, ?_⟩)
 refine zC 11 rfl (iI (ow _ _ _) rfl) (zX (qk (f:=.c 19 _ (.c 91 _ (.c 85 _ (fq5 90 _ _ _ _ _ (PU 84 _ _ _ _ _))))) K13 rfl (v ?_)))
 obtain⟨_,X4,m⟩:=aC m
 refine bW (CF X4 BB rfl t3 rfl rfl rfl) ?_
 obtain⟨z3,Z3,m⟩:=aC m
 exact ve λu=>fE (c:=hU) 0 Z3 BC rfl rfl rfl t6 u (nU (sH X4 t3)) λtg7 t7 K14=>qk K14 rfl (eW m tg7 t7 (lJ [1,2,3,4,0,6,7] rfl rfl (.k9 .nil)))
 exact v (eW m tg3 t3 (lx (.k9 .nil)))
 rintro tg8 j0 t8 m
 exact v (v (eW m (tg4,tg8) ⟨t4,t8⟩ (lJ [1,2,3,4,5,6] rfl rfl (.k9 .nil))))
 exact v (lK m (tg2,tg3) ⟨t2,t3⟩ (lx (.k9 .nil)))
 rintro⟨tg9,tg10⟩ ⟨r0,r1,r2,r3⟩ ⟨t9,t10⟩ m
 refine v (vl 4 (ow tg0 3 (List.map bT q0)) lB rfl rfl rfl (vl 1 (.agg ([.sc (.string x0.Path),nZ (x1.Data.length:Int),ow tg9 32 (List.map bL r0)])) xZ rfl rfl rfl (ve λu=>CJ (t:=100) (.agg (bT ({ Path:=x0.Path,Size:=(x1.Data.length:Int),Ids:=r0}:dJ))) (aS (.cons _ (.refl _)) u).1 (bJ.agg (.k2 (.cons (mZ _ 0 t9 u rfl (.refl _)) .nil))) (a_v (eL (List.map bT ([({ Path:=x0.Path,Size:=(x1.Data.length:Int),Ids:=r0}:dJ)]:List dJ)) JY rfl rfl rfl rfl) (qk ((aS (.cons _ (.refl _)) u).2) rfl ?_)))))
 obtain⟨z4,Z4,m⟩:=aC m
 exact ve λu=>fE (c:=bT) 1 Z4 JY rfl rfl rfl t0 u rfl λtg11 t11 K15=>qk K15 rfl (ve λu=>aK 3 ([.sc (.string p0),ow tg11 3 (List.map bT z4)]) u rfl rfl (jG rfl) (pM _ _ _) TL rfl rfl λK16=>qk K16 rfl (v (eW m (tg11,tg10) ⟨t11,t10⟩ (lJ [1,2,3,4] rfl rfl (.k6 .nil)))))
 exact v (lK m (tg0,tg1) ⟨t0,t1⟩ (lx (.k6 .nil)))
 rintro⟨tg12,tg13⟩ ⟨r4,r5,r6,r7⟩ ⟨t12,t13⟩ m
 refine v (vl 2 (.agg ([.sc (.string p0),ow tg12 3 (List.map bT r4)])) m6 rfl rfl rfl (ve λu=>aK 3 ([.sc (.string p0),ow tg12 3 (List.map bT r4)]) u rfl rfl rfl (by repeat (first | exact rfl | refine cG (iO _ _ _) ?_ | refine cG (bY _ _ _) ?_ | refine cG (gG _ _ _ _) ?_ | refine cG rfl ?_)) AE rfl rfl λK17=>qk K17 rfl ?_))
 refine v ?_
 cases m
 exact vr λu=>dX.of3 (.inl rfl) (rA (.agg ([.sc (.string p0),ow tg12 3 (List.map bT r4)])) m6 rfl (bC 3 u rfl) rfl) (fT _ _ (ow _ _ _) rfl) (fT _ _ (.sc (.int _ _)) rfl) (aS (List.nil_sublist _) u).1 (bJ.agg (.cons (bJ.refl _ _) (.cons ((eY _ 0 t12 u rfl)) .nil))) ((eY _ 1 t13 u rfl)) (bJ.refl _ _) ⟨rfl,rfl⟩
theorem aGG:aN Tryz.prog 86=true:=by kernel_rfl
def DN (m:Nat) (p0:aA) (y0:bD×(List (List Int))×Int) (q0:List aB) (q1:Int):Option (Lp ((List aB)×Int) (aR×Bool)):=
 if (decide (q1 < (y0.2.1.length:Int)))=true then ((ix y0.2.1 q1).bind λx0=>(V1 m x0).bind λy1=>(KS m p0 y1).bind λy2=>after (if (decide (y2 < 0))=true then ((ix y0.2.1 q1).bind λx1=>(app q0 ([({ Id:=y1,Staged:=true,Data:=x1,Locs:= []}:aB)]:List aB)).bind λz0=>some (.brk z0)) else some (.brk q0):Option (Lp ((List aB)) (Lp ((List aB)×Int) (aR×Bool)))) λj0=>some (.go (j0,IntKind.wrap .i64 (q1+1)))) else some (.brk (q0,q1))
def DO (m:Nat) (p0:aA) (p1:pR) (q0:List aU) (q1:Int) (q2:Int):Option (Lp ((List aU)×Int×Int) (aR×Bool)):=
 after (if (decide (q2 < (IntKind.wrap .i64 ((IntKind.wrap .i64 ((p0.Chunks.length:Int)+(p0.Snaps.length:Int)))+(p0.Exps.length:Int)))))=true then (some (.brk (decide ((q0.length:Int) < 64)))) else some (.brk false):Option (Lp (Bool) (Lp ((List aU)×Int×Int) (aR×Bool)))) λj0=>if j0=true then (after (after (if (decide (q2 < (p1.Pick.length:Int)))=true then ((ix p1.Pick q2).bind λx0=>some (.brk (!x0))) else some (.brk false):Option (Lp (Bool) (Lp ((List aU)×Int) (Lp ((List aU)×Int×Int) (aR×Bool))))) λj1=>if j1=true then (some (.brk (q0,q1))) else after (if (decide (q2 < (p0.Chunks.length:Int)))=true then ((ix p0.Chunks q2).bind λx1=>some (.brk { { ({ Kind:=0,Id:=kG,Seq:=0,Of:=0,Off:=q1,Len:=20}:aU) with Kind:=1} with Id:=x1.Id})) else after (if (decide (q2 < (IntKind.wrap .i64 ((p0.Chunks.length:Int)+(p0.Snaps.length:Int)))))=true then ((ix p0.Snaps (IntKind.wrap .i64 (q2 - (p0.Chunks.length:Int)))).bind λx2=>some (.brk { { ({ Kind:=0,Id:=kG,Seq:=0,Of:=0,Off:=q1,Len:=20}:aU) with Kind:=2} with Seq:=x2.Seq})) else (ix p0.Exps (IntKind.wrap .i64 ((IntKind.wrap .i64 (q2 - (p0.Chunks.length:Int))) - (p0.Snaps.length:Int)))).bind λx3=>some (.brk { { { ({ Kind:=0,Id:=kG,Seq:=0,Of:=0,Off:=q1,Len:=20}:aU) with Kind:=3} with Seq:=x3.Seq} with Of:=x3.Of}):Option (Lp (aU) (Lp (aU) (Lp ((List aU)×Int) (Lp ((List aU)×Int×Int) (aR×Bool)))))) λj2=>some (.brk j2):Option (Lp (aU) (Lp ((List aU)×Int) (Lp ((List aU)×Int×Int) (aR×Bool))))) λj3=>(app q0 ([j3]:List aU)).bind λz0=>some (.brk (z0,IntKind.wrap .i64 (q1+20))):Option (Lp ((List aU)×Int) (Lp ((List aU)×Int×Int) (aR×Bool)))) λ⟨j4,j5⟩=>some (.go (j4,j5,IntKind.wrap .i64 (q2+1)))) else some (.brk (q0,q1,q2))
def M35 (m:Nat) (p0:aA) (p1:pR):Option (aR×Bool):=
 (LU ([IntKind.wrap .u8 (IntKind.wrap .u64 (97+((IntKind.wrap .u64 p1.N).tmod 5)))]:List Int)).bind λst0=>grd (decide ((ByteArray.mk #[110]).size+st0.size≤9223372036854775807)) <| after (if (decide (0 < (p0.Vols.length:Int)))=true then (grd ((IntKind.wrap .u64 (p0.Vols.length:Int)) !=0) <| some (.brk (IntKind.wrap .i64 ((IntKind.wrap .u64 p1.Vol).tmod (IntKind.wrap .u64 (p0.Vols.length:Int)))))) else some (.brk 0):Option (Lp (Int) (aR×Bool))) λj0=>after (if (((IntKind.wrap .u64 p1.Do).tmod 8)==0)=true then (some (.brk (((IntKind.wrap .u64 p1.Do).tmod 8)==0))) else some (.brk (((IntKind.wrap .u64 p1.Do).tmod 8)==1)):Option (Lp (Bool) (aR×Bool))) λj1=>if j1=true then ((M85 m p1.Tree).bind λy0=>if (y0.2 !=0)=true then (some (({ Kind:=0,Snap:=({ Seq:=0,Man:=({ Name:=ByteArray.empty,Parts:= []}:bD),Locs:= []}:aH),Chunks:= [],Seq:=0,Vol:=0,Items:= []}:aR),false)) else (M86 m ((ByteArray.mk #[110])++st0) y0.1).bind λy1=>after (aT (λs=>DN m p0 y1 s.1 s.2) m ([],0)) λ⟨r0,r1⟩=>some (({ Kind:=1,Snap:=({ Seq:=p0.Seq,Man:=y1.1,Locs:= []}:aH),Chunks:=r0,Seq:=0,Vol:=0,Items:= []}:aR),true)) else after (if (((IntKind.wrap .u64 p1.Do).tmod 8)==2)=true then (some (.brk (((IntKind.wrap .u64 p1.Do).tmod 8)==2))) else some (.brk (((IntKind.wrap .u64 p1.Do).tmod 8)==5)):Option (Lp (Bool) (aR×Bool))) λj2=>if j2=true then (if ((p0.Snaps.length:Int)==0)=true then (some (({ Kind:=0,Snap:=({ Seq:=0,Man:=({ Name:=ByteArray.empty,Parts:= []}:bD),Locs:= []}:aH),Chunks:= [],Seq:=0,Vol:=0,Items:= []}:aR),false)) else grd ((IntKind.wrap .u64 (p0.Snaps.length:Int)) !=0) <| (ix p0.Snaps (IntKind.wrap .i64 ((IntKind.wrap .u64 p1.N).tmod (IntKind.wrap .u64 (p0.Snaps.length:Int))))).bind λx0=>if (((IntKind.wrap .u64 p1.Do).tmod 8)==2)=true then (some (({ Kind:=2,Snap:=({ Seq:=0,Man:=({ Name:=ByteArray.empty,Parts:= []}:bD),Locs:= []}:aH),Chunks:= [],Seq:=x0.Seq,Vol:=0,Items:= []}:aR),true)) else some (({ Kind:=3,Snap:=({ Seq:=0,Man:=({ Name:=ByteArray.empty,Parts:= []}:bD),Locs:= []}:aH),Chunks:= [],Seq:=0,Vol:=j0,Items:=([({ Kind:=3,Id:=kG,Seq:=p0.Seq,Of:=x0.Seq,Off:=13,Len:=17}:aU)]:List aU)}:aR),true)) else after (if (((IntKind.wrap .u64 p1.Do).tmod 8)==3)=true then (some (.brk (((IntKind.wrap .u64 p1.Do).tmod 8)==3))) else some (.brk (((IntKind.wrap .u64 p1.Do).tmod 8)==4)):Option (Lp (Bool) (aR×Bool))) λj3=>if j3=true then (after (aT (λs=>DO m p0 p1 s.1 s.2.1 s.2.2) m ([],13,0)) λ⟨r2,r3,r4⟩=>some (({ Kind:=3,Snap:=({ Seq:=0,Man:=({ Name:=ByteArray.empty,Parts:= []}:bD),Locs:= []}:aH),Chunks:= [],Seq:=0,Vol:=j0,Items:=r2}:aR),decide (0 < (r2.length:Int)))) else if (((IntKind.wrap .u64 p1.Do).tmod 8)==6)=true then (some (({ Kind:=4,Snap:=({ Seq:=0,Man:=({ Name:=ByteArray.empty,Parts:= []}:bD),Locs:= []}:aH),Chunks:= [],Seq:=0,Vol:=j0,Items:= []}:aR),true)) else some (({ Kind:=5,Snap:=({ Seq:=0,Man:=({ Name:=ByteArray.empty,Parts:= []}:bD),Locs:= []}:aH),Chunks:= [],Seq:=0,Vol:=j0,Items:= []}:aR),true)
theorem W35 {w:Nat} {p0:aA} {p1:pR} {o:aR×Bool} (h:aF) (m:M35 w p0 p1=some o):
 aL Tryz.prog 35 [.agg (aE p0),.agg (f0 p1)] h (λr h'=>r= .tup [.agg (aD o.1),.sc (.bool o.2)]∧h'=h):=by
 refine fQ 248 [.cell 4 62,.tmp 5] Tryz.func35 rfl rfl rfl rfl ?_
 unfold M35 at m
 refine v (gO rfl rfl λk2 K3=>gO rfl rfl λk5 K6=>ve λu=>bH (xE) u L2 rfl rfl λk8 K9=>qk K9 rfl (v (vl 1 _ bZ rfl rfl rfl (bW (eL (List.map dF ([IntKind.wrap .u8 (IntKind.wrap .u64 (97+((IntKind.wrap .u64 p1.N).tmod 5)))]:List Int)) jJ rfl rfl rfl rfl) ?_))))
 obtain⟨st0,hs0,m⟩:=aC m
 refine bW (S5 (c:=dF) hs0 (λ_=>rfl) u41 u5 u9 rfl) ?_
 obtain⟨Z0,m⟩:=m0 m
 refine bW (wE rfl rfl rfl (of_decide_eq_true Z0)) (v (v (vl 2 _ iP rfl rfl rfl (dE rE rfl (fL m (σ:=Int) (λs=> [(some k8,.obj 62 (xE)),(some k5,.obj 67 (f0 p1)),(some k2,.obj 30 (aE p0))]) (λs=>.c 2 (.ptr k2 0) (.c 3 (.ptr k5 0) (.c 4 (.ptr k8 0) (.c 6 (.sc (.string ((ByteArray.mk #[110])++st0))) (.c 7 (nZ s) .nil))))) (λx m=> ?_) ?_)))))
 refine v ?_
 apply vi m <;> intro c0 m
 exact v (vl 1 _ bZ rfl rfl rfl (vl 2 _ iP rfl rfl rfl (dE rE rfl (TF m λ_ m=>nJ m))))
 exact v (nJ m)
 rintro _ j0 m
 refine v (vl 1 _ bZ rfl rfl rfl (v (v (fL m (σ:=Bool) (λs=> [(some k8,.obj 62 (xE)),(some k5,.obj 67 (f0 p1)),(some k2,.obj 30 (aE p0))]) (λs=>.c 2 (.ptr k2 0) (.c 3 (.ptr k5 0) (.c 4 (.ptr k8 0) (.c 6 (.sc (.string ((ByteArray.mk #[110])++st0))) (.c 7 (nZ j0) (.c 47 (.sc (.int .u64 ((IntKind.wrap .u64 p1.Do).tmod 8))) (.c 48 (.sc (.bool s)) .nil))))))) (λx m=> ?_) ?_))))
 refine v ?_
 apply vi m <;> intro c1 m
 exact v (CK m)
 exact v (CK m)
 rintro _ j1 m
 refine v ?_
 apply vi m <;> intro c2 m
 refine v (vl 1 _ aC8 rfl rfl rfl (vk W85 aGA m rfl rfl λ_ m=>v (v ?_)))
 apply vi m <;> intro c3 m
 refine v (bW (fI (xE) CT rfl) (ve λu=>aK 0 (xE) u rfl rfl rfl rfl wO rfl rfl λK0=>qk K0 rfl (v ?_)))
 cases m
 exact vr λu=>dX.of2 (.inl rfl) (rA (.agg (xE)) oK rfl (bC 0 u rfl) rfl) (fT _ _ (.sc (.bool _)) rfl) (aS (List.nil_sublist _) u).1 (bJ.agg (.k3 (.cons (aY _) (.cons (aY _) (.cons (aY _) (.k2 (.cons (aY _) .nil))))))) (bJ.refl _ _) ⟨rfl,rfl⟩
 refine v (v (vk W86 aGG m rfl rfl λy0 m=>ve λu=>bH ([.sc (.string ByteArray.empty),sZ]) u L0 rfl rfl λk44 K1=>qk K1 rfl (ve λu=>aK 0 (aX y0.1) u rfl rfl rfl rfl AE rfl rfl λK2=>qk K2 rfl (v (vl 3 _ bZ rfl rfl rfl (vl 0 (.agg (aX y0.1)) m6 rfl rfl rfl (bW (fI (([nZ p0.Seq]:List AV)++aX y0.1++([sZ]:List AV)) TM rfl) (bW (fI (([nZ 1,nZ p0.Seq]:List AV)++aX y0.1++(zq6:List AV)) CT rfl) (ve λu=>bH (xE) u L2 rfl rfl λk49 K4=>qk K4 rfl (ve λu=>aK 0 (([nZ 1,nZ p0.Seq]:List AV)++aX y0.1++(zq6:List AV)) u rfl rfl rfl rfl wO rfl rfl λK5=>qk K5 rfl (v (qC (WT (.tok 44 35 (([]:List aB).length*35)) 1 (([nZ 1,nZ p0.Seq]:List AV)++aX y0.1++([sZ,ow none 35 (List.map aJ []),nZ 0,nZ 0,sZ]:List AV)) rfl (.k2 (cX.app 2 rfl (.cons (bJ.refl _ _) (.cons (jF (c:=aJ) _ 35) (.k3 .nil)))))) (nP m (σ:=(List aB)×Int) (τ:=Option cE) (λg s=> [(g,.tok 44 35 ((s.1:List aB).length*35)),(some k49,.obj 62 (([nZ 1,nZ p0.Seq]:List AV)++aX y0.1++([sZ,ow g 35 (List.map aJ s.1),nZ 0,nZ 0,sZ]:List AV))),(some k44,.obj 58 (aX y0.1)),(some k8,.obj 62 (xE)),(some k5,.obj 67 (f0 p1)),(some k2,.obj 30 (aE p0))]) (λg s=>(g=none→s.1= [])) (λg s=>.c 2 (.ptr k2 0) (.c 4 (.ptr k8 0) (.c 11 (.sl none 1 (List.map hU y0.2.1)) (.c 13 (.ptr k49 0) (.c 14 (nZ s.2) .nil))))) none (λ_=>rfl) (lx (.k5 .nil)) ?_ ?_)))))))))))))
 rintro tg0 ⟨q0,q1⟩ x t0 m
 replace m:DN w p0 y0 q0 q1=some x:=m
 unfold DN at m
 refine v (dE RS rfl (v ?_))
 apply vi m <;> intro c4 m
 refine v (v (v (vx m BB rfl rfl λ_ _ m=>vk W87 aA4 m rfl rfl λy1 m=>ve λu=>bH (bL kG) u JW rfl rfl λk255 K7=>qk K7 rfl (ve λu=>aK 0 (bL y1) u rfl rfl rfl rfl JV rfl rfl λK8=>qk K8 rfl (v (vl 6 (.agg (aE p0)) eV rfl rfl rfl (vl 0 (.agg (bL y1)) fR rfl rfl rfl (vk W88 QC m rfl rfl λ_ m=>pJ m (σ:=(List aB)) (τ:=Option cE) (λg s=> [(some k255,.obj 36 (bL y1)),(g,.tok 44 35 ((s:List aB).length*35)),(some k49,.obj 62 (([nZ 1,nZ p0.Seq]:List AV)++aX y0.1++([sZ,ow g 35 (List.map aJ s),nZ 0,nZ 0,sZ]:List AV))),(some k44,.obj 58 (aX y0.1)),(some k8,.obj 62 (xE)),(some k5,.obj 67 (f0 p1)),(some k2,.obj 30 (aE p0))]) (λg s=>(g=none→s= [])) (λg s=>.c 2 (.ptr k2 0) (.c 4 (.ptr k8 0) (.c 11 (.sl none 1 (List.map hU y0.2.1)) (.c 13 (.ptr k49 0) (.c 14 (nZ q1) .nil))))) (λx m=> ?_) ?_))))))))
 refine v ?_
 apply vi m <;> intro c5 m
 refine v (vz [(11,some k49,.obj 62 (([nZ 1,nZ p0.Seq]:List AV)++aX y0.1++([sZ,ow tg0 35 (List.map aJ q0),nZ 0,nZ 0,sZ]:List AV))),(1000000,some k255,.obj 36 (bL y1))] mixed (λu=>⟨λ_=>aI 2 u rfl,λ_=>aI 0 u rfl,trivial⟩) λu=>zF 0 rfl m7 rfl (zL 1 0 (ow tg0 35 (List.map aJ q0)) rfl eU rfl rfl rfl (zL 2 1 (.agg (bL y1)) rfl fR rfl rfl rfl (zC 3 rfl (eS (.sl _ _ _) rfl) (zI 4 rfl rfl ?_)))))
 obtain⟨x0,X0,m⟩:=aC m
 refine zC 5 rfl (mI X0 BB rfl rfl) (zC 6 rfl (mX (.sl none 1 (List.map dF x0)) lR rfl rfl) (zC 7 rfl (fB (y:=.agg (aJ ({ Id:=y1,Staged:=true,Data:=x0,Locs:= []}:aB))) (fI (bL y1++([.sc (.bool true),.sl none 1 (List.map dF x0),sZ]:List AV)) WX rfl) (bJ.agg (cX.app 32 rfl (.k2 (.cons (aY _) .nil))))) (zC 8 rfl (eL (List.map aJ ([({ Id:=y1,Staged:=true,Data:=x0,Locs:= []}:aB)]:List aB)) lP rfl rfl rfl rfl) ?_)))
 obtain⟨z0,Z1,m⟩:=aC m
 refine zE 9 rfl (fE (c:=aJ) 1 Z1 lP rfl rfl rfl t0 u rfl λtg1 t1 K10=>⟨⟨λ_=>aI 2 K10 rfl,λ_=>aI 0 K10 rfl,trivial⟩, ?_⟩)
 refine zF 10 rfl m7 rfl (zE 11 rfl (aK 2 (([nZ 1,nZ p0.Seq]:List AV)++aX y0.1++([sZ,ow tg1 35 (List.map aJ z0),nZ 0,nZ 0,sZ]:List AV)) K10 rfl rfl (jG rfl) (pM _ _ _) AD rfl rfl λK11=>⟨⟨λe=>absurd e (by decide),λ_=>aI 0 K11 rfl,trivial⟩, ?_⟩))
 exact zX (qk (f:=TB 97 _ _ _ _ _ _ _ _ _ _ _ _) K11 rfl (eW m tg1 t1 (lx (.k5 .nil))))
 exact v (eW m tg0 t0 (lx (.k5 .nil)))
 rintro tg2 j2 t2 m
 exact v (eW m tg2 t2 (lJ [1,2,3,4,5,6] rfl rfl (.k5 .nil)))
 exact v (lK m tg0 t0 (lx (.k5 .nil)))
 rintro tg3 ⟨r0,r1⟩ t3 m
 refine v (vl 1 (.agg (([nZ 1,nZ p0.Seq]:List AV)++aX y0.1++([sZ,ow tg3 35 (List.map aJ r0),nZ 0,nZ 0,sZ]:List AV))) oK rfl rfl rfl (ve λu=>aK 3 (([nZ 1,nZ p0.Seq]:List AV)++aX y0.1++([sZ,ow tg3 35 (List.map aJ r0),nZ 0,nZ 0,sZ]:List AV)) u rfl rfl rfl (by repeat (first | exact rfl | refine cG (iO _ _ _) ?_ | refine cG (bY _ _ _) ?_ | refine cG (gG _ _ _ _) ?_ | refine cG rfl ?_)) wO rfl rfl λK12=>qk K12 rfl ?_))
 refine v ?_
 cases m
 exact vr λu=>dX.of2 (.inl rfl) (rA (.agg (([nZ 1,nZ p0.Seq]:List AV)++aX y0.1++([sZ,ow tg3 35 (List.map aJ r0),nZ 0,nZ 0,sZ]:List AV))) oK rfl (bC 3 u rfl) rfl) (fT _ _ (.sc (.bool _)) rfl) (aS (List.nil_sublist _) u).1 (bJ.agg (.k2 (cX.app 2 rfl (.cons (aY _) (.cons ((eY _ 0 t3 u rfl)) (.k2 (.cons (aY _) .nil))))))) (bJ.refl _ _) ⟨rfl,rfl⟩
 refine v (fL m (σ:=Bool) (λs=> [(some k8,.obj 62 (xE)),(some k5,.obj 67 (f0 p1)),(some k2,.obj 30 (aE p0))]) (λs=>.c 2 (.ptr k2 0) (.c 3 (.ptr k5 0) (.c 4 (.ptr k8 0) (.c 7 (nZ j0) (.c 47 (.sc (.int .u64 ((IntKind.wrap .u64 p1.Do).tmod 8))) (.c 99 (.sc (.bool s)) .nil)))))) (λx m=> ?_) ?_)
 refine v ?_
 apply vi m <;> intro c6 m
 exact v (rD m)
 exact v (rD m)
 rintro _ j3 m
 refine v ?_
 apply vi m <;> intro c7 m
 refine v (vl 2 _ fC rfl rfl rfl (dE jQ rfl (v ?_)))
 apply vi m <;> intro c8 m
 refine v (bW (fI (xE) CT rfl) (ve λu=>aK 0 (xE) u rfl rfl rfl rfl wO rfl rfl λK13=>qk K13 rfl (v ?_)))
 cases m
 exact vr λu=>dX.of2 (.inl rfl) (rA (.agg (xE)) oK rfl (bC 0 u rfl) rfl) (fT _ _ (.sc (.bool _)) rfl) (aS (List.nil_sublist _) u).1 (bJ.agg (.k3 (.cons (aY _) (.cons (aY _) (.cons (aY _) (.k2 (.cons (aY _) .nil))))))) (bJ.refl _ _) ⟨rfl,rfl⟩
 refine v (v (vz [(1000000,some k2,.obj 30 (aE p0)),(1000000,some k5,.obj 67 (f0 p1))] mixed (λu=>⟨λ_=>aI 2 u rfl,λ_=>aI 1 u rfl,trivial⟩) λu=>zF 0 rfl dV rfl (zL 1 0 (.sl none 4 (List.map bP p0.Snaps)) rfl fC rfl rfl rfl (zF 2 rfl TQ rfl (zL 3 1 (nZ p1.N) rfl bZ rfl rfl rfl (zC 4 rfl (JN WV TO rfl) (zF 5 rfl dV rfl (zL 6 0 (.sl none 4 (List.map bP p0.Snaps)) rfl fC rfl rfl rfl (zC 7 rfl (uR jQ rfl) (zC 8 rfl (JN WV TO rfl) ?_))))))))))
 obtain⟨Z2,m⟩:=m0 m
 refine zC 9 rfl (lO rfl rfl rfl (WG Z2)) (zC 10 rfl (JN TO WV rfl) ?_)
 obtain⟨x1,X1,m⟩:=aC m
 refine zC 11 rfl (mI X1 iJ rfl rfl) (zC 12 rfl (mX (.agg (bP x1)) rG rfl rfl) (zE 13 rfl (bH (V2) u uZ rfl rfl λk329 K14=>⟨⟨λ_=>aI 3 K14 rfl,λ_=>aI 2 K14 rfl,trivial⟩, ?_⟩)))
 refine zE 14 rfl (aK 0 (bP x1) K14 rfl rfl rfl rfl JZ rfl rfl λK15=>⟨⟨λ_=>aI 3 K15 rfl,λ_=>aI 2 K15 rfl,trivial⟩, ?_⟩)
 refine zX (qk (f:=.c 16 _ (TC 119 _ _ _ _ _ _ _ _ _ _ _ _ _ _)) K15 rfl (v (vl 2 _ bZ rfl rfl rfl (v ?_))))
 apply vi m <;> intro c9 m
 refine v (vl 0 _ bZ rfl rfl rfl (bW (fI ([nZ 2,nZ 0,.sc (.string ByteArray.empty),sZ,sZ,sZ,nZ x1.Seq,nZ 0,sZ]) CT rfl) (ve λu=>aK 1 ([nZ 2,nZ 0,.sc (.string ByteArray.empty),sZ,sZ,sZ,nZ x1.Seq,nZ 0,sZ]) u rfl rfl rfl rfl wO rfl rfl λK16=>qk K16 rfl (v ?_))))
 cases m
 exact vr λu=>dX.of2 (.inl rfl) (rA (.agg ([nZ 2,nZ 0,.sc (.string ByteArray.empty),sZ,sZ,sZ,nZ x1.Seq,nZ 0,sZ])) oK rfl (bC 1 u rfl) rfl) (fT _ _ (.sc (.bool _)) rfl) (aS (List.nil_sublist _) u).1 (bJ.agg (.k3 (.cons (aY _) (.cons (aY _) (.cons (aY _) (.k2 (.cons (aY _) .nil))))))) (bJ.refl _ _) ⟨rfl,rfl⟩
 refine v (v (vl 3 _ bZ rfl rfl rfl (vl 0 _ bZ rfl rfl rfl (bW (fI (a8 ({ Kind:=3,Id:=kG,Seq:=p0.Seq,Of:=x1.Seq,Off:=13,Len:=17}:aU)) WW rfl) (bW (eL (List.map a8 ([({ Kind:=3,Id:=kG,Seq:=p0.Seq,Of:=x1.Seq,Off:=13,Len:=17}:aU)]:List aU)) P2 rfl rfl rfl rfl) (bW (fI ([nZ 3,nZ 0,.sc (.string ByteArray.empty),sZ,sZ,sZ,nZ 0,nZ j0,.sl none 37 (List.map a8 ([({ Kind:=3,Id:=kG,Seq:=p0.Seq,Of:=x1.Seq,Off:=13,Len:=17}:aU)]:List aU))]) CT rfl) (ve λu=>aK 1 ([nZ 3,nZ 0,.sc (.string ByteArray.empty),sZ,sZ,sZ,nZ 0,nZ j0,.sl none 37 (List.map a8 ([({ Kind:=3,Id:=kG,Seq:=p0.Seq,Of:=x1.Seq,Off:=13,Len:=17}:aU)]:List aU))]) u rfl rfl rfl rfl wO rfl rfl λK17=>qk K17 rfl (v ?_))))))))
 cases m
 exact vr λu=>dX.of2 (.inl rfl) (rA (.agg ([nZ 3,nZ 0,.sc (.string ByteArray.empty),sZ,sZ,sZ,nZ 0,nZ j0,.sl none 37 (List.map a8 ([({ Kind:=3,Id:=kG,Seq:=p0.Seq,Of:=x1.Seq,Off:=13,Len:=17}:aU)]:List aU))])) oK rfl (bC 1 u rfl) rfl) (fT _ _ (.sc (.bool _)) rfl) (aS (List.nil_sublist _) u).1 (bJ.agg (.k3 (.cons (aY _) (.cons (aY _) (.cons (aY _) (.k3 .nil)))))) (bJ.refl _ _) ⟨rfl,rfl⟩
 refine v (fL m (σ:=Bool) (λs=> [(some k8,.obj 62 (xE)),(some k5,.obj 67 (f0 p1)),(some k2,.obj 30 (aE p0))]) (λs=>.c 2 (.ptr k2 0) (.c 3 (.ptr k5 0) (.c 4 (.ptr k8 0) (.c 7 (nZ j0) (.c 47 (.sc (.int .u64 ((IntKind.wrap .u64 p1.Do).tmod 8))) (.c 136 (.sc (.bool s)) .nil)))))) (λx m=> ?_) ?_)
 refine v ?_
 apply vi m <;> intro c10 m
 exact v (rD m)
 exact v (rD m)
 rintro _ j4 m
 refine v ?_
 apply vi m <;> intro c11 m
 refine v (v (v (qC (FZ (.tok 38 37 (([]:List aU).length*37)) 17 (ow none 37 (List.map a8 [])) (jF _ _)) (nP m (σ:=(List aU)×Int×Int) (τ:=Option cE) (λg s=> [(g,.tok 38 37 ((s.1:List aU).length*37)),(some k8,.obj 62 (xE)),(some k5,.obj 67 (f0 p1)),(some k2,.obj 30 (aE p0))]) (λg s=>(g=none→s.1= [])) (λg s=>.c 2 (.ptr k2 0) (.c 3 (.ptr k5 0) (.c 4 (.ptr k8 0) (.c 7 (nZ j0) (.c 17 (ow g 37 (List.map a8 s.1)) (.c 18 (nZ s.2.1) (.c 19 (nZ s.2.2) .nil))))))) none (λ_=>rfl) (lx (.k7 .nil)) ?_ ?_))))
 rintro tg4 ⟨q2,q3,q4⟩ x t4 m
 replace m:DO w p0 p1 q2 q3 q4=some x:=m
 unfold DO at m
 refine vs (vs (fL m (σ:=Bool) (λs=> [(tg4,.tok 38 37 ((q2:List aU).length*37)),(some k8,.obj 62 (xE)),(some k5,.obj 67 (f0 p1)),(some k2,.obj 30 (aE p0))]) (λs=>.c 2 (.ptr k2 0) (.c 3 (.ptr k5 0) (.c 4 (.ptr k8 0) (.c 7 (nZ j0) (.c 17 (ow tg4 37 (List.map a8 q2)) (.c 18 (nZ q3) (.c 19 (nZ q4) (.c 156 (.sc (.bool s)) .nil)))))))) (λx m=> ?_) ?_))
 refine v (vl 3 _ eU rfl rfl rfl (dE iX rfl (vl 3 _ fC rfl rfl rfl (dE jQ rfl (vl 3 _ iF rfl rfl rfl (dE nW rfl ?_))))))
 apply vi m <;> intro b0 m
 rw[b0]
 exact bW (uS pB t4 rfl) (ID m)
 rw[b0]
 exact ID m
 rintro _ j5 m
 refine v ?_
 apply vi m <;> intro c12 m
 refine v (vs (pJ m (σ:=(List aU)×Int) (τ:=Option cE) (λg s=> [(g,.tok 38 37 ((s.1:List aU).length*37)),(some k8,.obj 62 (xE)),(some k5,.obj 67 (f0 p1)),(some k2,.obj 30 (aE p0))]) (λg s=>(g=none→s.1= [])) (λg s=>.c 2 (.ptr k2 0) (.c 3 (.ptr k5 0) (.c 4 (.ptr k8 0) (.c 7 (nZ j0) (.c 17 (ow g 37 (List.map a8 s.1)) (.c 18 (nZ s.2) (.c 19 (nZ q4) .nil))))))) (λx m=> ?_) ?_))
 refine v (vs (vs (fL m (σ:=Bool) (λs=> [(tg4,.tok 38 37 ((q2:List aU).length*37)),(some k8,.obj 62 (xE)),(some k5,.obj 67 (f0 p1)),(some k2,.obj 30 (aE p0))]) (λs=>.c 2 (.ptr k2 0) (.c 3 (.ptr k5 0) (.c 4 (.ptr k8 0) (.c 7 (nZ j0) (.c 17 (ow tg4 37 (List.map a8 q2)) (.c 18 (nZ q3) (.c 19 (nZ q4) (.c 171 (.sc (.bool s)) .nil)))))))) (λx m=> ?_) ?_)))
 refine v (vl 2 _ W0 rfl rfl rfl (dE WZ rfl ?_))
 apply vi m <;> intro b1 m
 rw[b1]
 exact vl 2 _ W0 rfl rfl rfl (vx m aC9 rfl rfl λ_ _ m=>ID m)
 rw[b1]
 exact ID m
 rintro _ j6 m
 refine v ?_
 apply vi m <;> intro c13 m
 exact v (eW m tg4 t4 (lx (.k7 .nil)))
 refine v (v (bW (fI (a8 ({ Kind:=0,Id:=kG,Seq:=0,Of:=0,Off:=q3,Len:=20}:aU)) WW rfl) (ve λu=>bH (([nZ 0]:List AV)++bL kG++(I9:List AV)) u TK rfl rfl λk1523 K18=>qk K18 rfl (ve λu=>aK 0 (a8 ({ Kind:=0,Id:=kG,Seq:=0,Of:=0,Off:=q3,Len:=20}:aU)) u rfl rfl rfl rfl TJ rfl rfl λK19=>qk K19 rfl (v (v (vl 4 _ eU rfl rfl rfl (dE iX rfl (fL m (σ:=aU) (λs=> [(some k1523,.obj 38 (a8 s)),(tg4,.tok 38 37 ((q2:List aU).length*37)),(some k8,.obj 62 (xE)),(some k5,.obj 67 (f0 p1)),(some k2,.obj 30 (aE p0))]) (λs=>.c 2 (.ptr k2 0) (.c 3 (.ptr k5 0) (.c 4 (.ptr k8 0) (.c 7 (nZ j0) (.c 17 (ow tg4 37 (List.map a8 q2)) (.c 18 (nZ q3) (.c 19 (nZ q4) (.c 20 (.ptr k1523 0) .nil)))))))) (λx m=> ?_) ?_)))))))))
 refine v ?_
 apply vi m <;> intro c14 m
 refine v (vz [(1000000,some k2,.obj 30 (aE p0)),(7,some k1523,.obj 38 (a8 ({ Kind:=0,Id:=kG,Seq:=0,Of:=0,Off:=q3,Len:=20}:aU)))] mixed (λu=>⟨λ_=>aI 4 u rfl,λ_=>aI 0 u rfl,trivial⟩) λu=>zF 0 rfl dY rfl (zL 1 0 (.sl none 35 (List.map aJ p0.Chunks)) rfl eU rfl rfl rfl (zI 2 rfl rfl ?_)))
 obtain⟨x2,X2,m⟩:=aC m
 refine zC 3 rfl (mI X2 fJ rfl rfl) (zC 4 rfl (o9 oH rfl rfl) (zC 5 rfl (mX (.agg (bL x2.Id)) fR rfl rfl) (zF 6 rfl lY rfl (zE 7 rfl (aK 0 (a8 { ({ Kind:=0,Id:=kG,Seq:=0,Of:=0,Off:=q3,Len:=20}:aU) with Kind:=1}) u rfl rfl rfl rfl AA rfl rfl λK20=>⟨⟨λ_=>aI 4 K20 rfl,λe=>absurd e (by decide),trivial⟩, ?_⟩)))))
 refine zF 8 rfl uW rfl (zE 9 rfl (aK 0 (a8 { { ({ Kind:=0,Id:=kG,Seq:=0,Of:=0,Off:=q3,Len:=20}:aU) with Kind:=1} with Id:=x2.Id}) K20 rfl rfl rfl rfl JV rfl rfl λK21=>⟨⟨λ_=>aI 4 K21 rfl,λe=>absurd e (by decide),trivial⟩, ?_⟩))
 exact zX (qk (f:=PW 207 _ _ _ _ _ _ _ _ _) K21 rfl (ID m))
 refine v (vl 4 _ eU rfl rfl rfl (dE iX rfl (vl 4 _ fC rfl rfl rfl (dE jQ rfl (fL m (σ:=aU) (λs=> [(some k1523,.obj 38 (a8 s)),(tg4,.tok 38 37 ((q2:List aU).length*37)),(some k8,.obj 62 (xE)),(some k5,.obj 67 (f0 p1)),(some k2,.obj 30 (aE p0))]) (λs=>.c 2 (.ptr k2 0) (.c 3 (.ptr k5 0) (.c 4 (.ptr k8 0) (.c 7 (nZ j0) (.c 17 (ow tg4 37 (List.map a8 q2)) (.c 18 (nZ q3) (.c 19 (nZ q4) (.c 20 (.ptr k1523 0) .nil)))))))) (λx m=> ?_) ?_)))))
 refine v ?_
 apply vi m <;> intro c15 m
 refine v (vz [(1000000,some k2,.obj 30 (aE p0)),(11,some k1523,.obj 38 (a8 ({ Kind:=0,Id:=kG,Seq:=0,Of:=0,Off:=q3,Len:=20}:aU)))] mixed (λu=>⟨λ_=>aI 4 u rfl,λ_=>aI 0 u rfl,trivial⟩) λu=>zF 0 rfl dV rfl (zL 1 0 (.sl none 4 (List.map bP p0.Snaps)) rfl fC rfl rfl rfl (zI 2 rfl rfl (zF 3 rfl dY rfl (zL 4 0 (.sl none 35 (List.map aJ p0.Chunks)) rfl eU rfl rfl rfl (zC 5 rfl (uR iX rfl) (zC 6 rfl (lO rfl rfl rfl trivial) ?_)))))))
 obtain⟨x3,X3,m⟩:=aC m
 refine zC 7 rfl (mI X3 iJ rfl rfl) (zC 8 rfl (o9 uY rfl rfl) (zC 9 rfl (mX (nZ x3.Seq) bZ rfl rfl) (zF 10 rfl lY rfl (zE 11 rfl (aK 0 (a8 { ({ Kind:=0,Id:=kG,Seq:=0,Of:=0,Off:=q3,Len:=20}:aU) with Kind:=2}) u rfl rfl rfl rfl AA rfl rfl λK22=>⟨⟨λ_=>aI 4 K22 rfl,λe=>absurd e (by decide),trivial⟩, ?_⟩)))))
 refine zF 12 rfl lA rfl (zE 13 rfl (aK 0 (a8 { { ({ Kind:=0,Id:=kG,Seq:=0,Of:=0,Off:=q3,Len:=20}:aU) with Kind:=2} with Seq:=x3.Seq}) K22 rfl rfl rfl rfl AA rfl rfl λK23=>⟨⟨λ_=>aI 4 K23 rfl,λe=>absurd e (by decide),trivial⟩, ?_⟩))
 exact zX (qk (f:=JR 229 _ _ _ _ _ _ _ _ _ _ _ _ _) K23 rfl (ID m))
 refine v (vl 4 _ iF rfl rfl rfl (vl 4 _ eU rfl rfl rfl (dE iX rfl (vl 4 _ fC rfl rfl rfl (dE jQ rfl (vx m iE rfl rfl λx4 _ m=>va (.agg (cF x4)) rH rfl rfl (ve λu=>bH ([nZ 0,nZ 0,sZ]) u oL rfl rfl λk1631 K24=>qk K24 rfl (ve λu=>aK 0 (cF x4) u rfl rfl rfl rfl yB rfl rfl λK25=>qk K25 rfl (v (vz [(1000000,some k1631,.obj 99 (cF x4)),(5,some k1523,.obj 38 (a8 ({ Kind:=0,Id:=kG,Seq:=0,Of:=0,Off:=q3,Len:=20}:aU)))] mixed (λu=>⟨λ_=>aI 0 u rfl,λ_=>aI 1 u rfl,trivial⟩) λu=>zF 0 rfl GZ rfl (zL 1 0 (nZ x4.Seq) rfl bZ rfl rfl rfl (zF 2 rfl TY rfl (zL 3 0 (nZ x4.Of) rfl bZ rfl rfl rfl (zF 4 rfl lY rfl (zE 5 rfl (aK 1 (a8 { ({ Kind:=0,Id:=kG,Seq:=0,Of:=0,Off:=q3,Len:=20}:aU) with Kind:=3}) u rfl rfl rfl rfl AA rfl rfl λK26=>⟨⟨λ_=>aI 0 K26 rfl,λe=>absurd e (by decide),trivial⟩, ?_⟩))))))))))))))))
 refine zF 6 rfl lA rfl (zE 7 rfl (aK 1 (a8 { { ({ Kind:=0,Id:=kG,Seq:=0,Of:=0,Off:=q3,Len:=20}:aU) with Kind:=3} with Seq:=x4.Seq}) K26 rfl rfl rfl rfl AA rfl rfl λK27=>⟨⟨λ_=>aI 0 K27 rfl,λe=>absurd e (by decide),trivial⟩, ?_⟩))
 refine zF 8 rfl uX rfl (zE 9 rfl (aK 1 (a8 { { { ({ Kind:=0,Id:=kG,Seq:=0,Of:=0,Off:=q3,Len:=20}:aU) with Kind:=3} with Seq:=x4.Seq} with Of:=x4.Of}) K27 rfl rfl rfl rfl AA rfl rfl λK28=>⟨⟨λ_=>aI 0 K28 rfl,λe=>absurd e (by decide),trivial⟩, ?_⟩))
 exact zX (qk (f:=fq7 193 _ _ _ _ _ _ _ _) K28 rfl (wL m (lJ [1,2,3,4,5] rfl rfl (.k8 .nil))))
 rintro _ j7 m
 exact ID m
 rintro _ j8 m
 refine v (vl 0 (.agg (a8 j8)) GV rfl rfl rfl (bW (eL (List.map a8 ([j8]:List aU)) P2 rfl rfl rfl rfl) ?_))
 obtain⟨z1,Z3,m⟩:=aC m
 exact ve λu=>fE (c:=a8) 1 Z3 P2 rfl rfl rfl t4 u rfl λtg5 t5 K29=>qk K29 rfl (eW m tg5 t5 (lJ [1,2,3,4] rfl rfl (.k7 .nil)))
 rintro tg6 ⟨j9,j10⟩ t6 m
 exact v (eW m tg6 t6 (lx (.k7 .nil)))
 exact v (lK m tg4 t4 (lx (.k7 .nil)))
 rintro tg7 ⟨r2,r3,r4⟩ t7 m
 refine v (bW (fI ([nZ 3,nZ 0,.sc (.string ByteArray.empty),sZ,sZ,sZ,nZ 0,nZ j0,ow tg7 37 (List.map a8 r2)]) CT (by cases tg7 <;> rfl)) (bW (uS pB t7 rfl) (ve λu=>aK 1 ([nZ 3,nZ 0,.sc (.string ByteArray.empty),sZ,sZ,sZ,nZ 0,nZ j0,ow tg7 37 (List.map a8 r2)]) u rfl rfl rfl (by repeat (first | exact rfl | refine cG (iO _ _ _) ?_ | refine cG (bY _ _ _) ?_ | refine cG (gG _ _ _ _) ?_ | refine cG rfl ?_)) wO rfl rfl λK30=>qk K30 rfl ?_)))
 refine v ?_
 cases m
 exact vr λu=>dX.of2 (.inl rfl) (rA (.agg ([nZ 3,nZ 0,.sc (.string ByteArray.empty),sZ,sZ,sZ,nZ 0,nZ j0,ow tg7 37 (List.map a8 r2)])) oK rfl (bC 1 u rfl) rfl) (fT _ _ (.sc (.bool _)) rfl) (aS (List.nil_sublist _) u).1 (bJ.agg (.k3 (.cons (aY _) (.cons (aY _) (.cons (aY _) (.k2 (.cons ((eY _ 0 t7 u rfl)) .nil))))))) (bJ.refl _ _) ⟨rfl,rfl⟩
 refine v (v ?_)
 apply vi m <;> intro c16 m
 refine v (bW (fI ([nZ 4,nZ 0,.sc (.string ByteArray.empty),sZ,sZ,sZ,nZ 0,nZ j0,sZ]) CT rfl) (ve λu=>aK 0 ([nZ 4,nZ 0,.sc (.string ByteArray.empty),sZ,sZ,sZ,nZ 0,nZ j0,sZ]) u rfl rfl rfl rfl wO rfl rfl λK31=>qk K31 rfl (v ?_)))
 cases m
 exact vr λu=>dX.of2 (.inl rfl) (rA (.agg ([nZ 4,nZ 0,.sc (.string ByteArray.empty),sZ,sZ,sZ,nZ 0,nZ j0,sZ])) oK rfl (bC 0 u rfl) rfl) (fT _ _ (.sc (.bool _)) rfl) (aS (List.nil_sublist _) u).1 (bJ.agg (.k3 (.cons (aY _) (.cons (aY _) (.cons (aY _) (.k2 (.cons (aY _) .nil))))))) (bJ.refl _ _) ⟨rfl,rfl⟩
 refine v (v (bW (fI ([nZ 5,nZ 0,.sc (.string ByteArray.empty),sZ,sZ,sZ,nZ 0,nZ j0,sZ]) CT rfl) (ve λu=>aK 0 ([nZ 5,nZ 0,.sc (.string ByteArray.empty),sZ,sZ,sZ,nZ 0,nZ j0,sZ]) u rfl rfl rfl rfl wO rfl rfl λK32=>qk K32 rfl (v ?_))))
 cases m
 exact vr λu=>dX.of2 (.inl rfl) (rA (.agg ([nZ 5,nZ 0,.sc (.string ByteArray.empty),sZ,sZ,sZ,nZ 0,nZ j0,sZ])) oK rfl (bC 0 u rfl) rfl) (fT _ _ (.sc (.bool _)) rfl) (aS (List.nil_sublist _) u).1 (bJ.agg (.k3 (.cons (aY _) (.cons (aY _) (.cons (aY _) (.k2 (.cons (aY _) .nil))))))) (bJ.refl _ _) ⟨rfl,rfl⟩
theorem aGH:aN Tryz.prog 35=true:=by kernel_rfl
end Go.Proofs.YtbbifdfldpfphaaGreat
