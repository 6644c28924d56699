import Derived.Test.YtbbifdfldpfphaaGreatK6P4
import Derived.Test.YtbbifdfldpfphaaGreatK6P7
set_option linter.unusedSimpArgs false
set_option linter.unusedVariables false
set_option maxHeartbeats 4000000
set_option maxRecDepth 100000
namespace Go.Proofs.YtbbifdfldpfphaaGreat
open Go.Vm
def rS (m:Nat) (p1:aN) (q0:Bool) (q1:Int):Option (Lp (Bool×Int) (Lp (Int×fD) (Int×Int×fD))):=
 if (decide (q1 < (p1.Chunks.length:Int)))=true then (after (if q0=true then ((ix p1.Chunks q1).bind λx0=>if x0.Staged=true then ((ix p1.Chunks q1).bind λx1=>some (.brk ((x1.Locs.length:Int)==0))) else some (.brk false)) else some (.brk false):Option (Lp (Bool) (Lp (Bool×Int) (Lp (Int×fD) (Int×Int×fD))))) λj0=>some (.go (j0,IntKind.wrap .i64 (q1+1)))) else some (.brk (q0,q1))
def vO (m:Nat) (p1:aN) (q0:List aB) (q1:Int):Option (Lp ((List aB)×Int) (Lp (Int×fD) (Int×Int×fD))):=
 if (decide (q1 < (p1.Chunks.length:Int)))=true then ((ix p1.Chunks q1).bind λx0=>(E3 m q0 x0).bind λy0=>some (.go (y0,IntKind.wrap .i64 (q1+1)))) else some (.brk (q0,q1))
def rT (m:Nat) (p1:aN) (q0:Bool) (q1:Int):Option (Lp (Bool×Int) (Lp (Int×fD) (Lp (Int×fD) (Lp (Int×fD) (Int×Int×fD))))):=
 if (decide (q1 < (p1.Items.length:Int)))=true then (after (if q0=true then ((ix p1.Items q1).bind λx0=>if (decide (1≤x0.Kind))=true then ((ix p1.Items q1).bind λx1=>some (.brk (decide (x1.Kind≤3)))) else some (.brk false)) else some (.brk false):Option (Lp (Bool) (Lp (Bool×Int) (Lp (Int×fD) (Lp (Int×fD) (Lp (Int×fD) (Int×Int×fD))))))) λj0=>some (.go (j0,IntKind.wrap .i64 (q1+1)))) else some (.brk (q0,q1))
def qC (m:Nat) (p0:aA) (p1:aN) (x0:aM) (q0:Int) (q1:List aH) (q2:List aB) (q3:List aS) (q4:Int):Option (Lp (Int×(List aH)×(List aB)×(List aS)×Int) (Lp (Int×fD) (Lp (Int×fD) (Lp (Int×fD) (Int×Int×fD))))):=
 if (decide (q4 < (p1.Items.length:Int)))=true then ((ix p1.Items q4).bind λx1=>(ix p1.Items q4).bind λx2=>(ix p1.Items q4).bind λx3=>(G6 m ({ Seq:=q0,Snaps:=q1,Chunks:=q2,Exps:=q3,Vols:=(p0.Vols.set p1.Vol.toNat ({ x0 with State:=2})).set p1.Vol.toNat ({ ({ x0 with State:=2}:aM) with Files:=IntKind.wrap .i64 (x0.Files+1)})}:aA) x1 ({ Vol:=p1.Vol,File:=({ ({ x0 with State:=2}:aM) with Files:=IntKind.wrap .i64 (x0.Files+1)}:aM).Files,Off:=x2.Off,Len:=x3.Len}:bE)).bind λy0=>if (!y0.1)=true then (some (.ret (.ret (.ret (.ret (8,y0.2.1,y0.2.2.1,y0.2.2.2.1,y0.2.2.2.2,(p0.Vols.set p1.Vol.toNat ({ x0 with State:=2})).set p1.Vol.toNat ({ ({ x0 with State:=2}:aM) with Files:=IntKind.wrap .i64 (x0.Files+1)}))))))) else some (.go (y0.2.1,y0.2.2.1,y0.2.2.2.1,y0.2.2.2.2,IntKind.wrap .i64 (q4+1)))) else some (.brk (q0,q1,q2,q3,q4))
def m9 (m:Nat) (p0:aA) (p1:aN) (x0:aM) (r0:Int) (r1:List aS) (q0:List aH) (q1:List aB) (q2:Int):Option (Lp ((List aH)×(List aB)×Int) (Lp (Int×fD) (Lp (Int×fD) (Lp (Int×fD) (Int×Int×fD))))):=
 if (decide (q2 < (p1.Items.length:Int)))=true then ((ix p1.Items q2).bind λx1=>after (if (x1.Kind==3)=true then ((ix p1.Items q2).bind λx2=>(CZ m ({ Seq:=r0,Snaps:=q0,Chunks:=q1,Exps:=r1,Vols:=(p0.Vols.set p1.Vol.toNat ({ x0 with State:=2})).set p1.Vol.toNat ({ ({ x0 with State:=2}:aM) with Files:=IntKind.wrap .i64 (x0.Files+1)})}:aA) x2.Of).bind λy0=>some (.brk (y0.2.1,y0.2.2))) else some (.brk (q0,q1)):Option (Lp ((List aH)×(List aB)) (Lp ((List aH)×(List aB)×Int) (Lp (Int×fD) (Lp (Int×fD) (Lp (Int×fD) (Int×Int×fD))))))) λ⟨j0,j1⟩=>some (.go (j0,j1,IntKind.wrap .i64 (q2+1)))) else some (.brk (q0,q1,q2))
def nN (m:Nat) (p0:aA) (p1:aN) (x0:aM) (r0:Int) (r1:List aS) (r2:List aH) (q0:List aB) (q1:Int):Option (Lp ((List aB)×Int) (Lp ((List aB)) (Lp (Int×fD) (Lp (Int×fD) (Lp (Int×fD) (Int×Int×fD)))))):=
 if (decide (q1 < (p1.Items.length:Int)))=true then ((ix p1.Items q1).bind λx1=>after (if (x1.Kind==1)=true then ((ix p1.Items q1).bind λx2=>(KB m ({ Seq:=r0,Snaps:=r2,Chunks:=q0,Exps:=r1,Vols:=(p0.Vols.set p1.Vol.toNat ({ x0 with State:=2})).set p1.Vol.toNat ({ ({ x0 with State:=2}:aM) with Files:=IntKind.wrap .i64 (x0.Files+1)})}:aA) x2.Id).bind λy0=>after (if (decide (0≤y0))=true then ((ix q0 y0).bind λx3=>(ix (q0.set y0.toNat ({ x3 with Staged:=false})) y0).bind λx4=>some (.brk ((q0.set y0.toNat ({ x3 with Staged:=false})).set y0.toNat ({ x4 with Data:=([]:List Int)})))) else some (.brk q0):Option (Lp ((List aB)) (Lp ((List aB)) (Lp ((List aB)×Int) (Lp ((List aB)) (Lp (Int×fD) (Lp (Int×fD) (Lp (Int×fD) (Int×Int×fD))))))))) λj0=>some (.brk j0)) else some (.brk q0):Option (Lp ((List aB)) (Lp ((List aB)×Int) (Lp ((List aB)) (Lp (Int×fD) (Lp (Int×fD) (Lp (Int×fD) (Int×Int×fD)))))))) λj1=>some (.go (j1,IntKind.wrap .i64 (q1+1)))) else some (.brk (q0,q1))
def tZ (m:Nat) (p0:aA) (p1:aN) (q0:List aB) (q1:Int):Option (Lp ((List aB)×Int) (Lp (fD) (Lp (Int×fD) (Lp (Int×fD) (Lp (Int×fD) (Int×Int×fD)))))):=
 if (decide (q1 < (p0.Chunks.length:Int)))=true then ((ix p0.Chunks q1).bind λx0=>(G5 m x0.Locs p1.Vol).bind λy0=>after (if ({ x0 with Locs:=y0}.Staged)=true then (some (.brk true)) else some (.brk (decide (0 < (({ x0 with Locs:=y0}.Locs).length:Int)))):Option (Lp (Bool) (Lp ((List aB)×Int) (Lp (fD) (Lp (Int×fD) (Lp (Int×fD) (Lp (Int×fD) (Int×Int×fD)))))))) λj0=>after (if j0=true then ((app q0 ([{ x0 with Locs:=y0}]:List aB)).bind λz0=>some (.brk z0)) else some (.brk q0):Option (Lp ((List aB)) (Lp ((List aB)×Int) (Lp (fD) (Lp (Int×fD) (Lp (Int×fD) (Lp (Int×fD) (Int×Int×fD)))))))) λj1=>some (.go (j1,IntKind.wrap .i64 (q1+1)))) else some (.brk (q0,q1))
def uA (m:Nat) (p1:aN) (q0:List aH) (q1:Int):Option (Lp ((List aH)×Int) (Lp (fD) (Lp (Int×fD) (Lp (Int×fD) (Lp (Int×fD) (Int×Int×fD)))))):=
 if (decide (q1 < (q0.length:Int)))=true then ((ix q0 q1).bind λx0=>(G5 m x0.Locs p1.Vol).bind λy0=>(ix q0 q1).bind λx1=>some (.go (q0.set q1.toNat ({ x1 with Locs:=y0}),IntKind.wrap .i64 (q1+1)))) else some (.brk (q0,q1))
def uB (m:Nat) (p0:aA) (p1:aN) (q0:List aS) (q1:Int):Option (Lp ((List aS)×Int) (Lp (fD) (Lp (Int×fD) (Lp (Int×fD) (Lp (Int×fD) (Int×Int×fD)))))):=
 if (decide (q1 < (p0.Exps.length:Int)))=true then ((ix p0.Exps q1).bind λx0=>(G5 m x0.Locs p1.Vol).bind λy0=>after (if (decide (0 < (({ x0 with Locs:=y0}.Locs).length:Int)))=true then ((app q0 ([{ x0 with Locs:=y0}]:List aS)).bind λz0=>some (.brk z0)) else some (.brk q0):Option (Lp ((List aS)) (Lp ((List aS)×Int) (Lp (fD) (Lp (Int×fD) (Lp (Int×fD) (Lp (Int×fD) (Int×Int×fD)))))))) λj0=>some (.go (j0,IntKind.wrap .i64 (q1+1)))) else some (.brk (q0,q1))
def rU (m:Nat) (p0:aA) (p1:aN):Option (Int×Int×fD):=
 after (if (p1.Kind==1)=true then (after (if (p1.Snap.Seq==p0.Seq)=true then (some (.brk ((p1.Snap.Locs.length:Int)==0))) else some (.brk false):Option (Lp (Bool) (Lp (Int×fD) (Int×Int×fD)))) λj0=>after (aU (λs=>rS m p1 s.1 s.2) m (j0,0)) λ⟨r0,r1⟩=>if (!r0)=true then (some (.ret (1,p0.Seq,p0.Snaps,p0.Chunks,p0.Exps,p0.Vols))) else (yH m ({ Seq:=p0.Seq,Snaps:=p0.Snaps,Chunks:=p0.Chunks,Exps:=p0.Exps,Vols:=p0.Vols}:aA) p1.Snap.Man.Name).bind λy0=>if (decide (0≤y0))=true then (some (.ret (9,p0.Seq,p0.Snaps,p0.Chunks,p0.Exps,p0.Vols))) else (app p0.Snaps ([p1.Snap]:List aH)).bind λz0=>after (aU (λs=>vO m p1 s.1 s.2) m (p0.Chunks,0)) λ⟨r2,r3⟩=>some (.brk (IntKind.wrap .i64 (p0.Seq+1),z0,r2,p0.Exps,p0.Vols))) else after (if (p1.Kind==2)=true then ((CZ m ({ Seq:=p0.Seq,Snaps:=p0.Snaps,Chunks:=p0.Chunks,Exps:=p0.Exps,Vols:=p0.Vols}:aA) p1.Seq).bind λy1=>if (!y1.1)=true then (some (.ret (.ret (8,p0.Seq,y1.2.1,y1.2.2,p0.Exps,p0.Vols)))) else some (.brk (p0.Seq,y1.2.1,y1.2.2,p0.Exps,p0.Vols))) else after (if (p1.Kind==3)=true then (after ((z7 m ({ Seq:=p0.Seq,Snaps:=p0.Snaps,Chunks:=p0.Chunks,Exps:=p0.Exps,Vols:=p0.Vols}:aA) p1.Vol 1 2).bind λy2=>if y2=true then (if (decide (1≤(p1.Items.length:Int)))=true then (some (.brk (decide ((p1.Items.length:Int)≤64)))) else some (.brk false)) else some (.brk false):Option (Lp (Bool) (Lp (Int×fD) (Lp (Int×fD) (Lp (Int×fD) (Int×Int×fD)))))) λj1=>after (aU (λs=>rT m p1 s.1 s.2) m (j1,0)) λ⟨r4,r5⟩=>if (!r4)=true then (some (.ret (.ret (.ret (1,p0.Seq,p0.Snaps,p0.Chunks,p0.Exps,p0.Vols))))) else (ix p0.Vols p1.Vol).bind λx0=>after (aU (λs=>qC m p0 p1 x0 s.1 s.2.1 s.2.2.1 s.2.2.2.1 s.2.2.2.2) m (p0.Seq,p0.Snaps,p0.Chunks,p0.Exps,0)) λ⟨r6,r7,r8,r9,r10⟩=>after (aU (λs=>m9 m p0 p1 x0 r6 r9 s.1 s.2.1 s.2.2) m (r7,r8,0)) λ⟨r11,r12,r13⟩=>after (if ((({ ({ x0 with State:=2}:aM) with Files:=IntKind.wrap .i64 (x0.Files+1)}:aM).Pool)==0)=true then (after (aU (λs=>nN m p0 p1 x0 r6 r9 r11 s.1 s.2) m (r12,0)) λ⟨r14,r15⟩=>some (.brk r14)) else some (.brk r12):Option (Lp ((List aB)) (Lp (Int×fD) (Lp (Int×fD) (Lp (Int×fD) (Int×Int×fD)))))) λj2=>some (.brk (r6,r11,j2,r9,(p0.Vols.set p1.Vol.toNat ({ x0 with State:=2})).set p1.Vol.toNat ({ ({ x0 with State:=2}:aM) with Files:=IntKind.wrap .i64 (x0.Files+1)})))) else after (if (p1.Kind==4)=true then ((z7 m ({ Seq:=p0.Seq,Snaps:=p0.Snaps,Chunks:=p0.Chunks,Exps:=p0.Exps,Vols:=p0.Vols}:aA) p1.Vol 2 2).bind λy3=>if (!y3)=true then (some (.ret (.ret (.ret (.ret (1,p0.Seq,p0.Snaps,p0.Chunks,p0.Exps,p0.Vols)))))) else (ix p0.Vols p1.Vol).bind λx1=>(ix (p0.Vols.set p1.Vol.toNat ({ x1 with State:=3})) p1.Vol).bind λx2=>after (aU (λs=>tZ m p0 p1 s.1 s.2) m ([],0)) λ⟨r16,r17⟩=>after (aU (λs=>uA m p1 s.1 s.2) m (p0.Snaps,0)) λ⟨r18,r19⟩=>after (aU (λs=>uB m p0 p1 s.1 s.2) m ([],0)) λ⟨r20,r21⟩=>some (.brk (r18,r16,r20,(p0.Vols.set p1.Vol.toNat ({ x1 with State:=3})).set p1.Vol.toNat ({ x2 with Files:=0})))) else after (if (p1.Kind==5)=true then ((z7 m ({ Seq:=p0.Seq,Snaps:=p0.Snaps,Chunks:=p0.Chunks,Exps:=p0.Exps,Vols:=p0.Vols}:aA) p1.Vol 3 3).bind λy4=>if (!y4)=true then (some (.ret (.ret (.ret (.ret (.ret (1,p0.Seq,p0.Snaps,p0.Chunks,p0.Exps,p0.Vols))))))) else (ix p0.Vols p1.Vol).bind λx3=>(ix p0.Vols p1.Vol).bind λx4=>(ix (p0.Vols.set p1.Vol.toNat ({ x4 with State:=1})) p1.Vol).bind λx5=>some (.brk ((p0.Vols.set p1.Vol.toNat ({ x4 with State:=1})).set p1.Vol.toNat ({ x5 with Epoch:=IntKind.wrap .i64 (x3.Epoch+1)})))) else some (.brk p0.Vols):Option (Lp ((List aM)) (Lp (fD) (Lp (Int×fD) (Lp (Int×fD) (Lp (Int×fD) (Int×Int×fD))))))) λj3=>some (.brk (p0.Snaps,p0.Chunks,p0.Exps,j3)):Option (Lp (fD) (Lp (Int×fD) (Lp (Int×fD) (Lp (Int×fD) (Int×Int×fD)))))) λ⟨j4,j5,j6,j7⟩=>some (.brk (p0.Seq,j4,j5,j6,j7)):Option (Lp (Int×fD) (Lp (Int×fD) (Lp (Int×fD) (Int×Int×fD))))) λ⟨j8,j9,j10,j11,j12⟩=>some (.brk (j8,j9,j10,j11,j12)):Option (Lp (Int×fD) (Lp (Int×fD) (Int×Int×fD)))) λ⟨j13,j14,j15,j16,j17⟩=>some (.brk (j13,j14,j15,j16,j17)):Option (Lp (Int×fD) (Int×Int×fD))) λ⟨j18,j19,j20,j21,j22⟩=>some (0,j18,j19,j20,j21,j22)
theorem W91 {w:Nat} {p0:aA} {p1:aN} {o:Int×Int×fD} (h:aE) {p0K:bY} {gS:dC} (ok_Snaps:bM gS 4 p0.Snaps.length) {gC:dC} (oC:bM gC 35 p0.Chunks.length) {gE:dC} (oE:bM gE 3 p0.Exps.length) {gV:dC} (oV:bM gV 4 p0.Vols.length) (K0:bQ h (hC p0K p0 gS gC gE gV)) (m:rU w p0 p1=some o):
 aL Tryz.prog 91 [.ptr p0K 0,.agg (aD p1)] (hp h (hC p0K p0 gS gC gE gV)) (λr h'=>∃g_Snaps':dC,bM g_Snaps' 4 (o.2.2.1:List aH).length∧∃g_Chunks':dC,bM g_Chunks' 35 (o.2.2.2.1:List aB).length∧∃g_Exps':dC,bM g_Exps' 3 (o.2.2.2.2.1:List aS).length∧∃g_Vols':dC,bM g_Vols' 4 (o.2.2.2.2.2:List aM).length∧bQ h (hL p0K o.2.1 g_Snaps' g_Chunks' g_Exps' g_Vols' o.2.2.1 o.2.2.2.1 o.2.2.2.2.1 o.2.2.2.2.2)∧r=nZ o.1∧h'=hp h (hL p0K o.2.1 g_Snaps' g_Chunks' g_Exps' g_Vols' o.2.2.1 o.2.2.2.1 o.2.2.2.2.1 o.2.2.2.2.2)):=by
 refine B9 K0 443 [.tmp 4] Tryz.func91 rfl rfl rfl rfl ?_
 unfold rU at m
 refine vs (v0 (hX rfl rfl λk2 K3=>vs (vs (v0 (dP CG rfl rfl (vl 0 _ cD rfl rfl rfl (v0 (vs (v0 (qM m (σ:=Int×fD) (τ:=dC×dC×dC×dC) (λg s=>((some k2,.obj 62 (aD p1))::(hL p0K s.1 g.1 g.2.1 g.2.2.1 g.2.2.2 s.2.1 s.2.2.1 s.2.2.2.1 s.2.2.2.2))) (λg s=>bM g.1 4 (s.2.1:List aH).length∧bM g.2.1 35 (s.2.2.1:List aB).length∧bM g.2.2.1 3 (s.2.2.2.1:List aS).length∧bM g.2.2.2 4 (s.2.2.2.2:List aM).length) (λg s=>.nil) (λx m=> ?_) ?_))))))))))
 refine v0 ?_
 apply vi m <;> intro c0 m
 refine vs (fQ m (σ:=Bool) (λs=>((some k2,.obj 62 (aD p1))::(hC p0K p0 gS gC gE gV))) (λs=>.c 0 (.ptr p0K 0) (.c 3 (.ptr k2 0) (.c 5 (.sc (.bool s)) .nil))) (λx m=> ?_) ?_)
 refine v0 (zM (by kernel_rfl) (dP lB rfl rfl (dP uZ rfl rfl (vl 0 _ cD rfl rfl rfl (kQ rfl (dP nS rfl rfl (vl 1 _ cD rfl rfl rfl ?_)))))))
 apply vi m <;> intro b0 m
 rw[b0]
 exact dP lB rfl rfl (dP kO rfl rfl (vl 0 _ fM rfl rfl rfl (cY jO rfl (gY m))))
 rw[b0]
 exact gY m
 rintro _ j0 m
 refine vs (vs (v0 (kD m (σ:=Bool×Int) (λs=>((some k2,.obj 62 (aD p1))::(hC p0K p0 gS gC gE gV))) (λs=>.c 0 (.ptr p0K 0) (.c 3 (.ptr k2 0) (.c 5 (.sc (.bool s.1)) (.c 6 (nZ s.2) .nil)))) (lx (.k4 .nil)) ?_ ?_)))
 rintro _ ⟨q0,q1⟩ x m
 replace m:rS w p1 q0 q1=some x:=m
 unfold rS at m
 refine vs (vs (v0 (dP mX rfl rfl (vl 0 _ eO rfl rfl rfl (cY jG rfl (v0 ?_))))))
 apply vi m <;> intro c1 m
 refine v0 (vs (v0 (fQ m (σ:=Bool) (λs=>((some k2,.obj 62 (aD p1))::(hC p0K p0 gS gC gE gV))) (λs=>.c 0 (.ptr p0K 0) (.c 3 (.ptr k2 0) (.c 5 (.sc (.bool s)) (.c 6 (nZ q1) .nil)))) (λx m=> ?_) ?_)))
 refine v0 ?_
 apply vi m <;> intro b1 m
 rw[b1]
 refine dP mX rfl rfl (vl 0 _ eO rfl rfl rfl (vx m fH rfl rfl λx0 _ m=>bV (o9 oJ rfl rfl) (va (.sc (.bool x0.Staged)) DO rfl rfl ?_)))
 apply vi m <;> intro b2 m
 rw[b2]
 exact dP mX rfl rfl (vl 0 _ eO rfl rfl rfl (vx m fH rfl rfl λx1 _ m=>bV (o9 jQ rfl rfl) (va (.sl none 4 (List.map aQ x1.Locs)) fM rfl rfl (cY jO rfl (gJ m)))))
 rw[b2]
 exact gJ m
 rw[b1]
 exact gJ m
 rintro _ j1 m
 exact v0 (gJ m)
 exact v0 (zK m)
 rintro _ ⟨r0,r1⟩ m
 refine vs (vs (v0 (v0 ?_)))
 apply vi m <;> intro c2 m
 refine vs (v0 (v0 (gM m λm=> ?_)))
 cases m
 exact vr λu=>dZ.of1 (.inl rfl) (f0 _ _ (.sc (.int _ _)) rfl) (bJ u [1,2,3,4,5] rfl).2 (bB.refl _ _) ⟨gS,ok_Snaps,gC,oC,gE,oE,gV,oV,(bJ u [1,2,3,4,5] rfl).1,rfl,rfl⟩
 refine v0 (vs (vs (v0 (zM (by kernel_rfl) (kQ rfl (vl 1 (.agg ([nZ p0.Seq,aZ gS,aZ gC,aZ gE,aZ gV])) eP rfl rfl rfl (dP lB rfl rfl (dP oL rfl rfl (dP LQ rfl rfl (vl 0 _ wS rfl rfl rfl ?_))))))))))
 obtain⟨_,Y0,m⟩:=aC m
 refine vn (λu=>cB (fA (.cons (Br.agg (.cons (Br.refl _ _) (.cons (Br.aw 2 eC ok_Snaps u rfl) (.cons (Br.aw 3 cL oC u rfl) (.cons (Br.aw 4 fY oE u rfl) (.cons (Br.aw 5 eS oV u rfl) .nil)))))) (.cons (Br.refl _ _) .nil)) rfl (TQ _ Y0)) rfl ME rfl) (v0 ?_)
 apply vi m <;> intro c3 m
 refine vs (v0 (v0 (gM m λm=> ?_)))
 cases m
 exact vr λu=>dZ.of1 (.inl rfl) (f0 _ _ (.sc (.int _ _)) rfl) (bJ u [1,2,3,4,5] rfl).2 (bB.refl _ _) ⟨gS,ok_Snaps,gC,oC,gE,oE,gV,oV,(bJ u [1,2,3,4,5] rfl).1,rfl,rfl⟩
 refine v0 (vs (v0 (kQ rfl (dP nS rfl rfl (vl 1 _ cD rfl rfl rfl (kQ rfl (dP nS rfl rfl (ve λu=>aJ 1 ([nZ (IntKind.wrap .i64 (p0.Seq+1)),aZ gS,aZ gC,aZ gE,aZ gV]) u rfl rfl rfl rfl DN rfl rfl λK1=>qk K1 rfl (vs (v0 (vz [(11,some p0K,.obj 30 ([nZ (IntKind.wrap .i64 (p0.Seq+1)),aZ gS,aZ gC,aZ gE,aZ gV])),(1000000,some k2,.obj 62 (aD p1))] mixed (λu=>⟨λ_=>aK 1 u rfl,λ_=>aK 0 u rfl,trivial⟩) λu=>zP 0 rfl rfl (zP 1 rfl rfl (zN 2 rfl rfl (zF 3 rfl dQ rfl (zL 4 0 (aZ gS) rfl eV rfl rfl rfl (zF 5 rfl lB rfl (zL 6 1 (.agg (bK p1.Snap)) rfl sO rfl rfl rfl (zC 7 rfl (eD (List.map bK ([p1.Snap]:List aH)) wJ rfl rfl rfl rfl) ?_))))))))))))))))))
 obtain⟨z0,Z0,m⟩:=aC m
 refine zE 8 rfl (fS (c:=bK) 2 Z0 wJ rfl sP rfl eC rfl rfl ok_Snaps u rfl λag0 O0 K2=>⟨⟨λ_=>aK 1 K2 rfl,λ_=>aK 0 K2 rfl,trivial⟩, ?_⟩)
 refine zN 9 rfl rfl (zF 10 rfl dQ rfl (zE 11 rfl (aJ 1 ([nZ (IntKind.wrap .i64 (p0.Seq+1)),aZ ag0,aZ gC,aZ gE,aZ gV]) K2 rfl rfl (cG rfl) (cE (bZ _ _ _) rfl) F9 rfl rfl λK4=>⟨⟨λe=>absurd e (by decide),λ_=>aK 0 K4 rfl,trivial⟩, ?_⟩)))
 refine zX (qk (f:=SZ 95 _ _ _ _ _ _ _ _ _ _ _ _) K4 rfl (vs (v0 (pB m (σ:=(List aB)×Int) (τ:=dC) (λg s=>((some k2,.obj 62 (aD p1))::(hL p0K (IntKind.wrap .i64 (p0.Seq+1)) ag0 g gE gV z0 s.1 p0.Exps p0.Vols))) (λg s=>bM g 35 (s.1:List aB).length) (λg s=>.c 0 (.ptr p0K 0) (.c 3 (.ptr k2 0) (.c 7 (nZ s.2) .nil))) gC oC (lx (.k3 .nil)) ?_ ?_))))
 rintro ag1 ⟨q2,q3⟩ x O1 m
 replace m:vO w p1 q2 q3=some x:=m
 unfold vO at m
 refine vs (vs (v0 (dP mX rfl rfl (vl 0 _ eO rfl rfl rfl (cY jG rfl (v0 ?_))))))
 apply vi m <;> intro c4 m
 refine v0 (vs (v0 (v0 (vz [(13,some p0K,.obj 30 ([nZ (IntKind.wrap .i64 (p0.Seq+1)),aZ ag0,aZ ag1,aZ gE,aZ gV])),(1000000,some k2,.obj 62 (aD p1))] mixed (λu=>⟨λ_=>aK 1 u rfl,λ_=>aK 0 u rfl,trivial⟩) λu=>zP 0 rfl rfl (zP 1 rfl rfl (zN 2 rfl rfl (zF 3 rfl eG rfl (zL 4 0 (aZ ag1) rfl eO rfl rfl rfl (zF 5 rfl mX rfl (zL 6 1 (.sl none 35 (List.map aI p1.Chunks)) rfl eO rfl rfl rfl (zI 7 rfl rfl ?_)))))))))))
 obtain⟨x2,X0,m⟩:=aC m
 refine zC 8 rfl (oD X0 fH rfl rfl) (zC 9 rfl (pA (.agg (aI x2)) nT rfl rfl) ?_)
 obtain⟨_,Y1,m⟩:=aC m
 refine zE 10 rfl (xU (s:=107) (.sl none 35 (List.map aI q2)) (aW (.cons_cons _ (.cons_cons _ (.cons_cons _ (.cons _ (.refl _))))) u).1 (Fz.aw 3 cL O1 u rfl (.refl _)) (cR (Z9 _ Y1) rfl aAA rfl ?_))
 rintro x h' ⟨ag2,O2,K5,rfl,rfl⟩
 rw[iO]
 refine⟨⟨λ_=>aK 2 (bQ.co ((aW (.cons_cons _ (.cons_cons _ (.cons_cons _ (.cons _ (.refl _))))) u).2) K5) rfl,λ_=>aK 1 (bQ.co ((aW (.cons_cons _ (.cons_cons _ (.cons_cons _ (.cons _ (.refl _))))) u).2) K5) rfl,trivial⟩, ?_⟩
 refine zN 11 rfl rfl (zF 12 rfl eG rfl (zE 13 rfl (aJ 2 ([nZ (IntKind.wrap .i64 (p0.Seq+1)),aZ ag0,aZ ag2,aZ gE,aZ gV]) (bQ.co ((aW (.cons_cons _ (.cons_cons _ (.cons_cons _ (.cons _ (.refl _))))) u).2) K5) rfl rfl (cG rfl) (cE (bZ _ _ _) rfl) CC rfl rfl λK6=>⟨⟨λe=>absurd e (by decide),λ_=>aK 1 K6 rfl,trivial⟩, ?_⟩)))
 exact zX (qk (f:=S0 115 _ _ _ _ _ _ _ _ _ _ _ _ _ _) K6 rfl (v0 (fB m ag2 O2 (nD [1,2,3,0,4,5] rfl rfl (.k3 .nil)))))
 exact v0 (mL m ag1 O1 (lx (.k3 .nil)))
 rintro ag3 ⟨r2,r3⟩ t0 m
 exact fB m (ag0,ag3,gE,gV) ⟨O0,t0,oE,oV⟩ (lx .nil)
 refine vs (v0 (qM m (σ:=Int×fD) (τ:=dC×dC×dC×dC) (λg s=>((some k2,.obj 62 (aD p1))::(hL p0K s.1 g.1 g.2.1 g.2.2.1 g.2.2.2 s.2.1 s.2.2.1 s.2.2.2.1 s.2.2.2.2))) (λg s=>bM g.1 4 (s.2.1:List aH).length∧bM g.2.1 35 (s.2.2.1:List aB).length∧bM g.2.2.1 3 (s.2.2.2.1:List aS).length∧bM g.2.2.2 4 (s.2.2.2.2:List aM).length) (λg s=>.nil) (λx m=> ?_) ?_))
 refine v0 ?_
 apply vi m <;> intro c5 m
 refine vs (v0 (dP TA rfl rfl (vl 0 _ cD rfl rfl rfl ?_)))
 obtain⟨y0,Y2,m⟩:=aC m
 refine ve λu=>dO ((bP u [1,2,3,4,5,0] rfl rfl).1.trans (dR h (hC p0K p0 gS gC gE gV) [(some k2,.obj 62 (aD p1))]).symm) (cR (aAB (hp h [(some k2,.obj 62 (aD p1))]) ok_Snaps oC oE oV (dL (hC p0K p0 gS gC gE gV) [(some k2,.obj 62 (aD p1))] (bP u [1,2,3,4,5,0] rfl rfl).2).2 Y2) rfl R9 rfl ?_)
 rintro x h' ⟨ag4,O3,ag5,O4,K7,rfl,rfl⟩
 have K8:=bP (L':=((some k2,.obj 62 (aD p1))::(hL p0K p0.Seq ag4 ag5 gE gV y0.2.1 y0.2.2 p0.Exps p0.Vols))) (eL (dL (hC p0K p0 gS gC gE gV) [(some k2,.obj 62 (aD p1))] (bP u [1,2,3,4,5,0] rfl rfl).2).1 K7) [5,0,1,2,3,4] rfl rfl
 refine qk K8.2 ((dR h (hL p0K p0.Seq ag4 ag5 gE gV y0.2.1 y0.2.2 p0.Exps p0.Vols) [(some k2,.obj 62 (aD p1))]).trans K8.1) (v0 ?_)
 apply vi m <;> intro c6 m
 refine vs (v0 (v0 (gM m λm=>gM m λm=> ?_)))
 cases m
 exact vr λu=>dZ.of1 (.inl rfl) (f0 _ _ (.sc (.int _ _)) rfl) (bJ u [1,2,3,4,5] rfl).2 (bB.refl _ _) ⟨ag4,O3,ag5,O4,gE,oE,gV,oV,(bJ u [1,2,3,4,5] rfl).1,rfl,rfl⟩
 exact v0 (fB m (ag4,ag5,gE,gV) ⟨O3,O4,oE,oV⟩ (lx .nil))
 refine vs (v0 (qM m (σ:=Int×fD) (τ:=dC×dC×dC×dC) (λg s=>((some k2,.obj 62 (aD p1))::(hL p0K s.1 g.1 g.2.1 g.2.2.1 g.2.2.2 s.2.1 s.2.2.1 s.2.2.2.1 s.2.2.2.2))) (λg s=>bM g.1 4 (s.2.1:List aH).length∧bM g.2.1 35 (s.2.2.1:List aB).length∧bM g.2.2.1 3 (s.2.2.2.1:List aS).length∧bM g.2.2.2 4 (s.2.2.2.2:List aM).length) (λg s=>.nil) (λx m=> ?_) ?_))
 refine v0 ?_
 apply vi m <;> intro c7 m
 refine vs (fQ m (σ:=Bool) (λs=>((some k2,.obj 62 (aD p1))::(hC p0K p0 gS gC gE gV))) (λs=>.c 0 (.ptr p0K 0) (.c 3 (.ptr k2 0) (.c 8 (.sc (.bool s)) .nil))) (λx m=> ?_) ?_)
 refine v0 (dP iS rfl rfl (vl 0 _ cD rfl rfl rfl ?_))
 obtain⟨_,Y3,m⟩:=aC m
 refine ve λu=>dO ((bP u [1,2,3,4,5,0] rfl rfl).1.trans (dR h (hC p0K p0 gS gC gE gV) [(some k2,.obj 62 (aD p1))]).symm) (cR (UL (hp h [(some k2,.obj 62 (aD p1))]) ok_Snaps oC oE oV (dL (hC p0K p0 gS gC gE gV) [(some k2,.obj 62 (aD p1))] (bP u [1,2,3,4,5,0] rfl rfl).2).2 Y3) rfl NG rfl ?_)
 rintro x h' ⟨K9,rfl,rfl⟩
 have K10:=bP (L':=((some k2,.obj 62 (aD p1))::(hC p0K p0 gS gC gE gV))) (eL (dL (hC p0K p0 gS gC gE gV) [(some k2,.obj 62 (aD p1))] (bP u [1,2,3,4,5,0] rfl rfl).2).1 K9) [5,0,1,2,3,4] rfl rfl
 refine qk K10.2 ((dR h (hC p0K p0 gS gC gE gV) [(some k2,.obj 62 (aD p1))]).trans K10.1) ?_
 apply vi m <;> intro b3 m
 rw[b3]
 refine dP gK rfl rfl (vl 0 _ kY rfl rfl rfl (cY pE rfl ?_))
 apply vi m <;> intro b4 m
 rw[b4]
 exact dP gK rfl rfl (vl 0 _ kY rfl rfl rfl (cY pE rfl (gY m)))
 rw[b4]
 exact gY m
 rw[b3]
 exact gY m
 rintro _ j2 m
 refine vs (vs (v0 (kD m (σ:=Bool×Int) (λs=>((some k2,.obj 62 (aD p1))::(hC p0K p0 gS gC gE gV))) (λs=>.c 0 (.ptr p0K 0) (.c 3 (.ptr k2 0) (.c 8 (.sc (.bool s.1)) (.c 9 (nZ s.2) .nil)))) (lx (.k4 .nil)) ?_ ?_)))
 rintro _ ⟨q4,q5⟩ x m
 replace m:rT w p1 q4 q5=some x:=m
 unfold rT at m
 refine vs (vs (v0 (dP gK rfl rfl (vl 0 _ kY rfl rfl rfl (cY pE rfl (v0 ?_))))))
 apply vi m <;> intro c8 m
 refine v0 (vs (v0 (fQ m (σ:=Bool) (λs=>((some k2,.obj 62 (aD p1))::(hC p0K p0 gS gC gE gV))) (λs=>.c 0 (.ptr p0K 0) (.c 3 (.ptr k2 0) (.c 8 (.sc (.bool s)) (.c 9 (nZ q5) .nil)))) (λx m=> ?_) ?_)))
 refine v0 ?_
 apply vi m <;> intro b5 m
 rw[b5]
 refine dP gK rfl rfl (vl 0 _ kY rfl rfl rfl (vx m wK rfl rfl λx3 _ m=>bV (o9 lR rfl rfl) (va (nZ x3.Kind) cD rfl rfl ?_)))
 apply vi m <;> intro b6 m
 rw[b6]
 exact dP gK rfl rfl (vl 0 _ kY rfl rfl rfl (vx m wK rfl rfl λx4 _ m=>bV (o9 lR rfl rfl) (va (nZ x4.Kind) cD rfl rfl (gJ m))))
 rw[b6]
 exact gJ m
 rw[b5]
 exact gJ m
 rintro _ j3 m
 exact v0 (gJ m)
 exact v0 (zK m)
 rintro _ ⟨r4,r5⟩ m
 refine vs (vs (v0 (v0 ?_)))
 apply vi m <;> intro c9 m
 refine vs (v0 (v0 (gM m λm=>gM m λm=>gM m λm=> ?_)))
 cases m
 exact vr λu=>dZ.of1 (.inl rfl) (f0 _ _ (.sc (.int _ _)) rfl) (bJ u [1,2,3,4,5] rfl).2 (bB.refl _ _) ⟨gS,ok_Snaps,gC,oC,gE,oE,gV,oV,(bJ u [1,2,3,4,5] rfl).1,rfl,rfl⟩
 refine v0 (vs (v0 (zM (by kernel_rfl) (kQ rfl (dP iR rfl rfl (vl 1 (aZ gV) kJ rfl rfl rfl (dP iS rfl rfl (vl 0 _ cD rfl rfl rfl ?_))))))))
 obtain⟨x5,X1,m⟩:=aC m
 refine bV (dJ X1 pD oV rfl rfl) (vs (v0 (bV (iP (bM.ne oV X1) rfl) (bV (cZ (bM.ne oV X1) rI rfl rfl) (vn (λu=>eT (fo:=3) (nZ x5.Files) X1 eS oV cD rfl (aK 5 u rfl) (λ_=>rfl)) (bV (iP (bM.ne oV X1) rfl) (bV (cZ (bM.ne oV X1) rH rfl rfl) (ve λu=>dA (fo:=2) ({ x5 with State:=2}:aM) 5 u X1 eS oV rfl rfl rfl rfl (cU.refl _ _) DN rfl rfl λK11=>qk K11 rfl (bV (iP (bM.ne (bM.set oV) (cX (x':=({ x5 with State:=2}:aM)) X1)) rfl) (bV (cZ (bM.ne (bM.set oV) (cX (x':=({ x5 with State:=2}:aM)) X1)) rI rfl rfl) (ve λu=>dA (fo:=3) ({ ({ x5 with State:=2}:aM) with Files:=IntKind.wrap .i64 (x5.Files+1)}:aM) 5 u (cX (x':=({ x5 with State:=2}:aM)) X1) eS (bM.set oV) rfl rfl rfl rfl (cU.refl _ _) DN rfl rfl λK12=>qk K12 rfl (vs (vs (v0 (pB m (σ:=Int×(List aH)×(List aB)×(List aS)×Int) (τ:=dC×dC×dC) (λg s=>((some k2,.obj 62 (aD p1))::(hL p0K s.1 g.1 g.2.1 g.2.2 gV s.2.1 s.2.2.1 s.2.2.2.1 ((p0.Vols.set p1.Vol.toNat ({ x5 with State:=2})).set p1.Vol.toNat ({ ({ x5 with State:=2}:aM) with Files:=IntKind.wrap .i64 (x5.Files+1)}))))) (λg s=>bM g.1 4 (s.2.1:List aH).length∧bM g.2.1 35 (s.2.2.1:List aB).length∧bM g.2.2 3 (s.2.2.2.1:List aS).length) (λg s=>.c 0 (.ptr p0K 0) (.c 3 (.ptr k2 0) (.c 10 (wH gV.t (p1.Vol.toNat*4+0)) (.c 11 (nZ s.2.2.2.2) .nil)))) (gS,gC,gE) (⟨ok_Snaps,oC,oE⟩) (lx (.k4 .nil)) ?_ ?_)))))))))))))))
 rintro⟨ag6,ag7,ag8⟩ ⟨q6,q7,q8,q9,q10⟩ x ⟨O5,O6,O7⟩ m
 replace m:qC w p0 p1 x5 q6 q7 q8 q9 q10=some x:=m
 unfold qC at m
 refine vs (vs (v0 (dP gK rfl rfl (vl 0 _ kY rfl rfl rfl (cY pE rfl (v0 ?_))))))
 apply vi m <;> intro c10 m
 refine v0 (vs (v0 (vs (v0 (vz [(1000000,some k2,.obj 62 (aD p1)),(1000000,gV.t,.obj 49 (fl cS ((p0.Vols.set p1.Vol.toNat ({ x5 with State:=2})).set p1.Vol.toNat ({ ({ x5 with State:=2}:aM) with Files:=IntKind.wrap .i64 (x5.Files+1)}):List aM) gV.sp))] mixed (λu=>⟨λ_=>aK 0 u rfl,λ_=>aK 5 u rfl,trivial⟩) λu=>zP 0 rfl rfl (zF 1 rfl gK rfl (zL 2 0 (.sl none 37 (List.map aV p1.Items)) rfl kY rfl rfl rfl (zI 3 rfl rfl ?_))))))))
 obtain⟨x6,X2,m⟩:=aC m
 refine zC 4 rfl (oD X2 wK rfl rfl) (zC 5 rfl (pA (.agg (aV x6)) GB rfl rfl) (zF 6 rfl iS rfl (zL 7 0 (nZ p1.Vol) rfl cD rfl rfl rfl (zC 8 rfl (eZ (wH _ _) rfl) (zC 9 rfl (iP (bM.ne (bM.set (bM.set oV)) (cX (x':=({ ({ x5 with State:=2}:aM) with Files:=IntKind.wrap .i64 (x5.Files+1)}:aM)) (cX (x':=({ x5 with State:=2}:aM)) X1))) rfl) (zC 10 rfl (cZ (bM.ne (bM.set (bM.set oV)) (cX (x':=({ ({ x5 with State:=2}:aM) with Files:=IntKind.wrap .i64 (x5.Files+1)}:aM)) (cX (x':=({ x5 with State:=2}:aM)) X1))) rI rfl rfl) (zR 11 rfl (λ_ _ hi hB=>eT (fo:=3) (nZ (({ ({ x5 with State:=2}:aM) with Files:=IntKind.wrap .i64 (x5.Files+1)}:aM).Files)) (cX (x':=({ ({ x5 with State:=2}:aM) with Files:=IntKind.wrap .i64 (x5.Files+1)}:aM)) (cX (x':=({ x5 with State:=2}:aM)) X1)) eS (bM.set (bM.set oV)) cD rfl (f8.get 1 hi rfl (hB 1000000 (by kernel_rfl))) (λ_=>rfl)) (zF 12 rfl gK rfl (zL 13 0 (.sl none 37 (List.map aV p1.Items)) rfl kY rfl rfl rfl (zI 14 rfl rfl ?_))))))))))
 obtain⟨x7,X3,m⟩:=aC m
 refine zC 15 rfl (oD X3 wK rfl rfl) (zC 16 rfl (o9 GC rfl rfl) (zC 17 rfl (pA (nZ x7.Off) cD rfl rfl) (zF 18 rfl gK rfl (zL 19 0 (.sl none 37 (List.map aV p1.Items)) rfl kY rfl rfl rfl (zI 20 rfl rfl ?_)))))
 obtain⟨x8,X4,m⟩:=aC m
 refine zC 21 rfl (oD X4 wK rfl rfl) (zC 22 rfl (o9 GD rfl rfl) (zC 23 rfl (pA (nZ x8.Len) cD rfl rfl) (zC 24 rfl (eK (aQ ({ Vol:=p1.Vol,File:=({ ({ x5 with State:=2}:aM) with Files:=IntKind.wrap .i64 (x5.Files+1)}:aM).Files,Off:=x7.Off,Len:=x8.Len}:bE)) WZ rfl) ?_)))
 obtain⟨y1,Y4,m⟩:=aC m
 refine zE 25 rfl (dO ((bP u [1,2,3,4,5,0] rfl rfl).1.trans (dR h (hL p0K q6 ag6 ag7 ag8 gV q7 q8 q9 ((p0.Vols.set p1.Vol.toNat ({ x5 with State:=2})).set p1.Vol.toNat ({ ({ x5 with State:=2}:aM) with Files:=IntKind.wrap .i64 (x5.Files+1)}))) [(some k2,.obj 62 (aD p1))]).symm) (cR (aE6 (hp h [(some k2,.obj 62 (aD p1))]) O5 O6 O7 (bM.set (bM.set oV)) (dL (hL p0K q6 ag6 ag7 ag8 gV q7 q8 q9 ((p0.Vols.set p1.Vol.toNat ({ x5 with State:=2})).set p1.Vol.toNat ({ ({ x5 with State:=2}:aM) with Files:=IntKind.wrap .i64 (x5.Files+1)}))) [(some k2,.obj 62 (aD p1))] (bP u [1,2,3,4,5,0] rfl rfl).2).2 Y4) rfl aAC rfl ?_))
 rintro x h' ⟨ag9,O8,ag10,O9,ag11,O10,K13,rfl,rfl⟩
 have K14:=bP (L':=((some k2,.obj 62 (aD p1))::(hL p0K y1.2.1 ag9 ag10 ag11 gV y1.2.2.1 y1.2.2.2.1 y1.2.2.2.2 ((p0.Vols.set p1.Vol.toNat ({ x5 with State:=2})).set p1.Vol.toNat ({ ({ x5 with State:=2}:aM) with Files:=IntKind.wrap .i64 (x5.Files+1)}))))) (eL (dL (hL p0K q6 ag6 ag7 ag8 gV q7 q8 q9 ((p0.Vols.set p1.Vol.toNat ({ x5 with State:=2})).set p1.Vol.toNat ({ ({ x5 with State:=2}:aM) with Files:=IntKind.wrap .i64 (x5.Files+1)}))) [(some k2,.obj 62 (aD p1))] (bP u [1,2,3,4,5,0] rfl rfl).2).1 K13) [5,0,1,2,3,4] rfl rfl
 refine nC ((dR h (hL p0K y1.2.1 ag9 ag10 ag11 gV y1.2.2.1 y1.2.2.2.1 y1.2.2.2.2 ((p0.Vols.set p1.Vol.toNat ({ x5 with State:=2})).set p1.Vol.toNat ({ ({ x5 with State:=2}:aM) with Files:=IntKind.wrap .i64 (x5.Files+1)}))) [(some k2,.obj 62 (aD p1))]).trans K14.1) (⟨⟨λ_=>aK 0 K14.2 rfl,λ_=>aK 5 K14.2 rfl,trivial⟩, ?_⟩)
 refine zC 26 rfl (WB rfl) (zX (qk (f:=aB9 220 _ _ _ _ _ _ _ _ _ _ _ _ _ _ _ _ _ _ _ _ _ _ _ _ _ _ _ _) K14.2 rfl (v0 ?_)))
 apply vi m <;> intro c11 m
 refine vs (v0 (v0 (gM m λm=>gM m λm=>gM m λm=>gM m λm=> ?_)))
 cases m
 exact vr λu=>dZ.of1 (.inl rfl) (f0 _ _ (.sc (.int _ _)) rfl) (bJ u [1,2,3,4,5] rfl).2 (bB.refl _ _) ⟨ag9,O8,ag10,O9,ag11,O10,gV,(bM.set (bM.set oV)),(bJ u [1,2,3,4,5] rfl).1,rfl,rfl⟩
 exact v0 (v0 (fB m (ag9,ag10,ag11) ⟨O8,O9,O10⟩ (lx (.k4 .nil))))
 exact v0 (mL m (ag6,ag7,ag8) ⟨O5,O6,O7⟩ (lx (.k4 .nil)))
 rintro⟨ag12,ag13,ag14⟩ ⟨r6,r7,r8,r9,r10⟩ ⟨t1,t2,t3⟩ m
 refine vs (vs (v0 (pB m (σ:=(List aH)×(List aB)×Int) (τ:=dC×dC) (λg s=>((some k2,.obj 62 (aD p1))::(hL p0K r6 g.1 g.2 ag14 gV s.1 s.2.1 r9 ((p0.Vols.set p1.Vol.toNat ({ x5 with State:=2})).set p1.Vol.toNat ({ ({ x5 with State:=2}:aM) with Files:=IntKind.wrap .i64 (x5.Files+1)}))))) (λg s=>bM g.1 4 (s.1:List aH).length∧bM g.2 35 (s.2.1:List aB).length) (λg s=>.c 0 (.ptr p0K 0) (.c 3 (.ptr k2 0) (.c 10 (wH gV.t (p1.Vol.toNat*4+0)) (.c 12 (nZ s.2.2) .nil)))) (ag12,ag13) (⟨t1,t2⟩) (lx (.k4 .nil)) ?_ ?_)))
 rintro⟨ag15,ag16⟩ ⟨q11,q12,q13⟩ x ⟨O11,O12⟩ m
 replace m:m9 w p0 p1 x5 r6 r9 q11 q12 q13=some x:=m
 unfold m9 at m
 refine vs (vs (v0 (dP gK rfl rfl (vl 0 _ kY rfl rfl rfl (cY pE rfl (v0 ?_))))))
 apply vi m <;> intro c12 m
 refine v0 (vs (v0 (vs (v0 (dP gK rfl rfl (vl 0 _ kY rfl rfl rfl (vx m wK rfl rfl λx9 _ m=>bV (o9 lR rfl rfl) (va (nZ x9.Kind) cD rfl rfl (qM m (σ:=(List aH)×(List aB)) (τ:=dC×dC) (λg s=>((some k2,.obj 62 (aD p1))::(hL p0K r6 g.1 g.2 ag14 gV s.1 s.2 r9 ((p0.Vols.set p1.Vol.toNat ({ x5 with State:=2})).set p1.Vol.toNat ({ ({ x5 with State:=2}:aM) with Files:=IntKind.wrap .i64 (x5.Files+1)}))))) (λg s=>bM g.1 4 (s.1:List aH).length∧bM g.2 35 (s.2:List aB).length) (λg s=>.c 0 (.ptr p0K 0) (.c 3 (.ptr k2 0) (.c 10 (wH gV.t (p1.Vol.toNat*4+0)) (.c 12 (nZ q13) .nil)))) (λx m=> ?_) ?_)))))))))
 refine v0 ?_
 apply vi m <;> intro c13 m
 refine v0 (dP gK rfl rfl (vl 0 _ kY rfl rfl rfl (vx m wK rfl rfl λx10 _ m=>bV (o9 uX rfl rfl) (va (nZ x10.Of) cD rfl rfl ?_))))
 obtain⟨y2,Y5,m⟩:=aC m
 refine ve λu=>dO ((bP u [1,2,3,4,5,0] rfl rfl).1.trans (dR h (hL p0K r6 ag15 ag16 ag14 gV q11 q12 r9 ((p0.Vols.set p1.Vol.toNat ({ x5 with State:=2})).set p1.Vol.toNat ({ ({ x5 with State:=2}:aM) with Files:=IntKind.wrap .i64 (x5.Files+1)}))) [(some k2,.obj 62 (aD p1))]).symm) (cR (aAB (hp h [(some k2,.obj 62 (aD p1))]) O11 O12 t3 (bM.set (bM.set oV)) (dL (hL p0K r6 ag15 ag16 ag14 gV q11 q12 r9 ((p0.Vols.set p1.Vol.toNat ({ x5 with State:=2})).set p1.Vol.toNat ({ ({ x5 with State:=2}:aM) with Files:=IntKind.wrap .i64 (x5.Files+1)}))) [(some k2,.obj 62 (aD p1))] (bP u [1,2,3,4,5,0] rfl rfl).2).2 Y5) rfl R9 rfl ?_)
 rintro x h' ⟨ag17,O13,ag18,O14,K15,rfl,rfl⟩
 have K16:=bP (L':=((some k2,.obj 62 (aD p1))::(hL p0K r6 ag17 ag18 ag14 gV y2.2.1 y2.2.2 r9 ((p0.Vols.set p1.Vol.toNat ({ x5 with State:=2})).set p1.Vol.toNat ({ ({ x5 with State:=2}:aM) with Files:=IntKind.wrap .i64 (x5.Files+1)}))))) (eL (dL (hL p0K r6 ag15 ag16 ag14 gV q11 q12 r9 ((p0.Vols.set p1.Vol.toNat ({ x5 with State:=2})).set p1.Vol.toNat ({ ({ x5 with State:=2}:aM) with Files:=IntKind.wrap .i64 (x5.Files+1)}))) [(some k2,.obj 62 (aD p1))] (bP u [1,2,3,4,5,0] rfl rfl).2).1 K15) [5,0,1,2,3,4] rfl rfl
 exact qk K16.2 ((dR h (hL p0K r6 ag17 ag18 ag14 gV y2.2.1 y2.2.2 r9 ((p0.Vols.set p1.Vol.toNat ({ x5 with State:=2})).set p1.Vol.toNat ({ ({ x5 with State:=2}:aM) with Files:=IntKind.wrap .i64 (x5.Files+1)}))) [(some k2,.obj 62 (aD p1))]).trans K16.1) (fB m (ag17,ag18) ⟨O13,O14⟩ (lx (.k4 .nil)))
 exact v0 (fB m (ag15,ag16) ⟨O11,O12⟩ (lx (.k4 .nil)))
 rintro⟨ag19,ag20⟩ ⟨j4,j5⟩ ⟨O15,O16⟩ m
 exact v0 (fB m (ag19,ag20) ⟨O15,O16⟩ (lx (.k4 .nil)))
 exact v0 (mL m (ag15,ag16) ⟨O11,O12⟩ (lx (.k4 .nil)))
 rintro⟨ag21,ag22⟩ ⟨r11,r12,r13⟩ ⟨t4,t5⟩ m
 refine vs (v0 (bV (iP (bM.ne (bM.set (bM.set oV)) (cX (x':=({ ({ x5 with State:=2}:aM) with Files:=IntKind.wrap .i64 (x5.Files+1)}:aM)) (cX (x':=({ x5 with State:=2}:aM)) X1))) rfl) (bV (cZ (bM.ne (bM.set (bM.set oV)) (cX (x':=({ ({ x5 with State:=2}:aM) with Files:=IntKind.wrap .i64 (x5.Files+1)}:aM)) (cX (x':=({ x5 with State:=2}:aM)) X1))) LO rfl rfl) (vn (λu=>eT (fo:=0) (nZ (({ ({ x5 with State:=2}:aM) with Files:=IntKind.wrap .i64 (x5.Files+1)}:aM).Pool)) (cX (x':=({ ({ x5 with State:=2}:aM) with Files:=IntKind.wrap .i64 (x5.Files+1)}:aM)) (cX (x':=({ x5 with State:=2}:aM)) X1)) eS (bM.set (bM.set oV)) cD rfl (aK 5 u rfl) (λ_=>rfl)) (qM m (σ:=(List aB)) (τ:=dC) (λg s=>((some k2,.obj 62 (aD p1))::(hL p0K r6 ag21 g ag14 gV r11 s r9 ((p0.Vols.set p1.Vol.toNat ({ x5 with State:=2})).set p1.Vol.toNat ({ ({ x5 with State:=2}:aM) with Files:=IntKind.wrap .i64 (x5.Files+1)}))))) (λg s=>bM g 35 (s:List aB).length) (λg s=>.nil) (λx m=> ?_) ?_)))))
 refine v0 ?_
 apply vi m <;> intro c14 m
 refine vs (v0 (pB m (σ:=(List aB)×Int) (τ:=dC) (λg s=>((some k2,.obj 62 (aD p1))::(hL p0K r6 ag21 g ag14 gV r11 s.1 r9 ((p0.Vols.set p1.Vol.toNat ({ x5 with State:=2})).set p1.Vol.toNat ({ ({ x5 with State:=2}:aM) with Files:=IntKind.wrap .i64 (x5.Files+1)}))))) (λg s=>bM g 35 (s.1:List aB).length) (λg s=>.c 0 (.ptr p0K 0) (.c 3 (.ptr k2 0) (.c 13 (nZ s.2) .nil))) ag22 t5 (lx (.k3 .nil)) ?_ ?_))
 rintro ag23 ⟨q14,q15⟩ x O17 m
 replace m:nN w p0 p1 x5 r6 r9 r11 q14 q15=some x:=m
 unfold nN at m
 refine vs (vs (v0 (dP gK rfl rfl (vl 0 _ kY rfl rfl rfl (cY pE rfl (v0 ?_))))))
 apply vi m <;> intro c15 m
 refine v0 (vs (v0 (vs (v0 (dP gK rfl rfl (vl 0 _ kY rfl rfl rfl (vx m wK rfl rfl λx11 _ m=>bV (o9 lR rfl rfl) (va (nZ x11.Kind) cD rfl rfl (qM m (σ:=(List aB)) (τ:=dC) (λg s=>((some k2,.obj 62 (aD p1))::(hL p0K r6 ag21 g ag14 gV r11 s r9 ((p0.Vols.set p1.Vol.toNat ({ x5 with State:=2})).set p1.Vol.toNat ({ ({ x5 with State:=2}:aM) with Files:=IntKind.wrap .i64 (x5.Files+1)}))))) (λg s=>bM g 35 (s:List aB).length) (λg s=>.c 0 (.ptr p0K 0) (.c 3 (.ptr k2 0) (.c 13 (nZ q15) .nil))) (λx m=> ?_) ?_)))))))))
 refine v0 ?_
 apply vi m <;> intro c16 m
 refine vs (v0 (zM (by kernel_rfl) (kQ rfl (vl 1 (.agg ([nZ r6,aZ ag21,aZ ag23,aZ ag14,aZ gV])) eP rfl rfl rfl (dP gK rfl rfl (vl 0 _ kY rfl rfl rfl (vx m wK rfl rfl λx12 _ m=>bV (o9 uW rfl rfl) (va (.agg (bH x12.Id)) fL rfl rfl ?_))))))))
 obtain⟨_,Y6,m⟩:=aC m
 refine vn (λu=>cB (fA (.cons (Br.agg (.cons (Br.refl _ _) (.cons (Br.aw 2 eC t4 u rfl) (.cons (Br.aw 3 cL O17 u rfl) (.cons (Br.aw 4 fY t3 u rfl) (.cons (Br.aw 5 eS (bM.set (bM.set oV)) u rfl) .nil)))))) (.cons (Br.refl _ _) .nil)) rfl (W88 _ Y6)) rfl PU rfl) (vs (v0 (qM m (σ:=(List aB)) (τ:=dC) (λg s=>((some k2,.obj 62 (aD p1))::(hL p0K r6 ag21 g ag14 gV r11 s r9 ((p0.Vols.set p1.Vol.toNat ({ x5 with State:=2})).set p1.Vol.toNat ({ ({ x5 with State:=2}:aM) with Files:=IntKind.wrap .i64 (x5.Files+1)}))))) (λg s=>bM g 35 (s:List aB).length) (λg s=>.c 0 (.ptr p0K 0) (.c 3 (.ptr k2 0) (.c 13 (nZ q15) .nil))) (λx m=> ?_) ?_)))
 refine v0 ?_
 apply vi m <;> intro c17 m
 refine v0 (vz [(1000000,some p0K,.obj 30 ([nZ r6,aZ ag21,aZ ag23,aZ ag14,aZ gV]))] mixed (λu=>⟨λ_=>aK 1 u rfl,trivial⟩) λu=>zP 0 rfl rfl (zN 1 rfl rfl (zF 2 rfl eG rfl (zL 3 0 (aZ ag23) rfl eO rfl rfl rfl (zI 4 rfl rfl (zP 5 rfl rfl (zN 6 rfl rfl (zF 7 rfl eG rfl (zL 8 0 (aZ ag23) rfl eO rfl rfl rfl (zI 9 rfl rfl ?_))))))))))
 obtain⟨x13,X5,m⟩:=aC m
 refine zC 10 rfl (dJ X5 fH O17 rfl rfl) (zC 11 rfl (cZ (bM.ne O17 X5) oJ rfl rfl) (zE 12 rfl (dA (fo:=32) ({ x13 with Staged:=false}:aB) 3 u X5 cL O17 rfl rfl rfl rfl (cU.refl _ _) VP rfl rfl λK17=>⟨⟨λ_=>aK 1 K17 rfl,trivial⟩, ?_⟩)))
 obtain⟨x14,X6,m⟩:=aC m
 refine zC 13 rfl (dJ X6 fH (bM.set O17) rfl rfl) (zC 14 rfl (cZ (bM.ne (bM.set O17) X6) jP rfl rfl) (zE 15 rfl (dA (fo:=33) ({ x14 with Data:=([]:List Int)}:aB) 3 K17 X6 cL (bM.set O17) rfl rfl rfl rfl (.cons (aR _) .nil) CE rfl rfl λK18=>⟨⟨λ_=>aK 1 K18 rfl,trivial⟩, ?_⟩)))
 exact zX (qk (f:=S1 287 _ _ _ _ _ _ _ _ _ _ _ _ _ _ _) K18 rfl (fB m ag23 (bM.set (bM.set O17)) (lx (.k3 .nil))))
 exact v0 (fB m ag23 O17 (lx (.k3 .nil)))
 rintro ag24 j6 O18 m
 exact fB m ag24 O18 (lx (.k3 .nil))
 exact v0 (fB m ag23 O17 (lx (.k3 .nil)))
 rintro ag25 j7 O19 m
 exact v0 (fB m ag25 O19 (lx (.k3 .nil)))
 exact v0 (mL m ag23 O17 (lx (.k3 .nil)))
 rintro ag26 ⟨r14,r15⟩ t6 m
 exact fB m ag26 t6 (lx .nil)
 exact v0 (fB m ag22 t5 (lx .nil))
 rintro ag27 j8 O20 m
 exact fB m (ag21,ag27,ag14,gV) ⟨t4,O20,t3,(bM.set (bM.set oV))⟩ (lx .nil)
 refine vs (v0 (qM m (σ:=fD) (τ:=dC×dC×dC×dC) (λg s=>((some k2,.obj 62 (aD p1))::(hL p0K p0.Seq g.1 g.2.1 g.2.2.1 g.2.2.2 s.1 s.2.1 s.2.2.1 s.2.2.2))) (λg s=>bM g.1 4 (s.1:List aH).length∧bM g.2.1 35 (s.2.1:List aB).length∧bM g.2.2.1 3 (s.2.2.1:List aS).length∧bM g.2.2.2 4 (s.2.2.2:List aM).length) (λg s=>.nil) (λx m=> ?_) ?_))
 refine v0 ?_
 apply vi m <;> intro c18 m
 refine vs (vs (v0 (dP iS rfl rfl (vl 0 _ cD rfl rfl rfl ?_))))
 obtain⟨_,Y7,m⟩:=aC m
 refine ve λu=>dO ((bP u [1,2,3,4,5,0] rfl rfl).1.trans (dR h (hC p0K p0 gS gC gE gV) [(some k2,.obj 62 (aD p1))]).symm) (cR (UL (hp h [(some k2,.obj 62 (aD p1))]) ok_Snaps oC oE oV (dL (hC p0K p0 gS gC gE gV) [(some k2,.obj 62 (aD p1))] (bP u [1,2,3,4,5,0] rfl rfl).2).2 Y7) rfl NG rfl ?_)
 rintro x h' ⟨K19,rfl,rfl⟩
 have K20:=bP (L':=((some k2,.obj 62 (aD p1))::(hC p0K p0 gS gC gE gV))) (eL (dL (hC p0K p0 gS gC gE gV) [(some k2,.obj 62 (aD p1))] (bP u [1,2,3,4,5,0] rfl rfl).2).1 K19) [5,0,1,2,3,4] rfl rfl
 refine qk K20.2 ((dR h (hC p0K p0 gS gC gE gV) [(some k2,.obj 62 (aD p1))]).trans K20.1) (v0 ?_)
 apply vi m <;> intro c19 m
 refine vs (v0 (v0 (gM m λm=>gM m λm=>gM m λm=>gM m λm=> ?_)))
 cases m
 exact vr λu=>dZ.of1 (.inl rfl) (f0 _ _ (.sc (.int _ _)) rfl) (bJ u [1,2,3,4,5] rfl).2 (bB.refl _ _) ⟨gS,ok_Snaps,gC,oC,gE,oE,gV,oV,(bJ u [1,2,3,4,5] rfl).1,rfl,rfl⟩
 refine v0 (vs (v0 (vz [(1000000,some p0K,.obj 30 ([nZ p0.Seq,aZ gS,aZ gC,aZ gE,aZ gV])),(1000000,some k2,.obj 62 (aD p1))] mixed (λu=>⟨λ_=>aK 1 u rfl,λ_=>aK 0 u rfl,trivial⟩) λu=>zP 0 rfl rfl (zN 1 rfl rfl (zF 2 rfl iR rfl (zL 3 0 (aZ gV) rfl kJ rfl rfl rfl (zF 4 rfl iS rfl (zL 5 1 (nZ p1.Vol) rfl cD rfl rfl rfl (zP 6 rfl rfl (zN 7 rfl rfl (zF 8 rfl iR rfl (zL 9 0 (aZ gV) rfl kJ rfl rfl rfl (zF 10 rfl iS rfl (zL 11 1 (nZ p1.Vol) rfl cD rfl rfl rfl ?_))))))))))))))
 obtain⟨x15,X7,m⟩:=aC m
 refine zC 12 rfl (dJ X7 pD oV rfl rfl) (zC 13 rfl (cZ (bM.ne oV X7) rH rfl rfl) (zE 14 rfl (dA (fo:=2) ({ x15 with State:=3}:aM) 5 u X7 eS oV rfl rfl rfl rfl (cU.refl _ _) DN rfl rfl λK21=>⟨⟨λ_=>aK 1 K21 rfl,λ_=>aK 0 K21 rfl,trivial⟩, ?_⟩)))
 obtain⟨x16,X8,m⟩:=aC m
 refine zC 15 rfl (dJ X8 pD (bM.set oV) rfl rfl) (zC 16 rfl (cZ (bM.ne (bM.set oV) X8) rI rfl rfl) (zE 17 rfl (dA (fo:=3) ({ x16 with Files:=0}:aM) 5 K21 X8 eS (bM.set oV) rfl rfl rfl rfl (cU.refl _ _) DN rfl rfl λK22=>⟨⟨λ_=>aK 1 K22 rfl,λ_=>aK 0 K22 rfl,trivial⟩, ?_⟩)))
 refine zX (qk (f:=WQ 310 _ _ _ _ _ _ _ _ _ _ _ _ _ _ _ _ _) K22 rfl (vs (v0 (vs (vs (v0 (rE (FG (.obj 44 (fl aI ([]:List aB) g0.sp)) 15 (aZ g0) (fP _)) (pB m (σ:=(List aB)×Int) (τ:=dC) (λg s=>((dG g s.1)::(some k2,.obj 62 (aD p1))::(hL p0K p0.Seq gS gC gE gV p0.Snaps p0.Chunks p0.Exps ((p0.Vols.set p1.Vol.toNat ({ x15 with State:=3})).set p1.Vol.toNat ({ x16 with Files:=0}))))) (λg s=>bM g 35 (s.1:List aB).length) (λg s=>.c 0 (.ptr p0K 0) (.c 3 (.ptr k2 0) (.c 15 (aZ g) (.c 16 (nZ s.2) .nil)))) g0 (bM.g0 35) (lx (.k4 .nil)) ?_ ?_))))))))
 rintro ag28 ⟨q16,q17⟩ x O21 m
 replace m:tZ w p0 p1 q16 q17=some x:=m
 unfold tZ at m
 refine vs (vs (v0 (kQ rfl (dP eG rfl rfl (vl 2 (aZ gC) eO rfl rfl rfl (bV (eR jG oC rfl) (v0 ?_)))))))
 apply vi m <;> intro c20 m
 refine v0 (vs (v0 (vs (v0 (kQ rfl (dP eG rfl rfl (vl 2 (aZ gC) eO rfl rfl rfl ?_)))))))
 obtain⟨x17,X9,m⟩:=aC m
 refine bV (dJ X9 fH oC rfl rfl) (vn (λu=>eT (fo:=0) (.agg (aI x17)) X9 cL oC nT rfl (aK 4 u rfl) (λ_=>rfl)) (ve λu=>bG (bH jI++(OB:List AV)) u oK rfl rfl λk15855 K23=>qk K23 rfl (ve λu=>aJ 0 (aI x17) u rfl rfl rfl rfl CF rfl rfl λK24=>qk K24 rfl (vs (v0 (dP jQ rfl rfl (vl 0 _ fM rfl rfl rfl (dP iS rfl rfl (vl 2 _ cD rfl rfl rfl (vk UK NF m rfl rfl λy3 m=>dP jQ rfl rfl (ve λu=>aJ 0 (aI { x17 with Locs:=y3}) u rfl rfl rfl rfl pT rfl rfl λK25=>qk K25 rfl (vs (fQ m (σ:=Bool) (λs=>((some k15855,.obj 44 (aI { x17 with Locs:=y3}))::(dG ag28 q16)::(some k2,.obj 62 (aD p1))::(hL p0K p0.Seq gS gC gE gV p0.Snaps p0.Chunks p0.Exps ((p0.Vols.set p1.Vol.toNat ({ x15 with State:=3})).set p1.Vol.toNat ({ x16 with Files:=0}))))) (λs=>.c 0 (.ptr p0K 0) (.c 3 (.ptr k2 0) (.c 15 (aZ ag28) (.c 16 (nZ q17) (.c 17 (.ptr k15855 0) (.c 340 (.sc (.bool s)) .nil)))))) (λx m=> ?_) ?_)))))))))))))
 refine v0 (dP oJ rfl rfl (vl 0 _ DO rfl rfl rfl ?_))
 apply vi m <;> intro b7 m
 rw[b7]
 exact rG m
 rw[b7]
 exact dP jQ rfl rfl (vl 0 _ fM rfl rfl rfl (cY jO rfl (rG m)))
 rintro _ j9 m
 refine qM m (σ:=(List aB)) (τ:=dC) (λg s=>((some k15855,.obj 44 (aI { x17 with Locs:=y3}))::(dG g s)::(some k2,.obj 62 (aD p1))::(hL p0K p0.Seq gS gC gE gV p0.Snaps p0.Chunks p0.Exps ((p0.Vols.set p1.Vol.toNat ({ x15 with State:=3})).set p1.Vol.toNat ({ x16 with Files:=0}))))) (λg s=>bM g 35 (s:List aB).length) (λg s=>.c 0 (.ptr p0K 0) (.c 3 (.ptr k2 0) (.c 15 (aZ g) (.c 16 (nZ q17) .nil)))) (λx m=> ?_) ?_
 refine v0 ?_
 apply vi m <;> intro c21 m
 refine v0 (vl 0 (.agg (aI { x17 with Locs:=y3})) nT rfl rfl rfl (bV (eD (List.map aI ([{ x17 with Locs:=y3}]:List aB)) lK rfl rfl rfl rfl) ?_))
 obtain⟨z1,Z1,m⟩:=aC m
 exact ve λu=>fS (c:=aI) 1 Z1 lK rfl oK rfl cL rfl rfl O21 u rfl λag29 O22 K26=>qk K26 rfl (fB m ag29 O22 (lx (.k4 .nil)))
 exact v0 (fB m ag28 O21 (lx (.k4 .nil)))
 rintro ag30 j10 O23 m
 exact v0 (fB m ag30 O23 (nD [1,2,3,4,5,6,7] rfl rfl (.k4 .nil)))
 exact v0 (mL m ag28 O21 (lx (.k4 .nil)))
 rintro ag31 ⟨r16,r17⟩ t7 m
 refine vs (v0 (kQ rfl (dP eG rfl rfl (ve λu=>aJ 2 ([nZ p0.Seq,aZ gS,aZ ag31,aZ gE,aZ gV]) u rfl rfl (cG rfl) (cE (bZ _ _ _) rfl) CC rfl rfl λK27=>qk K27 rfl (vs (vs (v0 (pB m (σ:=(List aH)×Int) (τ:=dC) (λg s=> [(dG ag31 r16),(some k2,.obj 62 (aD p1)),(hO p0K p0.Seq g ag31 gE gV),(dH g s.1),(dG gC p0.Chunks),(jR gE p0.Exps),(lC gV ((p0.Vols.set p1.Vol.toNat ({ x15 with State:=3})).set p1.Vol.toNat ({ x16 with Files:=0})))]) (λg s=>bM g 4 (s.1:List aH).length) (λg s=>.c 0 (.ptr p0K 0) (.c 3 (.ptr k2 0) (.c 18 (nZ s.2) .nil))) gS ok_Snaps (lx (.k3 .nil)) ?_ ?_))))))))
 rintro ag32 ⟨q18,q19⟩ x O24 m
 replace m:uA w p1 q18 q19=some x:=m
 unfold uA at m
 refine vs (vs (v0 (kQ rfl (dP dQ rfl rfl (vl 2 (aZ ag32) eV rfl rfl rfl (bV (eR iQ O24 rfl) (v0 ?_)))))))
 apply vi m <;> intro c22 m
 refine v0 (vs (v0 (v0 (vz [(1000000,some p0K,.obj 30 ([nZ p0.Seq,aZ ag32,aZ ag31,aZ gE,aZ gV])),(18,ag32.t,.obj 60 (fl bK (q18:List aH) ag32.sp)),(1000000,some k2,.obj 62 (aD p1))] mixed (λu=>⟨λ_=>aK 2 u rfl,λ_=>aK 3 u rfl,λ_=>aK 1 u rfl,trivial⟩) λu=>zP 0 rfl rfl (zN 1 rfl rfl (zF 2 rfl dQ rfl (zL 3 0 (aZ ag32) rfl eV rfl rfl rfl (zI 4 rfl rfl (zP 5 rfl rfl (zN 6 rfl rfl (zF 7 rfl dQ rfl (zL 8 0 (aZ ag32) rfl eV rfl rfl rfl (zI 9 rfl rfl ?_)))))))))))))
 obtain⟨x18,X10,m⟩:=aC m
 refine zC 10 rfl (dJ X10 iX O24 rfl rfl) (zC 11 rfl (cZ (bM.ne O24 X10) kO rfl rfl) (zR 12 rfl (λ_ _ hi hB=>eT (fo:=3) (.sl none 4 (List.map aQ x18.Locs)) X10 eC O24 fM rfl (f8.get 1 hi rfl (hB 18 (by kernel_rfl))) (λ_=>rfl)) (zF 13 rfl iS rfl (zL 14 2 (nZ p1.Vol) rfl cD rfl rfl rfl ?_))))
 obtain⟨y4,Y8,m⟩:=aC m
 refine zC 15 rfl (cB (UK _ Y8) rfl NF rfl) ?_
 obtain⟨x19,X11,m⟩:=aC m
 refine zC 16 rfl (dJ X11 iX O24 rfl rfl) (zC 17 rfl (cZ (bM.ne O24 X11) kO rfl rfl) (zE 18 rfl (dA (fo:=3) ({ x19 with Locs:=y4}:aH) 3 u X11 eC O24 rfl rfl rfl rfl (cU.refl _ _) pT rfl rfl λK28=>⟨⟨λ_=>aK 2 K28 rfl,λe=>absurd e (by decide),λ_=>aK 1 K28 rfl,trivial⟩, ?_⟩)))
 exact zX (qk (f:=aB7 375 _ _ _ _ _ _ _ _ _ _ _ _ _ _ _ _ _ _ _) K28 rfl (v0 (fB m ag32 (bM.set O24) (lx (.k3 .nil)))))
 exact v0 (mL m ag32 O24 (lx (.k3 .nil)))
 rintro ag33 ⟨r18,r19⟩ t8 m
 refine vs (v0 (vs (vs (v0 (rE (FG (.obj 99 (fl cV ([]:List aS) g0.sp)) 19 (aZ g0) (fP _)) (pB m (σ:=(List aS)×Int) (τ:=dC) (λg s=> [(jR g s.1),(dG ag31 r16),(some k2,.obj 62 (aD p1)),(hO p0K p0.Seq ag33 ag31 gE gV),(dH ag33 r18),(dG gC p0.Chunks),(jR gE p0.Exps),(lC gV ((p0.Vols.set p1.Vol.toNat ({ x15 with State:=3})).set p1.Vol.toNat ({ x16 with Files:=0})))]) (λg s=>bM g 3 (s.1:List aS).length) (λg s=>.c 0 (.ptr p0K 0) (.c 3 (.ptr k2 0) (.c 19 (aZ g) (.c 20 (nZ s.2) .nil)))) g0 (bM.g0 3) (lx (.k4 .nil)) ?_ ?_))))))
 rintro ag34 ⟨q20,q21⟩ x O25 m
 replace m:uB w p0 p1 q20 q21=some x:=m
 unfold uB at m
 refine vs (vs (v0 (kQ rfl (dP fK rfl rfl (vl 3 (aZ gE) jN rfl rfl rfl (bV (eR qN oE rfl) (v0 ?_)))))))
 apply vi m <;> intro c23 m
 refine v0 (vs (v0 (vs (v0 (kQ rfl (dP fK rfl rfl (vl 3 (aZ gE) jN rfl rfl rfl ?_)))))))
 obtain⟨x20,X12,m⟩:=aC m
 refine bV (dJ X12 jY oE rfl rfl) (vn (λu=>eT (fo:=0) (.agg (cV x20)) X12 fY oE CL rfl (aK 6 u rfl) (λ_=>rfl)) (ve λu=>bG ([nZ 0,nZ 0,sZ]) u u6 rfl rfl λk16100 K29=>qk K29 rfl (ve λu=>aJ 0 (cV x20) u rfl rfl rfl rfl L2 rfl rfl λK30=>qk K30 rfl (vs (v0 (dP mY rfl rfl (vl 0 _ fM rfl rfl rfl (dP iS rfl rfl (vl 3 _ cD rfl rfl rfl (vk UK NF m rfl rfl λy5 m=>dP mY rfl rfl (ve λu=>aJ 0 (cV { x20 with Locs:=y5}) u rfl rfl rfl rfl pT rfl rfl λK31=>qk K31 rfl (vs (v0 (dP mY rfl rfl (vl 0 _ fM rfl rfl rfl (cY jO rfl (qM m (σ:=(List aS)) (τ:=dC) (λg s=> [(some k16100,.obj 99 (cV { x20 with Locs:=y5})),(jR g s),(dG ag31 r16),(some k2,.obj 62 (aD p1)),(hO p0K p0.Seq ag33 ag31 gE gV),(dH ag33 r18),(dG gC p0.Chunks),(jR gE p0.Exps),(lC gV ((p0.Vols.set p1.Vol.toNat ({ x15 with State:=3})).set p1.Vol.toNat ({ x16 with Files:=0})))]) (λg s=>bM g 3 (s:List aS).length) (λg s=>.c 0 (.ptr p0K 0) (.c 3 (.ptr k2 0) (.c 19 (aZ g) (.c 20 (nZ q21) .nil)))) (λx m=> ?_) ?_)))))))))))))))))
 refine v0 ?_
 apply vi m <;> intro c24 m
 refine v0 (vl 0 (.agg (cV { x20 with Locs:=y5})) CL rfl rfl rfl (bV (eD (List.map cV ([{ x20 with Locs:=y5}]:List aS)) pC rfl rfl rfl rfl) ?_))
 obtain⟨z2,Z2,m⟩:=aC m
 exact ve λu=>fS (c:=cV) 1 Z2 pC rfl u6 rfl fY rfl rfl O25 u rfl λag35 O26 K32=>qk K32 rfl (fB m ag35 O26 (lx (.k4 .nil)))
 exact v0 (fB m ag34 O25 (lx (.k4 .nil)))
 rintro ag36 j11 O27 m
 exact v0 (fB m ag36 O27 (nD [1,2,3,4,5,6,7,8] rfl rfl (.k4 .nil)))
 exact v0 (mL m ag34 O25 (lx (.k4 .nil)))
 rintro ag37 ⟨r20,r21⟩ t9 m
 exact v0 (kQ rfl (dP fK rfl rfl (ve λu=>aJ 3 ([nZ p0.Seq,aZ ag33,aZ ag31,aZ ag37,aZ gV]) u rfl rfl (cG rfl) (cE (bZ _ _ _) rfl) LM rfl rfl λK33=>qk K33 rfl (fB m (ag33,ag31,ag37,gV) ⟨t8,t7,t9,(bM.set (bM.set oV))⟩ (nD [2,3,4,1,0,7] rfl rfl .nil)))))
 refine vs (v0 (qM m (σ:=(List aM)) (τ:=dC) (λg s=>((some k2,.obj 62 (aD p1))::(hL p0K p0.Seq gS gC gE g p0.Snaps p0.Chunks p0.Exps s))) (λg s=>bM g 4 (s:List aM).length) (λg s=>.nil) (λx m=> ?_) ?_))
 refine v0 ?_
 apply vi m <;> intro c25 m
 refine vs (vs (v0 (dP iS rfl rfl (vl 0 _ cD rfl rfl rfl ?_))))
 obtain⟨_,Y9,m⟩:=aC m
 refine ve λu=>dO ((bP u [1,2,3,4,5,0] rfl rfl).1.trans (dR h (hC p0K p0 gS gC gE gV) [(some k2,.obj 62 (aD p1))]).symm) (cR (UL (hp h [(some k2,.obj 62 (aD p1))]) ok_Snaps oC oE oV (dL (hC p0K p0 gS gC gE gV) [(some k2,.obj 62 (aD p1))] (bP u [1,2,3,4,5,0] rfl rfl).2).2 Y9) rfl NG rfl ?_)
 rintro x h' ⟨K34,rfl,rfl⟩
 have K35:=bP (L':=((some k2,.obj 62 (aD p1))::(hC p0K p0 gS gC gE gV))) (eL (dL (hC p0K p0 gS gC gE gV) [(some k2,.obj 62 (aD p1))] (bP u [1,2,3,4,5,0] rfl rfl).2).1 K34) [5,0,1,2,3,4] rfl rfl
 refine qk K35.2 ((dR h (hC p0K p0 gS gC gE gV) [(some k2,.obj 62 (aD p1))]).trans K35.1) (v0 ?_)
 apply vi m <;> intro c26 m
 refine vs (v0 (v0 (gM m λm=>gM m λm=>gM m λm=>gM m λm=>gM m λm=> ?_)))
 cases m
 exact vr λu=>dZ.of1 (.inl rfl) (f0 _ _ (.sc (.int _ _)) rfl) (bJ u [1,2,3,4,5] rfl).2 (bB.refl _ _) ⟨gS,ok_Snaps,gC,oC,gE,oE,gV,oV,(bJ u [1,2,3,4,5] rfl).1,rfl,rfl⟩
 refine v0 (v0 (vz [(1000000,some p0K,.obj 30 ([nZ p0.Seq,aZ gS,aZ gC,aZ gE,aZ gV])),(1000000,some k2,.obj 62 (aD p1)),(24,gV.t,.obj 49 (fl cS (p0.Vols:List aM) gV.sp))] mixed (λu=>⟨λ_=>aK 1 u rfl,λ_=>aK 0 u rfl,λ_=>aK 5 u rfl,trivial⟩) λu=>zP 0 rfl rfl (zN 1 rfl rfl (zF 2 rfl iR rfl (zL 3 0 (aZ gV) rfl kJ rfl rfl rfl (zF 4 rfl iS rfl (zL 5 1 (nZ p1.Vol) rfl cD rfl rfl rfl (zP 6 rfl rfl (zN 7 rfl rfl (zF 8 rfl iR rfl (zL 9 0 (aZ gV) rfl kJ rfl rfl rfl (zF 10 rfl iS rfl (zL 11 1 (nZ p1.Vol) rfl cD rfl rfl rfl (zP 12 rfl rfl (zN 13 rfl rfl (zF 14 rfl iR rfl (zL 15 0 (aZ gV) rfl kJ rfl rfl rfl (zF 16 rfl iS rfl (zL 17 1 (nZ p1.Vol) rfl cD rfl rfl rfl ?_)))))))))))))))))))
 obtain⟨x21,X13,m⟩:=aC m
 refine zC 18 rfl (dJ X13 pD oV rfl rfl) (zC 19 rfl (cZ (bM.ne oV X13) LP rfl rfl) (zR 20 rfl (λ_ _ hi hB=>eT (fo:=1) (nZ x21.Epoch) X13 eS oV cD rfl (f8.get 2 hi rfl (hB 24 (by kernel_rfl))) (λ_=>rfl)) (zC 21 rfl (lJ rfl rfl rfl trivial) ?_)))
 obtain⟨x22,X14,m⟩:=aC m
 refine zC 22 rfl (dJ X14 pD oV rfl rfl) (zC 23 rfl (cZ (bM.ne oV X14) rH rfl rfl) (zE 24 rfl (dA (fo:=2) ({ x22 with State:=1}:aM) 5 u X14 eS oV rfl rfl rfl rfl (cU.refl _ _) DN rfl rfl λK36=>⟨⟨λ_=>aK 1 K36 rfl,λ_=>aK 0 K36 rfl,λe=>absurd e (by decide),trivial⟩, ?_⟩)))
 obtain⟨x23,X15,m⟩:=aC m
 refine zC 25 rfl (dJ X15 pD (bM.set oV) rfl rfl) (zC 26 rfl (cZ (bM.ne (bM.set oV) X15) LP rfl rfl) (zE 27 rfl (dA (fo:=1) ({ x23 with Epoch:=IntKind.wrap .i64 (x21.Epoch+1)}:aM) 5 K36 X15 eS (bM.set oV) rfl rfl rfl rfl (cU.refl _ _) DN rfl rfl λK37=>⟨⟨λ_=>aK 1 K37 rfl,λ_=>aK 0 K37 rfl,λe=>absurd e (by decide),trivial⟩, ?_⟩)))
 exact zX (qk (f:=aB8 442 _ _ _ _ _ _ _ _ _ _ _ _ _ _ _ _ _ _ _ _ _ _ _ _ _ _ _) K37 rfl (fB m gV (bM.set (bM.set oV)) (lx .nil)))
 exact v0 (fB m gV oV (lx .nil))
 rintro ag38 j12 O28 m
 exact fB m (gS,gC,gE,ag38) ⟨ok_Snaps,oC,oE,O28⟩ (lx .nil)
 rintro⟨ag39,ag40,ag41,ag42⟩ ⟨j13,j14,j15,j16⟩ ⟨O29,O30,O31,O32⟩ m
 exact fB m (ag39,ag40,ag41,ag42) ⟨O29,O30,O31,O32⟩ (lx .nil)
 rintro⟨ag43,ag44,ag45,ag46⟩ ⟨j17,j18,j19,j20,j21⟩ ⟨O33,O34,O35,O36⟩ m
 exact fB m (ag43,ag44,ag45,ag46) ⟨O33,O34,O35,O36⟩ (lx .nil)
 rintro⟨ag47,ag48,ag49,ag50⟩ ⟨j22,j23,j24,j25,j26⟩ ⟨O37,O38,O39,O40⟩ m
 exact fB m (ag47,ag48,ag49,ag50) ⟨O37,O38,O39,O40⟩ (lx .nil)
 rintro⟨ag51,ag52,ag53,ag54⟩ ⟨j27,j28,j29,j30,j31⟩ ⟨O41,O42,O43,O44⟩ m
 refine vs (v0 (v0 ?_))
 cases m
 exact vr λu=>dZ.of1 (.inl rfl) (f0 _ _ (.sc (.int _ _)) rfl) (bJ u [1,2,3,4,5] rfl).2 (bB.refl _ _) ⟨ag51,O41,ag52,O42,ag53,O43,ag54,O44,(bJ u [1,2,3,4,5] rfl).1,rfl,rfl⟩
theorem aE7:aP Tryz.prog 91=true:=by kernel_rfl
open Go.Vm
def E4 (m:Nat) (p0:aA) (p1:aN):Option (aA×Int):=
 after ((TR m p0).bind λy0=>if (!y0)=true then (some (.brk true)) else if (decide (p1.Kind < 1))=true then (some (.brk true)) else some (.brk (decide (5 < p1.Kind))):Option (Lp (Bool) (aA×Int))) λj0=>if j0=true then (some (({ Seq:=0,Snaps:= [],Chunks:= [],Exps:= [],Vols:= []}:aA),1)) else (QH m p0).bind λy1=>(Z8 m p1).bind λy2=>(rU m ({ Seq:=y1.Seq,Snaps:=y1.Snaps,Chunks:=y1.Chunks,Exps:=y1.Exps,Vols:=y1.Vols}:aA) y2).bind λy3=>if (y3.1 !=0)=true then (some (({ Seq:=0,Snaps:= [],Chunks:= [],Exps:= [],Vols:= []}:aA),y3.1)) else (TR m ({ Seq:=y3.2.1,Snaps:=y3.2.2.1,Chunks:=y3.2.2.2.1,Exps:=y3.2.2.2.2.1,Vols:=y3.2.2.2.2.2}:aA)).bind λy4=>if (!y4)=true then (some (({ Seq:=0,Snaps:= [],Chunks:= [],Exps:= [],Vols:= []}:aA),1)) else some (({ Seq:=y3.2.1,Snaps:=y3.2.2.1,Chunks:=y3.2.2.2.1,Exps:=y3.2.2.2.2.1,Vols:=y3.2.2.2.2.2}:aA),0)
theorem W36 {w:Nat} {p0:aA} {p1:aN} {o:aA×Int} (h:aE) (m:E4 w p0 p1=some o):
 aL Tryz.prog 36 [.agg (aF p0),.agg (aD p1)] h (λr h'=>r= .tup [.agg (aF o.1),nZ o.2]∧h'=h):=by
 refine fT 36 [.cell 4 30,.tmp 5] Tryz.func36 rfl rfl rfl rfl ?_
 unfold E4 at m
 refine vs (v0 (hX rfl rfl λk2 K3=>hX rfl rfl λk5 K6=>ve λu=>bG (gO) u oH rfl rfl λk8 K9=>qk K9 rfl (vs (vs (fQ m (σ:=Bool) (λs=> [(some k8,.obj 30 (gO)),(some k5,.obj 62 (aD p1)),(some k2,.obj 30 (aF p0))]) (λs=>.c 2 (.ptr k2 0) (.c 3 (.ptr k5 0) (.c 4 (.ptr k8 0) (.c 20 (.sc (.bool s)) .nil)))) (λx m=> ?_) ?_)))))
 refine v0 (vl 2 (.agg (aF p0)) eP rfl rfl rfl (vk W89 XQ m rfl rfl λ_ m=> ?_))
 apply vi m <;> intro b0 m
 rw[b0]
 exact gJ m
 rw[b0]
 refine dP CG rfl rfl (vl 1 _ cD rfl rfl rfl ?_)
 apply vi m <;> intro b1 m
 rw[b1]
 exact gJ m
 rw[b1]
 exact dP CG rfl rfl (vl 1 _ cD rfl rfl rfl (gJ m))
 rintro _ j0 m
 refine v0 ?_
 apply vi m <;> intro c0 m
 refine vs (v0 (bV (eK (gO) CD rfl) (ve λu=>aJ 0 (gO) u rfl rfl rfl rfl kX rfl rfl λK0=>qk K0 rfl (v0 ?_))))
 cases m
 exact vr λu=>dZ.of2 (.inl rfl) (qT (.agg (gO)) eP rfl (aX 0 u rfl) rfl) (f0 _ _ (.sc (.int _ _)) rfl) (aW (List.nil_sublist _) u).1 (bB.agg (.cons (bB.refl _ _) (.cons (aR _) (.cons (aR _) (.cons (aR _) (.cons (aR _) .nil)))))) (bB.refl _ _) ⟨rfl,rfl⟩
 refine v0 (vs (v0 (vl 2 (.agg (aF p0)) eP rfl rfl rfl ?_)))
 obtain⟨y0,Y0,m⟩:=aC m
 refine ve λu=>cR (aE2 _ Y0) rfl aD3 rfl ?_
 rintro x h' ⟨ag0,O0,ag1,O1,ag2,O2,ag3,O3,K1,rfl,rfl⟩
 refine qk (eL u K1) (dR h [(dH ag0 y0.Snaps),(dG ag1 y0.Chunks),(jR ag2 y0.Exps),(lC ag3 y0.Vols)] [(some k8,.obj 30 (gO)),(some k5,.obj 62 (aD p1)),(some k2,.obj 30 (aF p0))]) (ve λu=>bG (gO) u oH rfl rfl λk42 K2=>qk K2 rfl (ve λu=>aJ 0 ([nZ y0.Seq,aZ ag0,aZ ag1,aZ ag2,aZ ag3]) u rfl rfl rfl (by repeat (first | exact rfl | refine cE (iE _ _ _) ?_ | refine cE (bZ _ _ _) ?_ | refine cE (fV _ _ _ _) ?_ | refine cE rfl ?_)) kX rfl rfl λK4=>qk K4 rfl ?_))
 refine vs (v0 (vl 6 (.agg (aD p1)) pG rfl rfl rfl (vk W92 aE4 m rfl rfl λ_ m=> ?_)))
 obtain⟨y1,Y1,m⟩:=aC m
 refine ve λu=>dO ((bP u [0,1,2,3,4,5,6,7] rfl rfl).1.trans (dR h (hC k42 y0 ag0 ag1 ag2 ag3) [(some k8,.obj 30 (gO)),(some k5,.obj 62 (aD p1)),(some k2,.obj 30 (aF p0))]).symm) (cR (W91 (hp h [(some k8,.obj 30 (gO)),(some k5,.obj 62 (aD p1)),(some k2,.obj 30 (aF p0))]) O0 O1 O2 O3 (dL (hC k42 y0 ag0 ag1 ag2 ag3) [(some k8,.obj 30 (gO)),(some k5,.obj 62 (aD p1)),(some k2,.obj 30 (aF p0))] (bP u [0,1,2,3,4,5,6,7] rfl rfl).2).2 Y1) rfl aE7 rfl ?_)
 rintro x h' ⟨ag4,O4,ag5,O5,ag6,O6,ag7,O7,K5,rfl,rfl⟩
 have K7:=bP (L':= [(hO k42 y1.2.1 ag4 ag5 ag6 ag7),(dH ag4 y1.2.2.1),(dG ag5 y1.2.2.2.1),(jR ag6 y1.2.2.2.2.1),(lC ag7 y1.2.2.2.2.2),(some k8,.obj 30 (gO)),(some k5,.obj 62 (aD p1)),(some k2,.obj 30 (aF p0))]) (eL (dL (hC k42 y0 ag0 ag1 ag2 ag3) [(some k8,.obj 30 (gO)),(some k5,.obj 62 (aD p1)),(some k2,.obj 30 (aF p0))] (bP u [0,1,2,3,4,5,6,7] rfl rfl).2).1 K5) [0,1,2,3,4,5,6,7] rfl rfl
 refine qk K7.2 ((dR h (hL k42 y1.2.1 ag4 ag5 ag6 ag7 y1.2.2.1 y1.2.2.2.1 y1.2.2.2.2.1 y1.2.2.2.2.2) [(some k8,.obj 30 (gO)),(some k5,.obj 62 (aD p1)),(some k2,.obj 30 (aF p0))]).trans K7.1) (vs (vs (v0 (v0 ?_))))
 apply vi m <;> intro c1 m
 refine vs (v0 (bV (eK (gO) CD rfl) (ve λu=>aJ 5 (gO) u rfl rfl rfl rfl kX rfl rfl λK8=>qk K8 rfl (v0 ?_))))
 cases m
 exact vr λu=>dZ.of2 (.inl rfl) (qT (.agg (gO)) eP rfl (aX 5 u rfl) rfl) (f0 _ _ (.sc (.int _ _)) rfl) (aW (List.nil_sublist _) u).1 (bB.agg (.cons (bB.refl _ _) (.cons (aR _) (.cons (aR _) (.cons (aR _) (.cons (aR _) .nil)))))) (bB.refl _ _) ⟨rfl,rfl⟩
 refine v0 (vs (vs (v0 (vl 0 (.agg ([nZ y1.2.1,aZ ag4,aZ ag5,aZ ag6,aZ ag7])) eP rfl rfl rfl ?_))))
 obtain⟨_,Y2,m⟩:=aC m
 refine vn (λu=>cB (fA (.cons (Br.agg (.cons (Br.refl _ _) (.cons (Br.aw 1 eC O4 u rfl) (.cons (Br.aw 2 cL O5 u rfl) (.cons (Br.aw 3 fY O6 u rfl) (.cons (Br.aw 4 eS O7 u rfl) .nil)))))) .nil) rfl (W89 _ Y2)) rfl XQ rfl) (v0 ?_)
 apply vi m <;> intro c2 m
 refine vs (v0 (bV (eK (gO) CD rfl) (ve λu=>aJ 5 (gO) u rfl rfl rfl rfl kX rfl rfl λK73=>qk K73 rfl (v0 ?_))))
 cases m
 exact vr λu=>dZ.of2 (.inl rfl) (qT (.agg (gO)) eP rfl (aX 5 u rfl) rfl) (f0 _ _ (.sc (.int _ _)) rfl) (aW (List.nil_sublist _) u).1 (bB.agg (.cons (bB.refl _ _) (.cons (aR _) (.cons (aR _) (.cons (aR _) (.cons (aR _) .nil)))))) (bB.refl _ _) ⟨rfl,rfl⟩
 refine v0 (vs (v0 (vl 0 (.agg ([nZ y1.2.1,aZ ag4,aZ ag5,aZ ag6,aZ ag7])) eP rfl rfl rfl (ve λu=>aJ 5 ([nZ y1.2.1,aZ ag4,aZ ag5,aZ ag6,aZ ag7]) u rfl rfl rfl (by repeat (first | exact rfl | refine cE (iE _ _ _) ?_ | refine cE (bZ _ _ _) ?_ | refine cE (fV _ _ _ _) ?_ | refine cE rfl ?_)) kX rfl rfl λK75=>qk K75 rfl ?_))))
 refine v0 ?_
 cases m
 refine vrl λu=> ?_
 obtain⟨K76,le0⟩:=iW.fzO (n:=36) (f:=_) 1 4 ([nZ y1.2.1,.sl none 4 (List.map bK y1.2.2.1),aZ ag5,aZ ag6,aZ ag7]) u rfl (.cons (Fz.refl _ _ _) (.cons (Fz.aw 1 eC O4 u rfl (.refl _)) (.cons (Fz.refl _ _ _) (.cons (Fz.refl _ _ _) (.cons (Fz.refl _ _ _) .nil)))))
 obtain⟨K78,le1⟩:=iW.fzO (n:=36) (f:=_) 1 3 ([nZ y1.2.1,.sl none 4 (List.map bK y1.2.2.1),.sl none 35 (List.map aI y1.2.2.2.1),aZ ag6,aZ ag7]) K76 rfl (.cons (Fz.refl _ _ _) (.cons (Fz.refl _ _ _) (.cons (Fz.aw 1 cL O5 K76 rfl (.refl _)) (.cons (Fz.refl _ _ _) (.cons (Fz.refl _ _ _) .nil)))))
 obtain⟨K80,le2⟩:=iW.fzO (n:=36) (f:=_) 1 2 ([nZ y1.2.1,.sl none 4 (List.map bK y1.2.2.1),.sl none 35 (List.map aI y1.2.2.2.1),.sl none 3 (List.map cV y1.2.2.2.2.1),aZ ag7]) K78 rfl (.cons (Fz.refl _ _ _) (.cons (Fz.refl _ _ _) (.cons (Fz.refl _ _ _) (.cons (Fz.aw 1 fY O6 K78 rfl (.refl _)) (.cons (Fz.refl _ _ _) .nil)))))
 obtain⟨K82,le3⟩:=iW.fzO (n:=36) (f:=_) 1 1 ([nZ y1.2.1,.sl none 4 (List.map bK y1.2.2.1),.sl none 35 (List.map aI y1.2.2.2.1),.sl none 3 (List.map cV y1.2.2.2.2.1),.sl none 4 (List.map cS y1.2.2.2.2.2)]) K80 rfl (.cons (Fz.refl _ _ _) (.cons (Fz.refl _ _ _) (.cons (Fz.refl _ _ _) (.cons (Fz.refl _ _ _) (.cons (Fz.aw 1 eS O7 K80 rfl (.refl _)) .nil)))))
 exact OF.mk (iW.trans (iW.trans (iW.trans le0 le1) le2) le3) (dZ.of2 (.inl rfl) (qT (.agg (aF ({ Seq:=y1.2.1,Snaps:=y1.2.2.1,Chunks:=y1.2.2.2.1,Exps:=y1.2.2.2.2.1,Vols:=y1.2.2.2.2.2}:aA))) eP rfl (aX 1 K82 rfl) rfl) (f0 _ _ (.sc (.int _ _)) rfl) (aW (List.nil_sublist _) K82).1 (bB.refl _ _) (bB.refl _ _) ⟨rfl,rfl⟩)
theorem aE8:aP Tryz.prog 36=true:=by kernel_rfl
open Go.Vm
def uC (m:Nat) (p0:List dM) (q0:Int):Option (Lp (Int) (Bool)):=
 if (decide (q0 < (p0.length:Int)))=true then ((ix p0 q0).bind λx0=>if (decide (200 < (x0.Data.length:Int)))=true then (some (.ret true)) else some (.go (IntKind.wrap .i64 (q0+1)))) else some (.brk q0)
def J0 (m:Nat) (p0:List dM):Option (Bool):=
 if (decide (6 < (p0.length:Int)))=true then (some true) else after (aU (λs=>uC m p0 s) m 0) λr0=>some false
theorem aAD {u:Nat} {p0:List dM} {o:Bool} (h:aE) (m:J0 u p0=some o):
 aL Tryz.prog 139 [.sl none 2 (List.map eM p0)] h (λr h'=>r= .sc (.bool o)∧h'=h):=by
 refine fT 20 [.tmp 2] Tryz.func139 rfl rfl rfl rfl ?_
 unfold J0 at m
 refine v (v (cY zT rfl (v ?_)))
 apply vi m <;> intro c4 m
 refine v (v ?_)
 obtain rfl:=eU m
 exact eA rfl
 refine v (v (kD m (σ:=Int) (λs=> []) (λs=>.c 0 (.sl none 2 (List.map eM p0)) (.c 3 (nZ s) .nil)) (lx (.k2 .nil)) ?_ ?_))
 rintro _ q0 x m
 replace m:uC u p0 q0=some x:=m
 unfold uC at m
 refine v (cY zT rfl (v ?_))
 apply vi m <;> intro c0 m
 refine v (v (v (vx m pH rfl rfl λ_ _ m=>cY kR rfl (v ?_))))
 apply vi m <;> intro c1 m
 refine v (v (gM m λm=> ?_))
 obtain rfl:=eU m
 exact eA rfl
 exact v (v (rF m))
 exact v (OH m)
 rintro _ r0 m
 refine v (v ?_)
 obtain rfl:=eU m
 exact eA rfl
theorem SA:aP Tryz.prog 139=true:=by kernel_rfl
def C0 (m:Nat) (p0:List dM) (q0:Int):Option (Lp (Int) ((List dM)×Int)):=
 if (decide (q0 < (p0.length:Int)))=true then ((ix p0 q0).bind λx0=>(CN m x0.Path).bind λy0=>if (!y0)=true then (some (.ret ([],1))) else some (.go (IntKind.wrap .i64 (q0+1)))) else some (.brk q0)
def C1 (m:Nat) (p0:List dM) (q0:List dM) (q1:Int) (q2:Int):Option (Lp (Int) (Lp ((List dM)×Int) ((List dM)×Int))):=
 after (if (decide (q2 < (q0.length:Int)))=true then ((ix q0 q2).bind λx0=>(ix p0 q1).bind λx1=>some (.brk (Op.bytesLess x0.Path.toList x1.Path.toList))) else some (.brk false):Option (Lp (Bool) (Lp (Int) (Lp ((List dM)×Int) ((List dM)×Int))))) λj0=>if j0=true then (some (.go (IntKind.wrap .i64 (q2+1)))) else some (.brk q2)
def C2 (m:Nat) (p0:List dM) (q0:List dM) (q1:Int):Option (Lp ((List dM)×Int) ((List dM)×Int)):=
 if (decide (q1 < (p0.length:Int)))=true then (after (aU (λs=>C1 m p0 q0 q1 s) m 0) λr0=>after (if (decide (r0 < (q0.length:Int)))=true then ((ix q0 r0).bind λx0=>(ix p0 q1).bind λx1=>some (.brk (x0.Path.toList==x1.Path.toList))) else some (.brk false):Option (Lp (Bool) (Lp ((List dM)×Int) ((List dM)×Int)))) λj0=>if j0=true then (some (.ret ([],9))) else (slc q0 0 r0).bind λx2=>(ix p0 q1).bind λx3=>(ix p0 q1).bind λx4=>(app ([]:List dM) x2).bind λz0=>(vK m x4.Data).bind λy0=>(app z0 ([({ Path:=x3.Path,Data:=y0}:dM)]:List dM)).bind λz1=>(slc q0 r0 (q0.length:Int)).bind λx5=>(app z1 x5).bind λz2=>some (.go (z2,IntKind.wrap .i64 (q1+1)))) else some (.brk (q0,q1))
def M85 (m:Nat) (p0:List dM):Option ((List dM)×Int):=
 (J0 m p0).bind λy4=>if y4=true then (some ([],2)) else after (aU (λs=>C0 m p0 s) m 0) λr0=>after (aU (λs=>C2 m p0 s.1 s.2) m ([],0)) λ⟨r1,r2⟩=>some (r1,0)
theorem W85 {w:Nat} {p0:List dM} {o:(List dM)×Int} (h:aE) (m:M85 w p0=some o):
 aL Tryz.prog 85 [.sl none 2 (List.map eM p0)] h (λr h'=>r= .tup [.sl none 2 (List.map eM o.1),nZ o.2]∧h'=h):=by
 refine fT 91 [.tmp 2,.tmp 3] Tryz.func85 rfl rfl rfl rfl ?_
 unfold M85 at m
 refine v (v (vk aAD SA m rfl rfl λ_ m=>v ?_))
 apply vi m <;> intro c6 m
 refine v (v ?_)
 cases m
 exact vr λu=>dZ.of2 (.inl rfl) (f0 _ _ (.sc (.slice _ _ _)) rfl) (f0 _ _ (.sc (.int _ _)) rfl) (iT.refl _) (aR _) (bB.refl _ _) ⟨rfl,rfl⟩
 refine v (v (kD m (σ:=Int) (λs=> []) (λs=>.c 0 (.sl none 2 (List.map eM p0)) (.c 4 (nZ s) .nil)) (lx (.k2 .nil)) ?_ ?_))
 rintro _ q0 x m
 replace m:C0 w p0 q0=some x:=m
 unfold C0 at m
 refine v (cY zT rfl (v ?_))
 apply vi m <;> intro c0 m
 refine v (v (v (vx m pH rfl rfl λ_ _ m=>vk MD EK m rfl rfl λ_ m=>v ?_)))
 apply vi m <;> intro c1 m
 refine v (v (gM m λm=> ?_))
 cases m
 exact vr λu=>dZ.of2 (.inl rfl) (f0 _ _ (.sc (.slice _ _ _)) rfl) (f0 _ _ (.sc (.int _ _)) rfl) (iT.refl _) (aR _) (bB.refl _ _) ⟨rfl,rfl⟩
 exact v (v (rF m))
 exact v (OH m)
 rintro _ r0 m
 refine v (v (rE (FG (.tok 95 2 (([]:List dM).length*2)) 5 (ow none 2 (List.map eM [])) (jD _ _)) (pB m (σ:=(List dM)×Int) (τ:=Option bY) (λg s=> [(g,.tok 95 2 ((s.1:List dM).length*2))]) (λg s=>(g=none→s.1= [])) (λg s=>.c 0 (.sl none 2 (List.map eM p0)) (.c 5 (ow g 2 (List.map eM s.1)) (.c 6 (nZ s.2) .nil))) none (λ_=>rfl) (lx (.k3 .nil)) ?_ ?_)))
 rintro tg0 ⟨q1,q2⟩ x t0 m
 replace m:C2 w p0 q1 q2=some x:=m
 unfold C2 at m
 refine v (cY zT rfl (v ?_))
 apply vi m <;> intro c2 m
 refine v (v (v (vs (kD m (σ:=Int) (λs=> [(tg0,.tok 95 2 ((q1:List dM).length*2))]) (λs=>.c 0 (.sl none 2 (List.map eM p0)) (.c 5 (ow tg0 2 (List.map eM q1)) (.c 6 (nZ q2) (.c 7 (nZ s) .nil)))) (lx (.k4 .nil)) ?_ ?_))))
 rintro _ q3 x m
 replace m:C1 w p0 q1 q2 q3=some x:=m
 unfold C1 at m
 refine vs (vs (fQ m (σ:=Bool) (λs=> [(tg0,.tok 95 2 ((q1:List dM).length*2))]) (λs=>.c 0 (.sl none 2 (List.map eM p0)) (.c 5 (ow tg0 2 (List.map eM q1)) (.c 6 (nZ q2) (.c 7 (nZ q3) (.c 46 (.sc (.bool s)) .nil))))) (λx m=> ?_) ?_))
 refine v (vq (by kernel_rfl) (bV (uR zT t0 rfl) ?_))
 apply vi m <;> intro b0 m
 rw[b0]
 obtain⟨_,X0,m⟩:=aC m
 exact bV (RB X0 pH t0 rfl rfl) (vx m pH rfl rfl λ_ _ m=>bV (BL rfl rfl rfl trivial) (mC m))
 rw[b0]
 exact mC m
 rintro _ j0 m
 refine v ?_
 apply vi m <;> intro c3 m
 exact v (v (v (gJ m)))
 exact v (zK m)
 rintro _ r1 m
 refine vs (vs (fQ m (σ:=Bool) (λs=> [(tg0,.tok 95 2 ((q1:List dM).length*2))]) (λs=>.c 0 (.sl none 2 (List.map eM p0)) (.c 5 (ow tg0 2 (List.map eM q1)) (.c 6 (nZ q2) (.c 7 (nZ r1) (.c 65 (.sc (.bool s)) .nil))))) (λx m=> ?_) ?_))
 refine v (vq (by kernel_rfl) (bV (uR zT t0 rfl) ?_))
 apply vi m <;> intro b1 m
 rw[b1]
 obtain⟨_,X1,m⟩:=aC m
 exact bV (RB X1 pH t0 rfl rfl) (vx m pH rfl rfl λ_ _ m=>bV (BL rfl rfl rfl trivial) (mC m))
 rw[b1]
 exact mC m
 rintro _ j1 m
 refine v ?_
 apply vi m <;> intro c4 m
 refine v (v (gM m λm=> ?_))
 cases m
 exact vr λu=>dZ.of2 (.inl rfl) (f0 _ _ (.sc (.slice _ _ _)) rfl) (f0 _ _ (.sc (.int _ _)) rfl) (aW (List.nil_sublist _) u).1 (aR _) (bB.refl _ _) ⟨rfl,rfl⟩
 refine v (v (v (vz [] mixed (λu=>trivial) λu=>zC 0 rfl (eZ (.sc (.slice _ _ _)) rfl) (zC 1 rfl (eZ (ow _ _ _) rfl) (zI 2 rfl rfl ?_)))))
 obtain⟨_,X2,m⟩:=aC m
 refine zC 3 rfl (B3 X2 pH rfl t0 rfl rfl rfl) (zC 5 rfl (eZ (.sl _ _ _) rfl) (zI 6 rfl rfl ?_))
 obtain⟨x0,X3,m⟩:=aC m
 refine zC 7 rfl (oD X3 pH rfl rfl) (zC 8 rfl (o9 LY rfl rfl) (zC 9 rfl (pA (.sc (.string x0.Path)) wS rfl rfl) (zC 10 rfl (eZ (.sl _ _ _) rfl) (zI 11 rfl rfl ?_))))
 obtain⟨x1,X4,m⟩:=aC m
 refine zC 12 rfl (oD X4 pH rfl rfl) (zC 13 rfl (o9 LZ rfl rfl) (zC 14 rfl (pA (.sl none 1 (List.map cW x1.Data)) lL rfl rfl) ?_))
 obtain⟨z0,Z0,m⟩:=aC m
 refine zE 4 rfl (oF (c:=eM) Z0 PO rfl rfl u nofun (nW (sL X2 t0)) λtg1 t1 K0=>⟨trivial, ?_⟩)
 obtain⟨y0,Y0,m⟩:=aC m
 refine zC 15 rfl (cB (MN _ Y0) rfl ER rfl) (zC 16 rfl (eK (eM ({ Path:=x0.Path,Data:=y0}:dM)) aCQ rfl) (zC 17 rfl (eD (List.map eM ([({ Path:=x0.Path,Data:=y0}:dM)]:List dM)) PO rfl rfl rfl rfl) ?_))
 obtain⟨z1,Z1,m⟩:=aC m
 refine zE 18 rfl (e8 (c:=eM) 0 Z1 PO rfl rfl rfl t1 K0 rfl λtg2 t2 K1=>⟨trivial, ?_⟩)
 refine zC 19 rfl (hU (ow _ _ _) rfl) (zX (qk (f:=.c 8 _ (PF 84 _ _ _ _ (.c 70 _ (WP 80 _ _ _ _ _ _ _ _ _ _ (PF 69 _ _ _ _ _))))) K1 rfl (v ?_)))
 obtain⟨_,X5,m⟩:=aC m
 refine bV (B3 X5 pH rfl t0 rfl rfl rfl) ?_
 obtain⟨z2,Z2,m⟩:=aC m
 exact ve λu=>e8 (c:=eM) 0 Z2 PO rfl rfl rfl t2 u (nW (sL X5 t0)) λtg3 t3 K2=>qk K2 rfl (v (fB m tg3 t3 (nD [0] rfl rfl (.k3 .nil))))
 exact v (mL m tg0 t0 (lx (.k3 .nil)))
 rintro tg4 ⟨r2,r3⟩ t4 m
 refine v (v ?_)
 cases m
 exact vr λu=>dZ.of2 (.inl rfl) (f0 _ _ (ow _ _ _) rfl) (f0 _ _ (.sc (.int _ _)) rfl) (aW (List.nil_sublist _) u).1 ((eQ _ 0 t4 u rfl)) (bB.refl _ _) ⟨rfl,rfl⟩
theorem aE9:aP Tryz.prog 85=true:=by kernel_rfl
def UN (m:Nat):Option ((Ar 64)):=
 some (⟨[1116352408,1899447441,3049323471,3921009573,961987163,1508970993,2453635748,2870763221,3624381080,310598401,607225278,1426881987,1925078388,2162078206,2614888103,3248222580,3835390401,4022224774,264347078,604807628,770255983,1249150122,1555081692,1996064986,2554220882,2821834349,2952996808,3210313671,3336571891,3584528711,113926993,338241895,666307205,773529912,1294757372,1396182291,1695183700,1986661051,2177026350,2456956037,2730485921,2820302411,3259730800,3345764771,3516065817,3600352804,4094571909,275423344,430227734,506948616,659060556,883997877,958139571,1322822218,1537002063,1747873779,1955562222,2024104815,2227730452,2361852424,2428436474,2756734187,3204031479,3329325298],rfl⟩:Ar 64)
theorem aFA {w:Nat} {o:(Ar 64)} (h:aE) (m:UN w=some o):
 aL Tryz.prog 144 [] h (λr h'=>r= .agg (cT o)∧h'=h):=by
 refine fT 2 [.cell 0 181] Tryz.func144 rfl rfl rfl rfl ?_
 unfold UN at m
 refine v (ve λu=>bG (cT (VL 64)) u L6 rfl rfl λk2 K3=>qk K3 rfl (v (bV (B4 [1116352408,1899447441,3049323471,3921009573,961987163,1508970993,2453635748,2870763221,3624381080,310598401,607225278,1426881987,1925078388,2162078206,2614888103,3248222580,3835390401,4022224774,264347078,604807628,770255983,1249150122,1555081692,1996064986,2554220882,2821834349,2952996808,3210313671,3336571891,3584528711,113926993,338241895,666307205,773529912,1294757372,1396182291,1695183700,1986661051,2177026350,2456956037,2730485921,2820302411,3259730800,3345764771,3516065817,3600352804,4094571909,275423344,430227734,506948616,659060556,883997877,958139571,1322822218,1537002063,1747873779,1955562222,2024104815,2227730452,2361852424,2428436474,2756734187,3204031479,3329325298] rfl TN rfl rfl rfl) (ve λu=>aJ 0 (cT (⟨[1116352408,1899447441,3049323471,3921009573,961987163,1508970993,2453635748,2870763221,3624381080,310598401,607225278,1426881987,1925078388,2162078206,2614888103,3248222580,3835390401,4022224774,264347078,604807628,770255983,1249150122,1555081692,1996064986,2554220882,2821834349,2952996808,3210313671,3336571891,3584528711,113926993,338241895,666307205,773529912,1294757372,1396182291,1695183700,1986661051,2177026350,2456956037,2730485921,2820302411,3259730800,3345764771,3516065817,3600352804,4094571909,275423344,430227734,506948616,659060556,883997877,958139571,1322822218,1537002063,1747873779,1955562222,2024104815,2227730452,2361852424,2428436474,2756734187,3204031479,3329325298],rfl⟩:Ar 64)) u rfl rfl rfl rfl RJ rfl rfl λK6=>qk K6 rfl ?_))))
 refine v ?_
 cases m
 exact vr λu=>dZ.of1 (.inl rfl) (qT (.agg (cT (⟨[1116352408,1899447441,3049323471,3921009573,961987163,1508970993,2453635748,2870763221,3624381080,310598401,607225278,1426881987,1925078388,2162078206,2614888103,3248222580,3835390401,4022224774,264347078,604807628,770255983,1249150122,1555081692,1996064986,2554220882,2821834349,2952996808,3210313671,3336571891,3584528711,113926993,338241895,666307205,773529912,1294757372,1396182291,1695183700,1986661051,2177026350,2456956037,2730485921,2820302411,3259730800,3345764771,3516065817,3600352804,4094571909,275423344,430227734,506948616,659060556,883997877,958139571,1322822218,1537002063,1747873779,1955562222,2024104815,2227730452,2361852424,2428436474,2756734187,3204031479,3329325298],rfl⟩:Ar 64))) W3 rfl (aX 0 u rfl) rfl) (aW (List.nil_sublist _) u).1 (bB.refl _ _) ⟨rfl,rfl⟩
theorem aAF:aP Tryz.prog 144=true:=by kernel_rfl
def wY (m:Nat) (q0:List Int):Option (Lp ((List Int)) ((List Int))):=
 if (((IntKind.wrap .i64 ((q0.length:Int)+8)).tmod 64) !=0)=true then ((app q0 ([0]:List Int)).bind λz0=>some (.go z0)) else some (.brk q0)
def wZ (m:Nat) (p0:List Int) (q0:List Int) (q1:Int):Option (Lp ((List Int)×Int) ((List Int))):=
 if (decide (0≤q1))=true then (grd (decide (0≤(IntKind.wrap .u64 (8*(IntKind.wrap .u64 q1))))) <| (app q0 ([IntKind.wrap .u8 ((IntKind.wrap .u64 ((IntKind.wrap .u64 (p0.length:Int))*8)).fdiv (2 ^ (min ((IntKind.wrap .u64 (8*(IntKind.wrap .u64 q1))):Int).toNat (IntKind.bits .u64))))]:List Int)).bind λz0=>some (.go (z0,IntKind.wrap .i64 (q1 - 1)))) else some (.brk (q0,q1))
def NH (m:Nat) (p0:List Int):Option ((List Int)):=
 (app ([]:List Int) p0).bind λz4=>(app z4 ([128]:List Int)).bind λz0=>after (aU (λs=>wY m s) m z0) λr0=>after (aU (λs=>wZ m p0 s.1 s.2) m (r0,7)) λ⟨r1,r2⟩=>some r1
theorem aFB {w:Nat} {p0:List Int} {o:(List Int)} (h:aE) (m:NH w p0=some o):
 aL Tryz.prog 145 [.sl none 1 (List.map cW p0)] h (λr h'=>r= .sl none 1 (List.map cW o)∧h'=h):=by
 refine fT 37 [.tmp 2] Tryz.func145 rfl rfl rfl rfl ?_
 unfold NH at m
 refine v (v (v ?_))
 obtain⟨z4,Z5,m⟩:=aC m
 refine ve λu=>oF (c:=cW) Z5 jH rfl rfl u nofun rfl λtg6 t7 K8=>qk K8 rfl (bV (eD (List.map cW ([128]:List Int)) jH rfl rfl rfl rfl) ?_)
 obtain⟨z0,Z0,m⟩:=aC m
 refine ve λu=>e8 (c:=cW) 0 Z0 jH rfl rfl rfl t7 u rfl λtg0 t0 K0=>qk K0 rfl (vs (pB m (σ:=(List Int)) (τ:=Option bY) (λg s=> [(g,.tok 5 1 ((s:List Int).length*1))]) (λg s=>(g=none→s= [])) (λg s=>.c 0 (.sl none 1 (List.map cW p0)) (.c 3 (ow g 1 (List.map cW s)) .nil)) tg0 t0 (lx (.k2 .nil)) ?_ ?_))
 rintro tg1 q0 x t1 m
 replace m:wY w q0=some x:=m
 unfold wY at m
 refine v (bV (uR kR t1 rfl) (v ?_))
 apply vi m <;> intro c0 m
 refine v (v (v (bV (eD (List.map cW ([0]:List Int)) jH rfl rfl rfl rfl) ?_)))
 obtain⟨z1,Z1,m⟩:=aC m
 exact ve λu=>e8 (c:=cW) 0 Z1 jH rfl rfl rfl t1 u rfl λtg2 t2 K1=>qk K1 rfl (fB m tg2 t2 (lx (.k2 .nil)))
 exact v (mL m tg1 t1 (lx (.k2 .nil)))
 rintro tg3 r0 t3 m
 refine v (cY kR rfl (v (pB m (σ:=(List Int)×Int) (τ:=Option bY) (λg s=> [(g,.tok 5 1 ((s.1:List Int).length*1))]) (λg s=>(g=none→s.1= [])) (λg s=>.c 3 (ow g 1 (List.map cW s.1)) (.c 4 (.sc (.int .u64 (IntKind.wrap .u64 ((IntKind.wrap .u64 (p0.length:Int))*8)))) (.c 5 (nZ s.2) .nil))) tg3 t3 (lx (.k3 .nil)) ?_ ?_)))
 rintro tg4 ⟨q1,q2⟩ x t4 m
 replace m:wZ w p0 q1 q2=some x:=m
 unfold wZ at m
 refine v (v ?_)
 apply vi m <;> intro c1 m
 refine v (v (v (RD m λ_ m=>bV (eD (List.map cW ([IntKind.wrap .u8 ((IntKind.wrap .u64 ((IntKind.wrap .u64 (p0.length:Int))*8)).fdiv (2 ^ (min ((IntKind.wrap .u64 (8*(IntKind.wrap .u64 q2))):Int).toNat (IntKind.bits .u64))))]:List Int)) jH rfl rfl rfl rfl) ?_)))
 obtain⟨z2,Z2,m⟩:=aC m
 exact ve λu=>e8 (c:=cW) 0 Z2 jH rfl rfl rfl t4 u rfl λtg5 t5 K2=>qk K2 rfl (v (fB m tg5 t5 (lx (.k3 .nil))))
 exact v (mL m tg4 t4 (lx (.k3 .nil)))
 rintro tg7 ⟨r1,r2⟩ t6 m
 refine v (v ?_)
 obtain rfl:=eU m
 exact vr λu=>dZ.of1 (.inl rfl) (f0 _ _ (ow _ _ _) rfl) (aW (List.nil_sublist _) u).1 ((eQ _ 0 t6 u rfl)) ⟨rfl,rfl⟩
theorem aAG:aP Tryz.prog 145=true:=by kernel_rfl
def uD (m:Nat) (p0:Int) (p1:Int):Option (Int):=
 grd (decide (0≤p1)) <| grd (decide (0≤(IntKind.wrap .u64 (32 - p1)))) <| some (cC .or .u32 (p0.fdiv (2 ^ (min (p1:Int).toNat (IntKind.bits .u32)))) (IntKind.wrap .u32 (p0*2 ^ (min ((IntKind.wrap .u64 (32 - p1)):Int).toNat (IntKind.bits .u32)))))
theorem z8 {u:Nat} {p0:Int} {p1:Int} {o:Int} (h:aE) (m:uD u p0 p1=some o):
 aL Tryz.prog 146 [.sc (.int .u32 p0),.sc (.int .u64 p1)] h (λr h'=>r= .sc (.int .u32 o)∧h'=h):=by
 refine fT 13 [.tmp 4] Tryz.func146 rfl rfl rfl rfl ?_
 unfold uD at m
 refine v (v (RD m λ_ m=>RD m λ_ m=>v ?_))
 cases m
 exact eA rfl
theorem qV:aP Tryz.prog 146=true:=by kernel_rfl
def C3 (m:Nat) (y0:(List Int)) (q0:Int) (q1:Int) (q2:Ar 64) (q3:Int):Option (Lp ((Ar 64)×Int) (Lp ((Ar 64)) (Lp ((Ar 64)×Int) (Lp ((Ar 8)×Int) (bL))))):=
 if (decide (q3 < 4))=true then ((ix q2.1 q1).bind λx0=>(ix y0 (IntKind.wrap .i64 ((IntKind.wrap .i64 (q0+(IntKind.wrap .i64 (4*q1))))+q3))).bind λx1=>(ix q2.1 q1).bind λ_=>some (.go (RC q2 q1.toNat (cC .or .u32 (IntKind.wrap .u32 (x0*2 ^ (min (8:Int).toNat (IntKind.bits .u32)))) (IntKind.wrap .u32 x1)),IntKind.wrap .i64 (q3+1)))) else some (.brk (q2,q3))
def C4 (m:Nat) (y0:(List Int)) (q0:Int) (q1:Ar 64) (q2:Int):Option (Lp ((Ar 64)×Int) (Lp ((Ar 8)×Int) (bL))):=
 if (decide (q2 < 64))=true then (after (if (decide (q2 < 16))=true then (after (aU (λs=>C3 m y0 q0 q2 s.1 s.2) m (q1,0)) λ⟨r0,r1⟩=>some (.brk r0)) else (ix q1.1 (IntKind.wrap .i64 (q2 - 15))).bind λx0=>(ix q1.1 (IntKind.wrap .i64 (q2 - 2))).bind λx1=>(ix q1.1 (IntKind.wrap .i64 (q2 - 16))).bind λx2=>(ix q1.1 (IntKind.wrap .i64 (q2 - 7))).bind λx3=>(uD m x0 7).bind λy1=>(uD m x0 18).bind λy2=>(uD m x1 17).bind λy3=>(uD m x1 19).bind λy4=>(ix q1.1 q2).bind λ_=>some (.brk (RC q1 q2.toNat (IntKind.wrap .u32 ((IntKind.wrap .u32 ((IntKind.wrap .u32 (x2+x3))+(cC .xor .u32 (cC .xor .u32 y1 y2) (x0.fdiv (2 ^ (min (3:Int).toNat (IntKind.bits .u32)))))))+(cC .xor .u32 (cC .xor .u32 y3 y4) (x1.fdiv (2 ^ (min (10:Int).toNat (IntKind.bits .u32))))))))):Option (Lp ((Ar 64)) (Lp ((Ar 64)×Int) (Lp ((Ar 8)×Int) (bL))))) λj0=>some (.go (j0,IntKind.wrap .i64 (q2+1)))) else some (.brk (q1,q2))
def C5 (m:Nat) (y6:(Ar 64)) (r0:Ar 64) (q0:Ar 8) (q1:Int):Option (Lp ((Ar 8)×Int) (Lp ((Ar 8)×Int) (bL))):=
 if (decide (q1 < 64))=true then ((ix q0.1 0).bind λx0=>(ix q0.1 4).bind λx1=>(ix q0.1 7).bind λx2=>(uD m x1 6).bind λy0=>(uD m x1 11).bind λy1=>(uD m x1 25).bind λy2=>(ix q0.1 5).bind λx3=>(ix q0.1 6).bind λx4=>(ix y6.1 q1).bind λx5=>(ix r0.1 q1).bind λx6=>(uD m x0 2).bind λy3=>(uD m x0 13).bind λy4=>(uD m x0 22).bind λy5=>(ix q0.1 1).bind λx7=>(ix q0.1 2).bind λx8=>(ix q0.1 1).bind λx9=>(ix q0.1 2).bind λx10=>(ix q0.1 0).bind λx11=>(ix q0.1 1).bind λx12=>(ix q0.1 2).bind λx13=>(ix q0.1 3).bind λx14=>(ix q0.1 4).bind λx15=>(ix q0.1 5).bind λx16=>(ix q0.1 6).bind λx17=>some (.go ((⟨[IntKind.wrap .u32 ((IntKind.wrap .u32 ((IntKind.wrap .u32 ((IntKind.wrap .u32 ((IntKind.wrap .u32 (x2+(cC .xor .u32 (cC .xor .u32 y0 y1) y2)))+(cC .xor .u32 (cC .and .u32 x1 x3) (cC .and .u32 (cC .xor .u32 (IntKind.max .u32) x1) x4))))+x5))+x6))+(IntKind.wrap .u32 ((cC .xor .u32 (cC .xor .u32 y3 y4) y5)+(cC .xor .u32 (cC .xor .u32 (cC .and .u32 x0 x7) (cC .and .u32 x0 x8)) (cC .and .u32 x9 x10))))),x11,x12,x13,IntKind.wrap .u32 (x14+(IntKind.wrap .u32 ((IntKind.wrap .u32 ((IntKind.wrap .u32 ((IntKind.wrap .u32 (x2+(cC .xor .u32 (cC .xor .u32 y0 y1) y2)))+(cC .xor .u32 (cC .and .u32 x1 x3) (cC .and .u32 (cC .xor .u32 (IntKind.max .u32) x1) x4))))+x5))+x6))),x15,x16,x17],rfl⟩:Ar 8),IntKind.wrap .i64 (q1+1)))) else some (.brk (q0,q1))
def C6 (m:Nat) (r0:Ar 8) (q0:Ar 8) (q1:Int):Option (Lp ((Ar 8)×Int) (Lp ((Ar 8)×Int) (bL))):=
 if (decide (q1 < 8))=true then ((ix q0.1 q1).bind λx0=>(ix r0.1 q1).bind λx1=>(ix q0.1 q1).bind λ_=>some (.go (RC q0 q1.toNat (IntKind.wrap .u32 (x0+x1)),IntKind.wrap .i64 (q1+1)))) else some (.brk (q0,q1))
def C7 (m:Nat) (y6:(Ar 64)) (y0:(List Int)) (q0:Ar 8) (q1:Int):Option (Lp ((Ar 8)×Int) (bL)):=
 if (decide (q1 < (y0.length:Int)))=true then (after (aU (λs=>C4 m y0 q1 s.1 s.2) m ((VL 64),0)) λ⟨r0,r1⟩=>after (aU (λs=>C5 m y6 r0 s.1 s.2) m (q0,0)) λ⟨r2,r3⟩=>after (aU (λs=>C6 m r2 s.1 s.2) m (q0,0)) λ⟨r4,r5⟩=>some (.go (r4,IntKind.wrap .i64 (q1+64)))) else some (.brk (q0,q1))
def w5 (m:Nat) (r0:Ar 8) (q0:bL) (q1:Int):Option (Lp (bL×Int) (bL)):=
 if (decide (q1 < 32))=true then ((ix r0.1 (IntKind.wrap .i64 (q1.tdiv 4))).bind λx0=>grd (decide (0≤(IntKind.wrap .u64 (IntKind.wrap .i64 (24 - (IntKind.wrap .i64 (8*(q1.tmod 4)))))))) <| (ix q0.1 q1).bind λ_=>some (.go (RC q0 q1.toNat (IntKind.wrap .u8 (x0.fdiv (2 ^ (min ((IntKind.wrap .u64 (IntKind.wrap .i64 (24 - (IntKind.wrap .i64 (8*(q1.tmod 4)))))):Int).toNat (IntKind.bits .u32))))),IntKind.wrap .i64 (q1+1)))) else some (.brk (q0,q1))
def V0 (m:Nat) (p0:List Int):Option (bL):=
 (UN m).bind λy6=>(NH m p0).bind λy0=>after (aU (λs=>C7 m y6 y0 s.1 s.2) m ((⟨[1779033703,3144134277,1013904242,2773480762,1359893119,2600822924,528734635,1541459225],rfl⟩:Ar 8),0)) λ⟨r0,r1⟩=>after (aU (λs=>w5 m r0 s.1 s.2) m (jI,0)) λ⟨r2,r3⟩=>some r2
theorem W87 {w:Nat} {p0:List Int} {o:bL} (h:aE) (m:V0 w p0=some o):
 aL Tryz.prog 87 [.sl none 1 (List.map cW p0)] h (λr h'=>r= .agg (bH o)∧h'=h):=by
 refine fT 208 [.cell 2 36] Tryz.func87 rfl rfl rfl rfl ?_
 unfold V0 at m
 refine v (ve λu=>bG (bH jI) u JD rfl rfl λk2 K3=>qk K3 rfl (v (vk aFA aAF m rfl rfl λy6 m=>ve λu=>bG (cT (VL 64)) u L6 rfl rfl λk8 K9=>qk K9 rfl (ve λu=>aJ 0 (cT y6) u rfl rfl rfl rfl RJ rfl rfl λK0=>qk K0 rfl (v (bV (B4 [1779033703,3144134277,1013904242,2773480762,1359893119,2600822924,528734635,1541459225] rfl L8 rfl rfl rfl) (ve λu=>bG (dX (VL 8)) u RK rfl rfl λk13 K1=>qk K1 rfl (ve λu=>aJ 0 (dX (⟨[1779033703,3144134277,1013904242,2773480762,1359893119,2600822924,528734635,1541459225],rfl⟩:Ar 8)) u rfl rfl rfl rfl L7 rfl rfl λK2=>qk K2 rfl (v (vk aFB aAG m rfl rfl λy0 m=>v (kD m (σ:=(Ar 8)×Int) (λs=> [(some k13,.obj 183 (dX s.1)),(some k8,.obj 181 (cT y6)),(some k2,.obj 36 (bH jI))]) (λs=>.c 2 (.ptr k2 0) (.c 3 (.ptr k8 0) (.c 4 (.ptr k13 0) (.c 5 (.sl none 1 (List.map cW y0)) (.c 6 (nZ s.2) .nil))))) (lx (.k5 .nil)) ?_ ?_)))))))))))
 rintro _ ⟨q0,q1⟩ x m
 replace m:C7 w y6 y0 q0 q1=some x:=m
 unfold C7 at m
 refine v (cY kR rfl (v ?_))
 apply vi m <;> intro c0 m
 refine v (v (v (ve λu=>bG (cT (VL 64)) u L6 rfl rfl λk1783 K4=>qk K4 rfl (v (kD m (σ:=(Ar 64)×Int) (λs=> [(some k1783,.obj 181 (cT s.1)),(some k13,.obj 183 (dX q0)),(some k8,.obj 181 (cT y6)),(some k2,.obj 36 (bH jI))]) (λs=>.c 2 (.ptr k2 0) (.c 3 (.ptr k8 0) (.c 4 (.ptr k13 0) (.c 5 (.sl none 1 (List.map cW y0)) (.c 6 (nZ q1) (.c 7 (.ptr k1783 0) (.c 8 (nZ s.2) .nil))))))) (lx (.k7 .nil)) ?_ ?_)))))
 rintro _ ⟨q2,q3⟩ x m
 replace m:C4 w y0 q1 q2 q3=some x:=m
 unfold C4 at m
 refine v (v ?_)
 apply vi m <;> intro c1 m
 refine v (vs (fQ m (σ:=(Ar 64)) (λs=> [(some k1783,.obj 181 (cT s)),(some k13,.obj 183 (dX q0)),(some k8,.obj 181 (cT y6)),(some k2,.obj 36 (bH jI))]) (λs=>.c 2 (.ptr k2 0) (.c 3 (.ptr k8 0) (.c 4 (.ptr k13 0) (.c 5 (.sl none 1 (List.map cW y0)) (.c 6 (nZ q1) (.c 7 (.ptr k1783 0) (.c 8 (nZ q3) .nil))))))) (λx m=> ?_) ?_))
 refine v (v (v ?_))
 apply vi m <;> intro c2 m
 refine v (kD m (σ:=(Ar 64)×Int) (λs=> [(some k1783,.obj 181 (cT s.1)),(some k13,.obj 183 (dX q0)),(some k8,.obj 181 (cT y6)),(some k2,.obj 36 (bH jI))]) (λs=>.c 2 (.ptr k2 0) (.c 3 (.ptr k8 0) (.c 4 (.ptr k13 0) (.c 5 (.sl none 1 (List.map cW y0)) (.c 6 (nZ q1) (.c 7 (.ptr k1783 0) (.c 8 (nZ q3) (.c 9 (nZ s.2) .nil)))))))) (lx (.k8 .nil)) ?_ ?_)
 rintro _ ⟨q4,q5⟩ x m
 replace m:C3 w y0 q1 q3 q4 q5=some x:=m
 unfold C3 at m
 refine v (v ?_)
 apply vi m <;> intro c3 m
 refine v (v (v (vz [(17,some k1783,.obj 181 (cT q4))] mixed (λu=>⟨λ_=>aK 0 u rfl,trivial⟩) λu=>zI 0 rfl rfl (zI 1 rfl rfl ?_))))
 obtain⟨x0,X0,m⟩:=aC m
 refine zC 2 rfl (dU (y:=q4) X0 sQ rfl rfl) (zR 3 rfl (λ_ _ hi hB=>eH (y:=q4) 0 X0 gZ rfl (At.s (f8.get 0 hi rfl (hB 17 (by kernel_rfl)))) (eI _)) (zC 4 rfl (SN rfl rfl rfl (by decide)) (zC 5 rfl (eZ (.sl _ _ _) rfl) (zI 6 rfl rfl (zI 7 rfl rfl (zC 8 rfl (lJ rfl rfl rfl trivial) (zC 9 rfl (lJ rfl rfl rfl trivial) (zI 10 rfl rfl (zC 11 rfl (lJ rfl rfl rfl trivial) ?_)))))))))
 obtain⟨x1,X1,m⟩:=aC m
 refine zC 12 rfl (oD X1 GG rfl rfl) (zC 13 rfl (pA (.sc (.int .u8 x1)) EF rfl rfl) (zC 14 rfl (BM ti5 W2 rfl) (zC 15 rfl (lJ rfl rfl rfl trivial) ?_)))
 obtain⟨_,X2,m⟩:=aC m
 refine zC 16 rfl (dU (y:=q4) X2 sQ rfl rfl) (zE 17 rfl (wQ (y:=q4) (v:=cC .or .u32 (IntKind.wrap .u32 (x0*2 ^ (min (8:Int).toNat (IntKind.bits .u32)))) (IntKind.wrap .u32 x1)) 0 u X2 rfl rfl rfl L5 λK5=>⟨⟨λe=>absurd e (by decide),trivial⟩, ?_⟩))
 exact zX (qk (f:=B6 57 _ _ _ _ _ _ _ _ _ _ _ _ _ _ _ _ _ _) K5 rfl (v (LJ m)))
 exact v (bq8 m)
 rintro _ ⟨r0,r1⟩ m
 exact v (CB m)
 refine v (v (vq (by kernel_rfl) ?_))
 obtain⟨x2,X3,m⟩:=aC m
 refine bV (dU (y:=q2) X3 sQ rfl rfl) (vn (λu=>eH (y:=q2) 0 X3 gZ rfl (aX 0 u rfl) (eI _)) ?_)
 obtain⟨x3,X4,m⟩:=aC m
 refine bV (dU (y:=q2) X4 sQ rfl rfl) (vn (λu=>eH (y:=q2) 0 X4 gZ rfl (aX 0 u rfl) (eI _)) (v (vz [(29,some k1783,.obj 181 (cT q2))] mixed (λu=>⟨λ_=>aK 0 u rfl,trivial⟩) λu=>zI 0 rfl rfl (zI 1 rfl rfl (zC 2 rfl (lJ rfl rfl rfl trivial) ?_)))))
 obtain⟨x4,X5,m⟩:=aC m
 refine zC 3 rfl (dU (y:=q2) X5 sQ rfl rfl) (zR 4 rfl (λ_ _ hi hB=>eH (y:=q2) 0 X5 gZ rfl (At.s (f8.get 0 hi rfl (hB 29 (by kernel_rfl)))) (eI _)) (zI 5 rfl rfl (zC 6 rfl (lJ rfl rfl rfl trivial) ?_)))
 obtain⟨x5,X6,m⟩:=aC m
 refine zC 7 rfl (dU (y:=q2) X6 sQ rfl rfl) (zR 8 rfl (λ_ _ hi hB=>eH (y:=q2) 0 X6 gZ rfl (At.s (f8.get 0 hi rfl (hB 29 (by kernel_rfl)))) (eI _)) (zC 9 rfl (lJ rfl rfl rfl trivial) (zI 10 rfl rfl ?_)))
 obtain⟨y1,Y0,m⟩:=aC m
 refine zC 11 rfl (cB (z8 _ Y0) rfl qV rfl) (zI 12 rfl rfl ?_)
 obtain⟨y2,Y1,m⟩:=aC m
 refine zC 13 rfl (cB (z8 _ Y1) rfl qV rfl) (zC 14 rfl (lJ rfl rfl rfl trivial) (zI 15 rfl rfl (zC 16 rfl (SN rfl rfl rfl (by decide)) (zC 17 rfl (lJ rfl rfl rfl trivial) (zC 18 rfl (lJ rfl rfl rfl trivial) (zI 19 rfl rfl ?_))))))
 obtain⟨y3,Y2,m⟩:=aC m
 refine zC 20 rfl (cB (z8 _ Y2) rfl qV rfl) (zI 21 rfl rfl ?_)
 obtain⟨y4,Y3,m⟩:=aC m
 refine zC 22 rfl (cB (z8 _ Y3) rfl qV rfl) (zC 23 rfl (lJ rfl rfl rfl trivial) (zI 24 rfl rfl (zC 25 rfl (SN rfl rfl rfl (by decide)) (zC 26 rfl (lJ rfl rfl rfl trivial) (zC 27 rfl (lJ rfl rfl rfl trivial) ?_)))))
 obtain⟨_,X7,m⟩:=aC m
 refine zC 28 rfl (dU (y:=q2) X7 sQ rfl rfl) (zE 29 rfl (wQ (y:=q2) (v:=IntKind.wrap .u32 ((IntKind.wrap .u32 ((IntKind.wrap .u32 (x4+x5))+(cC .xor .u32 (cC .xor .u32 y1 y2) (x2.fdiv (2 ^ (min (3:Int).toNat (IntKind.bits .u32)))))))+(cC .xor .u32 (cC .xor .u32 y3 y4) (x3.fdiv (2 ^ (min (10:Int).toNat (IntKind.bits .u32))))))) 0 u X7 rfl rfl rfl L5 λK6=>⟨⟨λe=>absurd e (by decide),trivial⟩, ?_⟩))
 exact zX (qk (f:=aCA 94 _ _ _ _ _ _ _ _ _ _ _ _ _ _ _ _ _ _ _ _ _ _ _ _ _ _ _ _ _ _) K6 rfl (CB m))
 rintro _ j0 m
 exact v (CB m)
 exact v (bq7 m)
 rintro _ ⟨r2,r3⟩ m
 refine v (vl 1 (.agg (dX q0)) W4 rfl rfl rfl (ve λu=>bG (dX (VL 8)) u RK rfl rfl λk2413 K7=>qk K7 rfl (ve λu=>aJ 0 (dX q0) u rfl rfl rfl rfl L7 rfl rfl λK8=>qk K8 rfl (v (kD m (σ:=(Ar 8)×Int) (λs=> [(some k2413,.obj 183 (dX s.1)),(some k1783,.obj 181 (cT r2)),(some k13,.obj 183 (dX q0)),(some k8,.obj 181 (cT y6)),(some k2,.obj 36 (bH jI))]) (λs=>.c 2 (.ptr k2 0) (.c 3 (.ptr k8 0) (.c 4 (.ptr k13 0) (.c 5 (.sl none 1 (List.map cW y0)) (.c 6 (nZ q1) (.c 7 (.ptr k1783 0) (.c 12 (.ptr k2413 0) (.c 13 (nZ s.2) .nil)))))))) (lx (.k8 .nil)) ?_ ?_)))))
 rintro _ ⟨q6,q7⟩ x m
 replace m:C5 w y6 r2 q6 q7=some x:=m
 unfold C5 at m
 refine v (v ?_)
 apply vi m <;> intro c4 m
 refine v (v (v (vq (by kernel_rfl) ?_)))
 obtain⟨x6,X8,m⟩:=aC m
 refine bV (dU (y:=q6) X8 kF rfl rfl) (vn (λu=>eH (y:=q6) 0 X8 gZ rfl (aX 0 u rfl) (eI _)) ?_)
 obtain⟨x7,X9,m⟩:=aC m
 refine bV (dU (y:=q6) X9 kF rfl rfl) (vn (λu=>eH (y:=q6) 0 X9 gZ rfl (aX 0 u rfl) (eI _)) (v (vq (by kernel_rfl) ?_)))
 obtain⟨x8,X10,m⟩:=aC m
 refine bV (dU (y:=q6) X10 kF rfl rfl) (vn (λu=>eH (y:=q6) 0 X10 gZ rfl (aX 0 u rfl) (eI _)) (vk z8 qV m rfl rfl λy5 m=>vk z8 qV m rfl rfl λy7 m=>vk z8 qV m rfl rfl λy8 m=> ?_))
 obtain⟨x9,X11,m⟩:=aC m
 refine bV (dU (y:=q6) X11 kF rfl rfl) (vn (λu=>eH (y:=q6) 0 X11 gZ rfl (aX 0 u rfl) (eI _)) (bV (WM rfl rfl) ?_))
 obtain⟨x10,X12,m⟩:=aC m
 refine bV (dU (y:=q6) X12 kF rfl rfl) (vn (λu=>eH (y:=q6) 0 X12 gZ rfl (aX 0 u rfl) (eI _)) ?_)
 obtain⟨x11,X13,m⟩:=aC m
 refine bV (dU (y:=y6) X13 sQ rfl rfl) (vn (λu=>eH (y:=y6) 0 X13 gZ rfl (aX 3 u rfl) (eI _)) ?_)
 obtain⟨x12,X14,m⟩:=aC m
 refine bV (dU (y:=r2) X14 sQ rfl rfl) (vn (λu=>eH (y:=r2) 0 X14 gZ rfl (aX 1 u rfl) (eI _)) (v (vq (by kernel_rfl) (vk z8 qV m rfl rfl λy9 m=>vk z8 qV m rfl rfl λy10 m=>vk z8 qV m rfl rfl λy11 m=> ?_))))
 obtain⟨x13,X15,m⟩:=aC m
 refine bV (dU (y:=q6) X15 kF rfl rfl) (vn (λu=>eH (y:=q6) 0 X15 gZ rfl (aX 0 u rfl) (eI _)) ?_)
 obtain⟨x14,X16,m⟩:=aC m
 refine bV (dU (y:=q6) X16 kF rfl rfl) (vn (λu=>eH (y:=q6) 0 X16 gZ rfl (aX 0 u rfl) (eI _)) ?_)
 obtain⟨x15,X17,m⟩:=aC m
 refine bV (dU (y:=q6) X17 kF rfl rfl) (vn (λu=>eH (y:=q6) 0 X17 gZ rfl (aX 0 u rfl) (eI _)) ?_)
 obtain⟨x16,X18,m⟩:=aC m
 refine bV (dU (y:=q6) X18 kF rfl rfl) (vn (λu=>eH (y:=q6) 0 X18 gZ rfl (aX 0 u rfl) (eI _)) (v ?_))
 obtain⟨x17,X19,m⟩:=aC m
 refine bV (dU (y:=q6) X19 kF rfl rfl) (vn (λu=>eH (y:=q6) 0 X19 gZ rfl (aX 0 u rfl) (eI _)) ?_)
 obtain⟨x18,X20,m⟩:=aC m
 refine bV (dU (y:=q6) X20 kF rfl rfl) (vn (λu=>eH (y:=q6) 0 X20 gZ rfl (aX 0 u rfl) (eI _)) ?_)
 obtain⟨x19,X21,m⟩:=aC m
 refine bV (dU (y:=q6) X21 kF rfl rfl) (vn (λu=>eH (y:=q6) 0 X21 gZ rfl (aX 0 u rfl) (eI _)) ?_)
 obtain⟨x20,X22,m⟩:=aC m
 refine bV (dU (y:=q6) X22 kF rfl rfl) (vn (λu=>eH (y:=q6) 0 X22 gZ rfl (aX 0 u rfl) (eI _)) ?_)
 obtain⟨x21,X23,m⟩:=aC m
 refine bV (dU (y:=q6) X23 kF rfl rfl) (vn (λu=>eH (y:=q6) 0 X23 gZ rfl (aX 0 u rfl) (eI _)) ?_)
 obtain⟨x22,X24,m⟩:=aC m
 refine bV (dU (y:=q6) X24 kF rfl rfl) (vn (λu=>eH (y:=q6) 0 X24 gZ rfl (aX 0 u rfl) (eI _)) ?_)
 obtain⟨x23,X25,m⟩:=aC m
 refine bV (dU (y:=q6) X25 kF rfl rfl) (vn (λu=>eH (y:=q6) 0 X25 gZ rfl (aX 0 u rfl) (eI _)) (bV (B4 [IntKind.wrap .u32 ((IntKind.wrap .u32 ((IntKind.wrap .u32 ((IntKind.wrap .u32 ((IntKind.wrap .u32 (x8+(cC .xor .u32 (cC .xor .u32 y5 y7) y8)))+(cC .xor .u32 (cC .and .u32 x7 x9) (cC .and .u32 (cC .xor .u32 (IntKind.max .u32) x7) x10))))+x11))+x12))+(IntKind.wrap .u32 ((cC .xor .u32 (cC .xor .u32 y9 y10) y11)+(cC .xor .u32 (cC .xor .u32 (cC .and .u32 x6 x13) (cC .and .u32 x6 x14)) (cC .and .u32 x15 x16))))),x17,x18,x19,IntKind.wrap .u32 (x20+(IntKind.wrap .u32 ((IntKind.wrap .u32 ((IntKind.wrap .u32 ((IntKind.wrap .u32 (x8+(cC .xor .u32 (cC .xor .u32 y5 y7) y8)))+(cC .xor .u32 (cC .and .u32 x7 x9) (cC .and .u32 (cC .xor .u32 (IntKind.max .u32) x7) x10))))+x11))+x12))),x21,x22,x23] rfl L8 rfl rfl rfl) (ve λu=>aJ 0 (dX (⟨[IntKind.wrap .u32 ((IntKind.wrap .u32 ((IntKind.wrap .u32 ((IntKind.wrap .u32 ((IntKind.wrap .u32 (x8+(cC .xor .u32 (cC .xor .u32 y5 y7) y8)))+(cC .xor .u32 (cC .and .u32 x7 x9) (cC .and .u32 (cC .xor .u32 (IntKind.max .u32) x7) x10))))+x11))+x12))+(IntKind.wrap .u32 ((cC .xor .u32 (cC .xor .u32 y9 y10) y11)+(cC .xor .u32 (cC .xor .u32 (cC .and .u32 x6 x13) (cC .and .u32 x6 x14)) (cC .and .u32 x15 x16))))),x17,x18,x19,IntKind.wrap .u32 (x20+(IntKind.wrap .u32 ((IntKind.wrap .u32 ((IntKind.wrap .u32 ((IntKind.wrap .u32 (x8+(cC .xor .u32 (cC .xor .u32 y5 y7) y8)))+(cC .xor .u32 (cC .and .u32 x7 x9) (cC .and .u32 (cC .xor .u32 (IntKind.max .u32) x7) x10))))+x11))+x12))),x21,x22,x23],rfl⟩:Ar 8)) u rfl rfl rfl rfl L7 rfl rfl λK10=>qk K10 rfl ?_)))
 exact v (LJ m)
 exact v (bq8 m)
 rintro _ ⟨r4,r5⟩ m
 refine v (kD m (σ:=(Ar 8)×Int) (λs=> [(some k2413,.obj 183 (dX r4)),(some k1783,.obj 181 (cT r2)),(some k13,.obj 183 (dX s.1)),(some k8,.obj 181 (cT y6)),(some k2,.obj 36 (bH jI))]) (λs=>.c 2 (.ptr k2 0) (.c 3 (.ptr k8 0) (.c 4 (.ptr k13 0) (.c 5 (.sl none 1 (List.map cW y0)) (.c 6 (nZ q1) (.c 12 (.ptr k2413 0) (.c 18 (nZ s.2) .nil))))))) (lx (.k7 .nil)) ?_ ?_)
 rintro _ ⟨q8,q9⟩ x m
 replace m:C6 w r4 q8 q9=some x:=m
 unfold C6 at m
 refine v (v ?_)
 apply vi m <;> intro c5 m
 refine v (v (v (vz [(8,some k13,.obj 183 (dX q8)),(1000000,some k2413,.obj 183 (dX r4))] mixed (λu=>⟨λ_=>aK 2 u rfl,λ_=>aK 0 u rfl,trivial⟩) λu=>zI 0 rfl rfl ?_)))
 obtain⟨x24,X26,m⟩:=aC m
 refine zC 1 rfl (dU (y:=q8) X26 kF rfl rfl) (zR 2 rfl (λ_ _ hi hB=>eH (y:=q8) 0 X26 gZ rfl (At.s (f8.get 0 hi rfl (hB 8 (by kernel_rfl)))) (eI _)) (zI 3 rfl rfl ?_))
 obtain⟨x25,X27,m⟩:=aC m
 refine zC 4 rfl (dU (y:=r4) X27 kF rfl rfl) (zR 5 rfl (λ_ _ hi hB=>eH (y:=r4) 0 X27 gZ rfl (At.s (f8.get 1 hi rfl (hB 1000000 (by kernel_rfl)))) (eI _)) (zC 6 rfl (lJ rfl rfl rfl trivial) ?_))
 obtain⟨_,X28,m⟩:=aC m
 refine zC 7 rfl (dU (y:=q8) X28 kF rfl rfl) (zE 8 rfl (wQ (y:=q8) (v:=IntKind.wrap .u32 (x24+x25)) 2 u X28 rfl rfl rfl L5 λK12=>⟨⟨λe=>absurd e (by decide),λ_=>aK 0 K12 rfl,trivial⟩, ?_⟩))
 exact zX (qk (f:=VM 189 _ _ _ _ _ _ _ _ _) K12 rfl (v (CB m)))
 exact v (bq7 m)
 rintro _ ⟨r6,r7⟩ m
 exact v (B7 m (nD [2,3,4] rfl rfl (.k5 .nil)))
 exact v (WS m)
 rintro _ ⟨r8,r9⟩ m
 refine v (ve λu=>bG (bH jI) u JD rfl rfl λk2657 K13=>qk K13 rfl (v (kD m (σ:=bL×Int) (λs=> [(some k2657,.obj 36 (bH s.1)),(some k13,.obj 183 (dX r8)),(some k8,.obj 181 (cT y6)),(some k2,.obj 36 (bH jI))]) (λs=>.c 2 (.ptr k2 0) (.c 4 (.ptr k13 0) (.c 19 (.ptr k2657 0) (.c 20 (nZ s.2) .nil)))) (lx (.k4 .nil)) ?_ ?_)))
 rintro _ ⟨q10,q11⟩ x m
 replace m:w5 w r8 q10 q11=some x:=m
 unfold w5 at m
 refine v (v ?_)
 apply vi m <;> intro c6 m
 refine v (v (v ?_))
 obtain⟨x26,X29,m⟩:=aC m
 refine bV (dU (y:=r8) X29 kF rfl rfl) (vn (λu=>eH (y:=r8) 0 X29 gZ rfl (aX 1 u rfl) (eI _)) (RD m λ_ m=> ?_))
 obtain⟨_,X30,m⟩:=aC m
 exact bV (mA X30 sN rfl rfl) (ve λu=>wQ (y:=q10) (v:=IntKind.wrap .u8 (x26.fdiv (2 ^ (min ((IntKind.wrap .u64 (IntKind.wrap .i64 (24 - (IntKind.wrap .i64 (8*(q11.tmod 4)))))):Int).toNat (IntKind.bits .u32))))) 0 u X30 rfl rfl rfl sz5 λK15=>qk K15 rfl (v (gJ m)))
 exact v (zK m)
 rintro _ ⟨r10,r11⟩ m
 refine v (vl 0 (.agg (bH r10)) fL rfl rfl rfl (ve λu=>aJ 3 (bH r10) u rfl rfl rfl rfl JC rfl rfl λK17=>qk K17 rfl (v ?_)))
 obtain rfl:=eU m
 exact vr λu=>dZ.of1 (.inl rfl) (qT (.agg (bH r10)) fL rfl (aX 3 u rfl) rfl) (aW (List.nil_sublist _) u).1 (bB.refl _ _) ⟨rfl,rfl⟩
theorem aAH:aP Tryz.prog 87=true:=by kernel_rfl
open Go.Vm
def w6 (m:Nat) (p0:List dM) (q0:Int):Option (Lp (Int) (Int)):=
 if (decide (q0 < (p0.length:Int)))=true then (after ((ix p0 q0).bind λx0=>(CN m x0.Path).bind λy0=>if (!y0)=true then (some (.brk true)) else if (decide (0 < q0))=true then ((ix p0 q0).bind λx1=>(ix p0 (IntKind.wrap .i64 (q0 - 1))).bind λx2=>some (.brk (Op.bytesLess x1.Path.toList x2.Path.toList || x1.Path.toList==x2.Path.toList))) else some (.brk false):Option (Lp (Bool) (Lp (Int) (Int)))) λj0=>if j0=true then (some (.ret 1)) else some (.go (IntKind.wrap .i64 (q0+1)))) else some (.brk q0)
def NI (m:Nat) (p0:List dM):Option (Int):=
 (J0 m p0).bind λy4=>if y4=true then (some 2) else after (aU (λs=>w6 m p0 s) m 0) λr0=>some 0
theorem aFC {u:Nat} {p0:List dM} {o:Int} (h:aE) (m:NI u p0=some o):
 aL Tryz.prog 142 [.sl none 2 (List.map eM p0)] h (λr h'=>r=nZ o∧h'=h):=by
 refine fT 37 [.tmp 2] Tryz.func142 rfl rfl rfl rfl ?_
 unfold NI at m
 refine v (v (vk aAD SA m rfl rfl λ_ m=>v ?_))
 apply vi m <;> intro c6 m
 refine v (v ?_)
 obtain rfl:=eU m
 exact eA rfl
 refine v (v (kD m (σ:=Int) (λs=> []) (λs=>.c 0 (.sl none 2 (List.map eM p0)) (.c 3 (nZ s) .nil)) (lx (.k2 .nil)) ?_ ?_))
 rintro _ q0 x m
 replace m:w6 u p0 q0=some x:=m
 unfold w6 at m
 refine v (cY zT rfl (v ?_))
 apply vi m <;> intro c0 m
 refine v (v (vs (fQ m (σ:=Bool) (λs=> []) (λs=>.c 0 (.sl none 2 (List.map eM p0)) (.c 3 (nZ q0) (.c 36 (.sc (.bool s)) .nil))) (λx m=> ?_) ?_)))
 refine v (vq (by kernel_rfl) (vx m pH rfl rfl λ_ _ m=>vk MD EK m rfl rfl λ_ m=> ?_))
 apply vi m <;> intro b0 m
 rw[b0]
 exact gY m
 rw[b0]
 apply vi m <;> intro b1 m
 rw[b1]
 exact vx m pH rfl rfl λ_ _ m=>vx m pH rfl rfl λ_ _ m=>bV (BL rfl rfl rfl trivial) (gY m)
 rw[b1]
 exact gY m
 rintro _ j0 m
 refine v ?_
 apply vi m <;> intro c1 m
 refine v (v (gM m λm=> ?_))
 obtain rfl:=eU m
 exact eA rfl
 exact v (v (rF m))
 exact v (OH m)
 rintro _ r0 m
 refine v (v ?_)
 obtain rfl:=eU m
 exact eA rfl
theorem aAI:aP Tryz.prog 142=true:=by kernel_rfl
def w7 (m:Nat) (p0:List Int) (q0:Int) (q1:Int):Option (Lp (Int×Int) (Int)):=
 if (decide (q1 < (p0.length:Int)))=true then ((ix p0 q1).bind λx0=>after (if (decide (8≤(IntKind.wrap .i64 (q1+1))))=true then (if (((IntKind.wrap .u32 ((IntKind.wrap .u32 (q0*2))+(IntKind.wrap .u32 ((IntKind.wrap .u32 ((IntKind.wrap .u32 x0)+1))*2654435761)))).fdiv (2 ^ (min (28:Int).toNat (IntKind.bits .u32))))==0)=true then (some (.brk true)) else some (.brk ((IntKind.wrap .i64 (q1+1))==64))) else some (.brk ((IntKind.wrap .i64 (q1+1))==64)):Option (Lp (Bool) (Lp (Int×Int) (Int)))) λj0=>if j0=true then (some (.ret (IntKind.wrap .i64 (q1+1)))) else some (.go (IntKind.wrap .u32 ((IntKind.wrap .u32 (q0*2))+(IntKind.wrap .u32 ((IntKind.wrap .u32 ((IntKind.wrap .u32 x0)+1))*2654435761))),IntKind.wrap .i64 (q1+1)))) else some (.brk (q0,q1))
def NJ (m:Nat) (p0:List Int):Option (Int):=
 after (aU (λs=>w7 m p0 s.1 s.2) m (0,0)) λ⟨r0,r1⟩=>some (p0.length:Int)
theorem aFD {u:Nat} {p0:List Int} {o:Int} (h:aE) (m:NJ u p0=some o):
 aL Tryz.prog 184 [.sl none 1 (List.map cW p0)] h (λr h'=>r=nZ o∧h'=h):=by
 refine fT 38 [.tmp 2] Tryz.func184 rfl rfl rfl rfl ?_
 unfold NJ at m
 refine v (v (v (kD m (σ:=Int×Int) (λs=> []) (λs=>.c 0 (.sl none 1 (List.map cW p0)) (.c 3 (.sc (.int .u32 s.1)) (.c 4 (nZ s.2) .nil))) (lx (.k3 .nil)) ?_ ?_)))
 rintro _ ⟨q0,q1⟩ x m
 replace m:w7 u p0 q0 q1=some x:=m
 unfold w7 at m
 refine v (cY kR rfl (v ?_))
 apply vi m <;> intro c0 m
 refine v (v (v (vx m GG rfl rfl λx0 _ m=>vs (fQ m (σ:=Bool) (λs=> []) (λs=>.c 0 (.sl none 1 (List.map cW p0)) (.c 3 (.sc (.int .u32 (IntKind.wrap .u32 ((IntKind.wrap .u32 (q0*2))+(IntKind.wrap .u32 ((IntKind.wrap .u32 ((IntKind.wrap .u32 x0)+1))*2654435761)))))) (.c 4 (nZ q1) (.c 33 (.sc (.bool s)) .nil)))) (λx m=> ?_) ?_))))
 refine v ?_
 apply vi m <;> intro b0 m
 rw[b0]
 apply vi m <;> intro b1 m
 rw[b1]
 exact gJ m
 rw[b1]
 exact gJ m
 rw[b0]
 exact gJ m
 rintro _ j0 m
 refine v ?_
 apply vi m <;> intro c1 m
 refine v (v (gM m λm=> ?_))
 cases m
 exact eA rfl
 exact v (v (gY m))
 exact v (EC m)
 rintro _ ⟨r0,r1⟩ m
 refine v (cY kR rfl (v ?_))
 cases m
 exact eA rfl
theorem aAJ:aP Tryz.prog 184=true:=by kernel_rfl
def w8 (m:Nat) (q0:List (List Int)) (q1:List Int):Option (Lp ((List (List Int))×(List Int)) ((List (List Int)))):=
 if (decide (0 < (q1.length:Int)))=true then ((NJ m q1).bind λy0=>(slc q1 0 y0).bind λx0=>(vK m x0).bind λy1=>(app q0 ([y1]:List (List Int))).bind λz0=>(slc q1 y0 (q1).length).bind λx1=>some (.go (z0,x1))) else some (.brk (q0,q1))
def NK (m:Nat) (p0:List Int):Option ((List (List Int))):=
 after (aU (λs=>w8 m s.1 s.2) m ([],p0)) λ⟨r0,r1⟩=>some r0
theorem aFE {w:Nat} {p0:List Int} {o:(List (List Int))} (h:aE) (m:NK w p0=some o):
 aL Tryz.prog 143 [.sl none 1 (List.map cW p0)] h (λr h'=>r= .sl none 1 (List.map gU o)∧h'=h):=by
 refine fT 21 [.tmp 2] Tryz.func143 rfl rfl rfl rfl ?_
 unfold NK at m
 refine v (v (vs (rE (FG (.tok 41 1 (([]:List (List Int)).length*1)) 3 (ow none 1 (List.map gU [])) (jD _ _)) (pB m (σ:=(List (List Int))×(List Int)) (τ:=Option bY) (λg s=> [(g,.tok 41 1 ((s.1:List (List Int)).length*1))]) (λg s=>(g=none→s.1= [])) (λg s=>.c 0 (.sl none 1 (List.map cW s.2)) (.c 3 (ow g 1 (List.map gU s.1)) .nil)) none (λ_=>rfl) (lx (.k2 .nil)) ?_ ?_))))
 rintro tg0 ⟨q0,q1⟩ x t0 m
 replace m:w8 w q0 q1=some x:=m
 unfold w8 at m
 refine v (cY kR rfl (v ?_))
 apply vi m <;> intro c0 m
 refine v (v (v (vk aFD aAJ m rfl rfl λ_ m=>v ?_)))
 obtain⟨_,X0,m⟩:=aC m
 refine bV (pP X0 GG rfl rfl rfl rfl) (vk MN ER m rfl rfl λy0 m=>bV (eD (List.map gU ([y0]:List (List Int))) AU rfl rfl rfl rfl) ?_)
 obtain⟨z0,Z0,m⟩:=aC m
 refine ve λu=>e8 (c:=gU) 0 Z0 AU rfl rfl rfl t0 u rfl λtg1 t1 K0=>qk K0 rfl (v ?_)
 obtain⟨_,X1,m⟩:=aC m
 exact bV (pP X1 GG rfl rfl rfl rfl) (fB m tg1 t1 (lx (.k2 .nil)))
 exact v (mL m tg0 t0 (lx (.k2 .nil)))
 rintro tg2 ⟨r0,r1⟩ t2 m
 refine v (v ?_)
 obtain rfl:=eU m
 exact vr λu=>dZ.of1 (.inl rfl) (f0 _ _ (ow _ _ _) rfl) (aW (List.nil_sublist _) u).1 ((eQ _ 0 t2 u rfl)) ⟨rfl,rfl⟩
theorem aAK:aP Tryz.prog 143=true:=by kernel_rfl
def C8 (m:Nat) (y0:(List (List Int))) (q0:List bL) (q1:List (List Int)) (q2:List bL) (q3:Int):Option (Lp ((List bL)×(List (List Int))×(List bL)×Int) (Lp ((List dB)×(List (List Int))×(List bL)×Int) (aY×(List (List Int))×Int))):=
 if (decide (q3 < (y0.length:Int)))=true then ((ix y0 q3).bind λx0=>(V0 m x0).bind λy1=>(app q0 ([y1]:List bL)).bind λz0=>(EL m q2 y1).bind λy2=>after (if y2.2.2=true then ((slc q1 0 y2.2.1).bind λx1=>(ix y0 q3).bind λx2=>(app ([]:List (List Int)) x1).bind λz1=>(app z1 ([x2]:List (List Int))).bind λz2=>(slc q1 y2.2.1 (q1.length:Int)).bind λx3=>(app z2 x3).bind λz3=>some (.brk z3)) else some (.brk q1):Option (Lp ((List (List Int))) (Lp ((List bL)×(List (List Int))×(List bL)×Int) (Lp ((List dB)×(List (List Int))×(List bL)×Int) (aY×(List (List Int))×Int))))) λj0=>some (.go (z0,j0,y2.1,IntKind.wrap .i64 (q3+1)))) else some (.brk (q0,q1,q2,q3))
def C9 (m:Nat) (p1:List dM) (q0:List dB) (q1:List (List Int)) (q2:List bL) (q3:Int):Option (Lp ((List dB)×(List (List Int))×(List bL)×Int) (aY×(List (List Int))×Int)):=
 if (decide (q3 < (p1.length:Int)))=true then ((ix p1 q3).bind λx0=>(ix p1 q3).bind λx1=>(ix p1 q3).bind λx2=>(NK m x2.Data).bind λy0=>after (aU (λs=>C8 m y0 s.1 s.2.1 s.2.2.1 s.2.2.2) m ([],q1,q2,0)) λ⟨r0,r1,r2,r3⟩=>(app q0 ([({ Path:=x0.Path,Size:=(x1.Data.length:Int),Ids:=r0}:dB)]:List dB)).bind λz0=>some (.go (z0,r1,r2,IntKind.wrap .i64 (q3+1)))) else some (.brk (q0,q1,q2,q3))
def M86 (m:Nat) (p0:ByteArray) (p1:List dM):Option (aY×(List (List Int))×Int):=
 (CN m p0).bind λy7=>if (!y7)=true then (some (({ Name:=ByteArray.empty,Parts:= []}:aY), [],1)) else (NI m p1).bind λy0=>if (y0 !=0)=true then (some (({ Name:=ByteArray.empty,Parts:= []}:aY), [],y0)) else after (aU (λs=>C9 m p1 s.1 s.2.1 s.2.2.1 s.2.2.2) m ([], [], [],0)) λ⟨r0,r1,r2,r3⟩=>some (({ Name:=p0,Parts:=r0}:aY),r1,0)
theorem W86 {w:Nat} {p0:ByteArray} {p1:List dM} {o:aY×(List (List Int))×Int} (h:aE) (m:M86 w p0 p1=some o):
 aL Tryz.prog 86 [.sc (.string p0),.sl none 2 (List.map eM p1)] h (λr h'=>r= .tup [.agg (bC o.1),.sl none 1 (List.map gU o.2.1),nZ o.2.2]∧h'=h):=by
 refine fT 106 [.cell 4 58,.tmp 5,.tmp 6] Tryz.func86 rfl rfl rfl rfl ?_
 unfold M86 at m
 refine v (ve λu=>bG ([.sc (.string ByteArray.empty),sZ]) u LS rfl rfl λk2 K3=>qk K3 rfl (v (vk MD EK m rfl rfl λ_ m=>v ?_)))
 apply vi m <;> intro c9 m
 refine v (bV (eK ([.sc (.string ByteArray.empty),sZ]) LR rfl) (ve λu=>aJ 0 ([.sc (.string ByteArray.empty),sZ]) u rfl rfl rfl rfl zS rfl rfl λK0=>qk K0 rfl (v ?_)))
 cases m
 exact vr λu=>dZ.of3 (.inl rfl) (qT (.agg ([.sc (.string ByteArray.empty),sZ])) nU rfl (aX 0 u rfl) rfl) (f0 _ _ (.sc (.slice _ _ _)) rfl) (f0 _ _ (.sc (.int _ _)) rfl) (aW (List.nil_sublist _) u).1 (bB.agg (.cons (bB.refl _ _) (.cons (aR _) .nil))) (aR _) (bB.refl _ _) ⟨rfl,rfl⟩
 refine v (v (vk aFC aAI m rfl rfl λ_ m=>v (v ?_)))
 apply vi m <;> intro c0 m
 refine v (bV (eK ([.sc (.string ByteArray.empty),sZ]) LR rfl) (ve λu=>aJ 0 ([.sc (.string ByteArray.empty),sZ]) u rfl rfl rfl rfl zS rfl rfl λK1=>qk K1 rfl (v ?_)))
 cases m
 exact vr λu=>dZ.of3 (.inl rfl) (qT (.agg ([.sc (.string ByteArray.empty),sZ])) nU rfl (aX 0 u rfl) rfl) (f0 _ _ (.sc (.slice _ _ _)) rfl) (f0 _ _ (.sc (.int _ _)) rfl) (aW (List.nil_sublist _) u).1 (bB.agg (.cons (bB.refl _ _) (.cons (aR _) .nil))) (aR _) (bB.refl _ _) ⟨rfl,rfl⟩
 refine v (v (bV (eK ([.sc (.string p0),sZ]) LR rfl) (ve λu=>bG ([.sc (.string ByteArray.empty),sZ]) u LS rfl rfl λk21 K2=>qk K2 rfl (ve λu=>aJ 0 ([.sc (.string p0),sZ]) u rfl rfl rfl rfl zS rfl rfl λK4=>qk K4 rfl (v (v (v (rE (FG (.tok 41 1 (([]:List (List Int)).length*1)) 10 (ow none 1 (List.map gU [])) (jD _ _)) (rE (WR (.tok 70 3 (([]:List dB).length*3)) 2 ([.sc (.string p0),ow none 3 (List.map bT [])]) rfl (.cons (bB.refl _ _) (.cons (jD (c:=bT) _ 3) .nil))) (pB m (σ:=(List dB)×(List (List Int))×(List bL)×Int) (τ:=Option bY×Option bY) (λg s=> [(g.1,.tok 70 3 ((s.1:List dB).length*3)),(g.2,.tok 41 1 ((s.2.1:List (List Int)).length*1)),(some k21,.obj 58 ([.sc (.string p0),ow g.1 3 (List.map bT s.1)])),(some k2,.obj 58 ([.sc (.string ByteArray.empty),sZ]))]) (λg s=>(g.1=none→s.1= [])∧(g.2=none→s.2.1= [])) (λg s=>.c 1 (.sl none 2 (List.map eM p1)) (.c 4 (.ptr k2 0) (.c 8 (.ptr k21 0) (.c 9 (.sl none 32 (List.map bH s.2.2.1)) (.c 10 (ow g.2 1 (List.map gU s.2.1)) (.c 11 (nZ s.2.2.2) .nil)))))) (none,none) (⟨(λ_=>rfl),(λ_=>rfl)⟩) (lx (.k3 (.cons (aR _) (.k2 .nil)))) ?_ ?_))))))))))
 rintro⟨tg0,tg1⟩ ⟨q0,q1,q2,q3⟩ x ⟨t0,t1⟩ m
 replace m:C9 w p1 q0 q1 q2 q3=some x:=m
 unfold C9 at m
 refine v (cY zT rfl (v ?_))
 apply vi m <;> intro c1 m
 refine v (v (v (vz [] mixed (λu=>trivial) λu=>zC 0 rfl (eZ (.sl _ _ _) rfl) (zI 1 rfl rfl ?_))))
 obtain⟨x0,X0,m⟩:=aC m
 refine zC 2 rfl (oD X0 pH rfl rfl) (zC 3 rfl (o9 LY rfl rfl) (zC 4 rfl (pA (.sc (.string x0.Path)) wS rfl rfl) (zC 5 rfl (eZ (.sl _ _ _) rfl) (zI 6 rfl rfl ?_))))
 obtain⟨x1,X1,m⟩:=aC m
 refine zC 7 rfl (oD X1 pH rfl rfl) (zC 8 rfl (o9 LZ rfl rfl) (zC 9 rfl (pA (.sl none 1 (List.map cW x1.Data)) lL rfl rfl) (zC 10 rfl (rC kR rfl) (zC 11 rfl (eK ([.sc (.string x0.Path),nZ (x1.Data.length:Int),sZ]) aCP rfl) (zE 12 rfl (bG (VI) u GI rfl rfl λk2233 K5=>⟨trivial, ?_⟩))))))
 refine zE 13 rfl (aJ 0 ([.sc (.string x0.Path),nZ (x1.Data.length:Int),sZ]) K5 rfl rfl rfl rfl JG rfl rfl λK6=>⟨trivial, ?_⟩)
 refine zX (qk (f:=.c 12 _ (I8 49 _ _ _ _ _ _ _ _ _ _ _ _ _)) K6 rfl (v (vx m pH rfl rfl λ_ _ m=>vk aFE aAK m rfl rfl λy0 m=>v (rE (WR (.tok 36 32 (([]:List bL).length*32)) 1 ([.sc (.string x0.Path),nZ (x1.Data.length:Int),ow none 32 (List.map bH [])]) rfl (.k2 (.cons (jD (c:=bH) _ 32) .nil))) (pB m (σ:=(List bL)×(List (List Int))×(List bL)×Int) (τ:=Option bY×Option bY) (λg s=> [(g.1,.tok 36 32 ((s.1:List bL).length*32)),(some k2233,.obj 70 ([.sc (.string x0.Path),nZ (x1.Data.length:Int),ow g.1 32 (List.map bH s.1)])),(tg0,.tok 70 3 ((q0:List dB).length*3)),(g.2,.tok 41 1 ((s.2.1:List (List Int)).length*1)),(some k21,.obj 58 ([.sc (.string p0),ow tg0 3 (List.map bT q0)])),(some k2,.obj 58 ([.sc (.string ByteArray.empty),sZ]))]) (λg s=>(g.1=none→s.1= [])∧(g.2=none→s.2.1= [])) (λg s=>.c 1 (.sl none 2 (List.map eM p1)) (.c 4 (.ptr k2 0) (.c 8 (.ptr k21 0) (.c 9 (.sl none 32 (List.map bH s.2.2.1)) (.c 10 (ow g.2 1 (List.map gU s.2.1)) (.c 11 (nZ q3) (.c 12 (.ptr k2233 0) (.c 13 (.sl none 1 (List.map gU y0)) (.c 14 (nZ s.2.2.2) .nil))))))))) (none,tg1) (⟨(λ_=>rfl),t1⟩) (lx (.k9 .nil)) ?_ ?_)))))
 rintro⟨tg2,tg3⟩ ⟨q4,q5,q6,q7⟩ x ⟨t2,t3⟩ m
 replace m:C8 w y0 q4 q5 q6 q7=some x:=m
 unfold C8 at m
 refine v (cY RG rfl (v ?_))
 apply vi m <;> intro c2 m
 refine v (v (v (vx m AT rfl rfl λ_ _ m=>vk W87 aAH m rfl rfl λy1 m=>ve λu=>bG (bH jI) u JD rfl rfl λk2604 K7=>qk K7 rfl (ve λu=>aJ 0 (bH y1) u rfl rfl rfl rfl JC rfl rfl λK8=>qk K8 rfl (v (vl 2 (ow tg2 32 (List.map bH q4)) u0 rfl rfl rfl (vl 0 (.agg (bH y1)) fL rfl rfl rfl (bV (eD (List.map bH ([y1]:List bL)) CH rfl rfl rfl rfl) ?_))))))))
 obtain⟨z0,Z0,m⟩:=aC m
 refine ve λu=>e8 (c:=bH) 1 Z0 CH rfl rfl rfl t2 u rfl λtg4 t4 K9=>qk K9 rfl (ve λu=>aJ 2 ([.sc (.string x0.Path),nZ (x1.Data.length:Int),ow tg4 32 (List.map bH z0)]) u rfl rfl (jE rfl) (pO _ _ _) TH rfl rfl λK10=>qk K10 rfl (v (vl 0 (.agg (bH y1)) fL rfl rfl rfl (vk XO RR m rfl rfl λy2 m=>v (qM m (σ:=(List (List Int))) (τ:=Option bY) (λg s=> [(some k2604,.obj 36 (bH y1)),(tg4,.tok 36 32 ((z0:List bL).length*32)),(some k2233,.obj 70 ([.sc (.string x0.Path),nZ (x1.Data.length:Int),ow tg4 32 (List.map bH z0)])),(tg0,.tok 70 3 ((q0:List dB).length*3)),(g,.tok 41 1 ((s:List (List Int)).length*1)),(some k21,.obj 58 ([.sc (.string p0),ow tg0 3 (List.map bT q0)])),(some k2,.obj 58 ([.sc (.string ByteArray.empty),sZ]))]) (λg s=>(g=none→s= [])) (λg s=>.c 1 (.sl none 2 (List.map eM p1)) (.c 4 (.ptr k2 0) (.c 8 (.ptr k21 0) (.c 10 (ow g 1 (List.map gU s)) (.c 11 (nZ q3) (.c 12 (.ptr k2233 0) (.c 13 (.sl none 1 (List.map gU y0)) (.c 14 (nZ q7) (.c 16 (.sl none 32 (List.map bH y2.1)) .nil))))))))) (λx m=> ?_) ?_)))))
 refine v ?_
 apply vi m <;> intro c3 m
 refine v (v (vz [] mixed (λu=>trivial) λu=>zC 0 rfl (eZ (.sc (.slice _ _ _)) rfl) (zC 1 rfl (eZ (ow _ _ _) rfl) (zI 2 rfl rfl ?_))))
 obtain⟨_,X2,m⟩:=aC m
 refine zC 3 rfl (B3 X2 AT rfl t3 rfl rfl rfl) (zC 5 rfl (eZ (.sl _ _ _) rfl) (zI 6 rfl rfl ?_))
 obtain⟨x2,X3,m⟩:=aC m
 refine zC 7 rfl (oD X3 AT rfl rfl) (zC 8 rfl (pA (.sl none 1 (List.map cW x2)) lL rfl rfl) (zC 9 rfl (eD (List.map gU ([x2]:List (List Int))) AU rfl rfl rfl rfl) ?_))
 obtain⟨z1,Z1,m⟩:=aC m
 refine zE 4 rfl (oF (c:=gU) Z1 AU rfl rfl u nofun (nW (sL X2 t3)) λtg5 t5 K12=>⟨trivial, ?_⟩)
 obtain⟨z2,Z2,m⟩:=aC m
 refine zE 10 rfl (e8 (c:=gU) 0 Z2 AU rfl rfl rfl t5 K12 rfl λtg6 t6 K13=>⟨trivial, ?_⟩)
 refine zC 11 rfl (hU (ow _ _ _) rfl) (zX (qk (f:=.c 19 _ (.c 91 _ (.c 85 _ (fq5 90 _ _ _ _ _ (PF 84 _ _ _ _ _))))) K13 rfl (v ?_)))
 obtain⟨_,X4,m⟩:=aC m
 refine bV (B3 X4 AT rfl t3 rfl rfl rfl) ?_
 obtain⟨z3,Z3,m⟩:=aC m
 exact ve λu=>e8 (c:=gU) 0 Z3 AU rfl rfl rfl t6 u (nW (sL X4 t3)) λtg7 t7 K14=>qk K14 rfl (fB m tg7 t7 (nD [1,2,3,4,0,6,7] rfl rfl (.k9 .nil)))
 exact v (fB m tg3 t3 (lx (.k9 .nil)))
 rintro tg8 j0 t8 m
 exact v (v (fB m (tg4,tg8) ⟨t4,t8⟩ (nD [1,2,3,4,5,6] rfl rfl (.k9 .nil))))
 exact v (mL m (tg2,tg3) ⟨t2,t3⟩ (lx (.k9 .nil)))
 rintro⟨tg9,tg10⟩ ⟨r0,r1,r2,r3⟩ ⟨t9,t10⟩ m
 refine v (vl 4 (ow tg0 3 (List.map bT q0)) nE rfl rfl rfl (vl 1 (.agg ([.sc (.string x0.Path),nZ (x1.Data.length:Int),ow tg9 32 (List.map bH r0)])) CI rfl rfl rfl (ve λu=>CA (t:=100) (.agg (bT ({ Path:=x0.Path,Size:=(x1.Data.length:Int),Ids:=r0}:dB))) (aW (.cons _ (.refl _)) u).1 (bB.agg (.k2 (.cons (mW _ 0 t9 u rfl (.refl _)) .nil))) (a_v (eD (List.map bT ([({ Path:=x0.Path,Size:=(x1.Data.length:Int),Ids:=r0}:dB)]:List dB)) JE rfl rfl rfl rfl) (qk ((aW (.cons _ (.refl _)) u).2) rfl ?_)))))
 obtain⟨z4,Z4,m⟩:=aC m
 exact ve λu=>e8 (c:=bT) 1 Z4 JE rfl rfl rfl t0 u rfl λtg11 t11 K15=>qk K15 rfl (ve λu=>aJ 3 ([.sc (.string p0),ow tg11 3 (List.map bT z4)]) u rfl rfl (jE rfl) (pO _ _ _) S9 rfl rfl λK16=>qk K16 rfl (v (fB m (tg11,tg10) ⟨t11,t10⟩ (nD [1,2,3,4] rfl rfl (.k6 .nil)))))
 exact v (mL m (tg0,tg1) ⟨t0,t1⟩ (lx (.k6 .nil)))
 rintro⟨tg12,tg13⟩ ⟨r4,r5,r6,r7⟩ ⟨t12,t13⟩ m
 refine v (vl 2 (.agg ([.sc (.string p0),ow tg12 3 (List.map bT r4)])) nU rfl rfl rfl (ve λu=>aJ 3 ([.sc (.string p0),ow tg12 3 (List.map bT r4)]) u rfl rfl rfl (by repeat (first | exact rfl | refine cE (iE _ _ _) ?_ | refine cE (bZ _ _ _) ?_ | refine cE (fV _ _ _ _) ?_ | refine cE rfl ?_)) zS rfl rfl λK17=>qk K17 rfl ?_))
 refine v ?_
 cases m
 exact vr λu=>dZ.of3 (.inl rfl) (qT (.agg ([.sc (.string p0),ow tg12 3 (List.map bT r4)])) nU rfl (aX 3 u rfl) rfl) (f0 _ _ (ow _ _ _) rfl) (f0 _ _ (.sc (.int _ _)) rfl) (aW (List.nil_sublist _) u).1 (bB.agg (.cons (bB.refl _ _) (.cons ((eQ _ 0 t12 u rfl)) .nil))) ((eQ _ 1 t13 u rfl)) (bB.refl _ _) ⟨rfl,rfl⟩
theorem aFF:aP Tryz.prog 86=true:=by kernel_rfl
def DA (m:Nat) (p0:aA) (y0:aY×(List (List Int))×Int) (q0:List aB) (q1:Int):Option (Lp ((List aB)×Int) (aN×Bool)):=
 if (decide (q1 < (y0.2.1.length:Int)))=true then ((ix y0.2.1 q1).bind λx0=>(V0 m x0).bind λy1=>(KB m p0 y1).bind λy2=>after (if (decide (y2 < 0))=true then ((ix y0.2.1 q1).bind λx1=>(app q0 ([({ Id:=y1,Staged:=true,Data:=x1,Locs:= []}:aB)]:List aB)).bind λz0=>some (.brk z0)) else some (.brk q0):Option (Lp ((List aB)) (Lp ((List aB)×Int) (aN×Bool)))) λj0=>some (.go (j0,IntKind.wrap .i64 (q1+1)))) else some (.brk (q0,q1))
def DB (m:Nat) (p0:aA) (p1:nX) (q0:List aO) (q1:Int) (q2:Int):Option (Lp ((List aO)×Int×Int) (aN×Bool)):=
 after (if (decide (q2 < (IntKind.wrap .i64 ((IntKind.wrap .i64 ((p0.Chunks.length:Int)+(p0.Snaps.length:Int)))+(p0.Exps.length:Int)))))=true then (some (.brk (decide ((q0.length:Int) < 64)))) else some (.brk false):Option (Lp (Bool) (Lp ((List aO)×Int×Int) (aN×Bool)))) λj0=>if j0=true then (after (after (if (decide (q2 < (p1.Pick.length:Int)))=true then ((ix p1.Pick q2).bind λx0=>some (.brk (!x0))) else some (.brk false):Option (Lp (Bool) (Lp ((List aO)×Int) (Lp ((List aO)×Int×Int) (aN×Bool))))) λj1=>if j1=true then (some (.brk (q0,q1))) else after (if (decide (q2 < (p0.Chunks.length:Int)))=true then ((ix p0.Chunks q2).bind λx1=>some (.brk { { ({ Kind:=0,Id:=jI,Seq:=0,Of:=0,Off:=q1,Len:=20}:aO) with Kind:=1} with Id:=x1.Id})) else after (if (decide (q2 < (IntKind.wrap .i64 ((p0.Chunks.length:Int)+(p0.Snaps.length:Int)))))=true then ((ix p0.Snaps (IntKind.wrap .i64 (q2 - (p0.Chunks.length:Int)))).bind λx2=>some (.brk { { ({ Kind:=0,Id:=jI,Seq:=0,Of:=0,Off:=q1,Len:=20}:aO) with Kind:=2} with Seq:=x2.Seq})) else (ix p0.Exps (IntKind.wrap .i64 ((IntKind.wrap .i64 (q2 - (p0.Chunks.length:Int))) - (p0.Snaps.length:Int)))).bind λx3=>some (.brk { { { ({ Kind:=0,Id:=jI,Seq:=0,Of:=0,Off:=q1,Len:=20}:aO) with Kind:=3} with Seq:=x3.Seq} with Of:=x3.Of}):Option (Lp (aO) (Lp (aO) (Lp ((List aO)×Int) (Lp ((List aO)×Int×Int) (aN×Bool)))))) λj2=>some (.brk j2):Option (Lp (aO) (Lp ((List aO)×Int) (Lp ((List aO)×Int×Int) (aN×Bool))))) λj3=>(app q0 ([j3]:List aO)).bind λz0=>some (.brk (z0,IntKind.wrap .i64 (q1+20))):Option (Lp ((List aO)×Int) (Lp ((List aO)×Int×Int) (aN×Bool)))) λ⟨j4,j5⟩=>some (.go (j4,j5,IntKind.wrap .i64 (q2+1)))) else some (.brk (q0,q1,q2))
def M35 (m:Nat) (p0:aA) (p1:nX):Option (aN×Bool):=
 (LH ([IntKind.wrap .u8 (IntKind.wrap .u64 (97+((IntKind.wrap .u64 p1.N).tmod 5)))]:List Int)).bind λst0=>grd (decide ((ByteArray.mk #[110]).size+st0.size≤9223372036854775807)) <| after (if (decide (0 < (p0.Vols.length:Int)))=true then (grd ((IntKind.wrap .u64 (p0.Vols.length:Int)) !=0) <| some (.brk (IntKind.wrap .i64 ((IntKind.wrap .u64 p1.Vol).tmod (IntKind.wrap .u64 (p0.Vols.length:Int)))))) else some (.brk 0):Option (Lp (Int) (aN×Bool))) λj0=>after (if (((IntKind.wrap .u64 p1.Do).tmod 8)==0)=true then (some (.brk (((IntKind.wrap .u64 p1.Do).tmod 8)==0))) else some (.brk (((IntKind.wrap .u64 p1.Do).tmod 8)==1)):Option (Lp (Bool) (aN×Bool))) λj1=>if j1=true then ((M85 m p1.Tree).bind λy0=>if (y0.2 !=0)=true then (some (({ Kind:=0,Snap:=({ Seq:=0,Man:=({ Name:=ByteArray.empty,Parts:= []}:aY),Locs:= []}:aH),Chunks:= [],Seq:=0,Vol:=0,Items:= []}:aN),false)) else (M86 m ((ByteArray.mk #[110])++st0) y0.1).bind λy1=>after (aU (λs=>DA m p0 y1 s.1 s.2) m ([],0)) λ⟨r0,r1⟩=>some (({ Kind:=1,Snap:=({ Seq:=p0.Seq,Man:=y1.1,Locs:= []}:aH),Chunks:=r0,Seq:=0,Vol:=0,Items:= []}:aN),true)) else after (if (((IntKind.wrap .u64 p1.Do).tmod 8)==2)=true then (some (.brk (((IntKind.wrap .u64 p1.Do).tmod 8)==2))) else some (.brk (((IntKind.wrap .u64 p1.Do).tmod 8)==5)):Option (Lp (Bool) (aN×Bool))) λj2=>if j2=true then (if ((p0.Snaps.length:Int)==0)=true then (some (({ Kind:=0,Snap:=({ Seq:=0,Man:=({ Name:=ByteArray.empty,Parts:= []}:aY),Locs:= []}:aH),Chunks:= [],Seq:=0,Vol:=0,Items:= []}:aN),false)) else grd ((IntKind.wrap .u64 (p0.Snaps.length:Int)) !=0) <| (ix p0.Snaps (IntKind.wrap .i64 ((IntKind.wrap .u64 p1.N).tmod (IntKind.wrap .u64 (p0.Snaps.length:Int))))).bind λx0=>if (((IntKind.wrap .u64 p1.Do).tmod 8)==2)=true then (some (({ Kind:=2,Snap:=({ Seq:=0,Man:=({ Name:=ByteArray.empty,Parts:= []}:aY),Locs:= []}:aH),Chunks:= [],Seq:=x0.Seq,Vol:=0,Items:= []}:aN),true)) else some (({ Kind:=3,Snap:=({ Seq:=0,Man:=({ Name:=ByteArray.empty,Parts:= []}:aY),Locs:= []}:aH),Chunks:= [],Seq:=0,Vol:=j0,Items:=([({ Kind:=3,Id:=jI,Seq:=p0.Seq,Of:=x0.Seq,Off:=13,Len:=17}:aO)]:List aO)}:aN),true)) else after (if (((IntKind.wrap .u64 p1.Do).tmod 8)==3)=true then (some (.brk (((IntKind.wrap .u64 p1.Do).tmod 8)==3))) else some (.brk (((IntKind.wrap .u64 p1.Do).tmod 8)==4)):Option (Lp (Bool) (aN×Bool))) λj3=>if j3=true then (after (aU (λs=>DB m p0 p1 s.1 s.2.1 s.2.2) m ([],13,0)) λ⟨r2,r3,r4⟩=>some (({ Kind:=3,Snap:=({ Seq:=0,Man:=({ Name:=ByteArray.empty,Parts:= []}:aY),Locs:= []}:aH),Chunks:= [],Seq:=0,Vol:=j0,Items:=r2}:aN),decide (0 < (r2.length:Int)))) else if (((IntKind.wrap .u64 p1.Do).tmod 8)==6)=true then (some (({ Kind:=4,Snap:=({ Seq:=0,Man:=({ Name:=ByteArray.empty,Parts:= []}:aY),Locs:= []}:aH),Chunks:= [],Seq:=0,Vol:=j0,Items:= []}:aN),true)) else some (({ Kind:=5,Snap:=({ Seq:=0,Man:=({ Name:=ByteArray.empty,Parts:= []}:aY),Locs:= []}:aH),Chunks:= [],Seq:=0,Vol:=j0,Items:= []}:aN),true)
theorem W35 {w:Nat} {p0:aA} {p1:nX} {o:aN×Bool} (h:aE) (m:M35 w p0 p1=some o):
 aL Tryz.prog 35 [.agg (aF p0),.agg (fU p1)] h (λr h'=>r= .tup [.agg (aD o.1),.sc (.bool o.2)]∧h'=h):=by
 refine fT 248 [.cell 4 62,.tmp 5] Tryz.func35 rfl rfl rfl rfl ?_
 unfold M35 at m
 refine v (hX rfl rfl λk2 K3=>hX rfl rfl λk5 K6=>ve λu=>bG (xE) u LT rfl rfl λk8 K9=>qk K9 rfl (v (vl 1 _ cD rfl rfl rfl (bV (eD (List.map cW ([IntKind.wrap .u8 (IntKind.wrap .u64 (97+((IntKind.wrap .u64 p1.N).tmod 5)))]:List Int)) jH rfl rfl rfl rfl) ?_))))
 obtain⟨st0,hs0,m⟩:=aC m
 refine bV (ST (c:=cW) hs0 (λ_=>rfl) u41 u5 u9 rfl) ?_
 obtain⟨Z0,m⟩:=uQ m
 refine bV (BL rfl rfl rfl (of_decide_eq_true Z0)) (v (v (vl 2 _ kJ rfl rfl rfl (cY xX rfl (fQ m (σ:=Int) (λs=> [(some k8,.obj 62 (xE)),(some k5,.obj 67 (fU p1)),(some k2,.obj 30 (aF p0))]) (λs=>.c 2 (.ptr k2 0) (.c 3 (.ptr k5 0) (.c 4 (.ptr k8 0) (.c 6 (.sc (.string ((ByteArray.mk #[110])++st0))) (.c 7 (nZ s) .nil))))) (λx m=> ?_) ?_)))))
 refine v ?_
 apply vi m <;> intro c0 m
 exact v (vl 1 _ cD rfl rfl rfl (vl 2 _ kJ rfl rfl rfl (cY xX rfl (RD m λ_ m=>mC m))))
 exact v (mC m)
 rintro _ j0 m
 refine v (vl 1 _ cD rfl rfl rfl (v (v (fQ m (σ:=Bool) (λs=> [(some k8,.obj 62 (xE)),(some k5,.obj 67 (fU p1)),(some k2,.obj 30 (aF p0))]) (λs=>.c 2 (.ptr k2 0) (.c 3 (.ptr k5 0) (.c 4 (.ptr k8 0) (.c 6 (.sc (.string ((ByteArray.mk #[110])++st0))) (.c 7 (nZ j0) (.c 47 (.sc (.int .u64 ((IntKind.wrap .u64 p1.Do).tmod 8))) (.c 48 (.sc (.bool s)) .nil))))))) (λx m=> ?_) ?_))))
 refine v ?_
 apply vi m <;> intro c1 m
 exact v (CB m)
 exact v (CB m)
 rintro _ j1 m
 refine v ?_
 apply vi m <;> intro c2 m
 refine v (vl 1 _ aCM rfl rfl rfl (vk W85 aE9 m rfl rfl λ_ m=>v (v ?_)))
 apply vi m <;> intro c3 m
 refine v (bV (eK (xE) wM rfl) (ve λu=>aJ 0 (xE) u rfl rfl rfl rfl wL rfl rfl λK0=>qk K0 rfl (v ?_)))
 cases m
 exact vr λu=>dZ.of2 (.inl rfl) (qT (.agg (xE)) pG rfl (aX 0 u rfl) rfl) (f0 _ _ (.sc (.bool _)) rfl) (aW (List.nil_sublist _) u).1 (bB.agg (.k3 (.cons (aR _) (.cons (aR _) (.cons (aR _) (.k2 (.cons (aR _) .nil))))))) (bB.refl _ _) ⟨rfl,rfl⟩
 refine v (v (vk W86 aFF m rfl rfl λy0 m=>ve λu=>bG ([.sc (.string ByteArray.empty),sZ]) u LS rfl rfl λk44 K1=>qk K1 rfl (ve λu=>aJ 0 (bC y0.1) u rfl rfl rfl rfl zS rfl rfl λK2=>qk K2 rfl (v (vl 3 _ cD rfl rfl rfl (vl 0 (.agg (bC y0.1)) nU rfl rfl rfl (bV (eK (([nZ p0.Seq]:List AV)++bC y0.1++([sZ]:List AV)) PN rfl) (bV (eK (([nZ 1,nZ p0.Seq]:List AV)++bC y0.1++(zq6:List AV)) wM rfl) (ve λu=>bG (xE) u LT rfl rfl λk49 K4=>qk K4 rfl (ve λu=>aJ 0 (([nZ 1,nZ p0.Seq]:List AV)++bC y0.1++(zq6:List AV)) u rfl rfl rfl rfl wL rfl rfl λK5=>qk K5 rfl (v (rE (WR (.tok 44 35 (([]:List aB).length*35)) 1 (([nZ 1,nZ p0.Seq]:List AV)++bC y0.1++([sZ,ow none 35 (List.map aI []),nZ 0,nZ 0,sZ]:List AV)) rfl (.k2 (cU.app 2 rfl (.cons (bB.refl _ _) (.cons (jD (c:=aI) _ 35) (.k3 .nil)))))) (pB m (σ:=(List aB)×Int) (τ:=Option bY) (λg s=> [(g,.tok 44 35 ((s.1:List aB).length*35)),(some k49,.obj 62 (([nZ 1,nZ p0.Seq]:List AV)++bC y0.1++([sZ,ow g 35 (List.map aI s.1),nZ 0,nZ 0,sZ]:List AV))),(some k44,.obj 58 (bC y0.1)),(some k8,.obj 62 (xE)),(some k5,.obj 67 (fU p1)),(some k2,.obj 30 (aF p0))]) (λg s=>(g=none→s.1= [])) (λg s=>.c 2 (.ptr k2 0) (.c 4 (.ptr k8 0) (.c 11 (.sl none 1 (List.map gU y0.2.1)) (.c 13 (.ptr k49 0) (.c 14 (nZ s.2) .nil))))) none (λ_=>rfl) (lx (.k5 .nil)) ?_ ?_)))))))))))))
 rintro tg0 ⟨q0,q1⟩ x t0 m
 replace m:DA w p0 y0 q0 q1=some x:=m
 unfold DA at m
 refine v (cY RG rfl (v ?_))
 apply vi m <;> intro c4 m
 refine v (v (v (vx m AT rfl rfl λ_ _ m=>vk W87 aAH m rfl rfl λy1 m=>ve λu=>bG (bH jI) u JD rfl rfl λk255 K7=>qk K7 rfl (ve λu=>aJ 0 (bH y1) u rfl rfl rfl rfl JC rfl rfl λK8=>qk K8 rfl (v (vl 6 (.agg (aF p0)) eP rfl rfl rfl (vl 0 (.agg (bH y1)) fL rfl rfl rfl (vk W88 PU m rfl rfl λ_ m=>qM m (σ:=(List aB)) (τ:=Option bY) (λg s=> [(some k255,.obj 36 (bH y1)),(g,.tok 44 35 ((s:List aB).length*35)),(some k49,.obj 62 (([nZ 1,nZ p0.Seq]:List AV)++bC y0.1++([sZ,ow g 35 (List.map aI s),nZ 0,nZ 0,sZ]:List AV))),(some k44,.obj 58 (bC y0.1)),(some k8,.obj 62 (xE)),(some k5,.obj 67 (fU p1)),(some k2,.obj 30 (aF p0))]) (λg s=>(g=none→s= [])) (λg s=>.c 2 (.ptr k2 0) (.c 4 (.ptr k8 0) (.c 11 (.sl none 1 (List.map gU y0.2.1)) (.c 13 (.ptr k49 0) (.c 14 (nZ q1) .nil))))) (λx m=> ?_) ?_))))))))
 refine v ?_
 apply vi m <;> intro c5 m
 refine v (vz [(11,some k49,.obj 62 (([nZ 1,nZ p0.Seq]:List AV)++bC y0.1++([sZ,ow tg0 35 (List.map aI q0),nZ 0,nZ 0,sZ]:List AV))),(1000000,some k255,.obj 36 (bH y1))] mixed (λu=>⟨λ_=>aK 2 u rfl,λ_=>aK 0 u rfl,trivial⟩) λu=>zF 0 rfl mX rfl (zL 1 0 (ow tg0 35 (List.map aI q0)) rfl eO rfl rfl rfl (zL 2 1 (.agg (bH y1)) rfl fL rfl rfl rfl (zC 3 rfl (eZ (.sl _ _ _) rfl) (zI 4 rfl rfl ?_)))))
 obtain⟨x0,X0,m⟩:=aC m
 refine zC 5 rfl (oD X0 AT rfl rfl) (zC 6 rfl (pA (.sl none 1 (List.map cW x0)) lL rfl rfl) (zC 7 rfl (fG (y:=.agg (aI ({ Id:=y1,Staged:=true,Data:=x0,Locs:= []}:aB))) (eK (bH y1++([.sc (.bool true),.sl none 1 (List.map cW x0),sZ]:List AV)) WT rfl) (bB.agg (cU.app 32 rfl (.k2 (.cons (aR _) .nil))))) (zC 8 rfl (eD (List.map aI ([({ Id:=y1,Staged:=true,Data:=x0,Locs:= []}:aB)]:List aB)) lK rfl rfl rfl rfl) ?_)))
 obtain⟨z0,Z1,m⟩:=aC m
 refine zE 9 rfl (e8 (c:=aI) 1 Z1 lK rfl rfl rfl t0 u rfl λtg1 t1 K10=>⟨⟨λ_=>aK 2 K10 rfl,λ_=>aK 0 K10 rfl,trivial⟩, ?_⟩)
 refine zF 10 rfl mX rfl (zE 11 rfl (aJ 2 (([nZ 1,nZ p0.Seq]:List AV)++bC y0.1++([sZ,ow tg1 35 (List.map aI z0),nZ 0,nZ 0,sZ]:List AV)) K10 rfl rfl (jE rfl) (pO _ _ _) CC rfl rfl λK11=>⟨⟨λe=>absurd e (by decide),λ_=>aK 0 K11 rfl,trivial⟩, ?_⟩))
 exact zX (qk (f:=SZ 97 _ _ _ _ _ _ _ _ _ _ _ _) K11 rfl (fB m tg1 t1 (lx (.k5 .nil))))
 exact v (fB m tg0 t0 (lx (.k5 .nil)))
 rintro tg2 j2 t2 m
 exact v (fB m tg2 t2 (nD [1,2,3,4,5,6] rfl rfl (.k5 .nil)))
 exact v (mL m tg0 t0 (lx (.k5 .nil)))
 rintro tg3 ⟨r0,r1⟩ t3 m
 refine v (vl 1 (.agg (([nZ 1,nZ p0.Seq]:List AV)++bC y0.1++([sZ,ow tg3 35 (List.map aI r0),nZ 0,nZ 0,sZ]:List AV))) pG rfl rfl rfl (ve λu=>aJ 3 (([nZ 1,nZ p0.Seq]:List AV)++bC y0.1++([sZ,ow tg3 35 (List.map aI r0),nZ 0,nZ 0,sZ]:List AV)) u rfl rfl rfl (by repeat (first | exact rfl | refine cE (iE _ _ _) ?_ | refine cE (bZ _ _ _) ?_ | refine cE (fV _ _ _ _) ?_ | refine cE rfl ?_)) wL rfl rfl λK12=>qk K12 rfl ?_))
 refine v ?_
 cases m
 exact vr λu=>dZ.of2 (.inl rfl) (qT (.agg (([nZ 1,nZ p0.Seq]:List AV)++bC y0.1++([sZ,ow tg3 35 (List.map aI r0),nZ 0,nZ 0,sZ]:List AV))) pG rfl (aX 3 u rfl) rfl) (f0 _ _ (.sc (.bool _)) rfl) (aW (List.nil_sublist _) u).1 (bB.agg (.k2 (cU.app 2 rfl (.cons (aR _) (.cons ((eQ _ 0 t3 u rfl)) (.k2 (.cons (aR _) .nil))))))) (bB.refl _ _) ⟨rfl,rfl⟩
 refine v (fQ m (σ:=Bool) (λs=> [(some k8,.obj 62 (xE)),(some k5,.obj 67 (fU p1)),(some k2,.obj 30 (aF p0))]) (λs=>.c 2 (.ptr k2 0) (.c 3 (.ptr k5 0) (.c 4 (.ptr k8 0) (.c 7 (nZ j0) (.c 47 (.sc (.int .u64 ((IntKind.wrap .u64 p1.Do).tmod 8))) (.c 99 (.sc (.bool s)) .nil)))))) (λx m=> ?_) ?_)
 refine v ?_
 apply vi m <;> intro c6 m
 exact v (rG m)
 exact v (rG m)
 rintro _ j3 m
 refine v ?_
 apply vi m <;> intro c7 m
 refine v (vl 2 _ eV rfl rfl rfl (cY iQ rfl (v ?_)))
 apply vi m <;> intro c8 m
 refine v (bV (eK (xE) wM rfl) (ve λu=>aJ 0 (xE) u rfl rfl rfl rfl wL rfl rfl λK13=>qk K13 rfl (v ?_)))
 cases m
 exact vr λu=>dZ.of2 (.inl rfl) (qT (.agg (xE)) pG rfl (aX 0 u rfl) rfl) (f0 _ _ (.sc (.bool _)) rfl) (aW (List.nil_sublist _) u).1 (bB.agg (.k3 (.cons (aR _) (.cons (aR _) (.cons (aR _) (.k2 (.cons (aR _) .nil))))))) (bB.refl _ _) ⟨rfl,rfl⟩
 refine v (v (vz [(1000000,some k2,.obj 30 (aF p0)),(1000000,some k5,.obj 67 (fU p1))] mixed (λu=>⟨λ_=>aK 2 u rfl,λ_=>aK 1 u rfl,trivial⟩) λu=>zF 0 rfl dQ rfl (zL 1 0 (.sl none 4 (List.map bK p0.Snaps)) rfl eV rfl rfl rfl (zF 2 rfl TC rfl (zL 3 1 (nZ p1.N) rfl cD rfl rfl rfl (zC 4 rfl (BM RE JF rfl) (zF 5 rfl dQ rfl (zL 6 0 (.sl none 4 (List.map bK p0.Snaps)) rfl eV rfl rfl rfl (zC 7 rfl (rC iQ rfl) (zC 8 rfl (BM RE JF rfl) ?_))))))))))
 obtain⟨Z2,m⟩:=uQ m
 refine zC 9 rfl (lJ rfl rfl rfl (Q9 Z2)) (zC 10 rfl (BM JF RE rfl) ?_)
 obtain⟨x1,X1,m⟩:=aC m
 refine zC 11 rfl (oD X1 iX rfl rfl) (zC 12 rfl (pA (.agg (bK x1)) sO rfl rfl) (zE 13 rfl (bG (VJ) u sP rfl rfl λk329 K14=>⟨⟨λ_=>aK 3 K14 rfl,λ_=>aK 2 K14 rfl,trivial⟩, ?_⟩)))
 refine zE 14 rfl (aJ 0 (bK x1) K14 rfl rfl rfl rfl GH rfl rfl λK15=>⟨⟨λ_=>aK 3 K15 rfl,λ_=>aK 2 K15 rfl,trivial⟩, ?_⟩)
 refine zX (qk (f:=.c 16 _ (S0 119 _ _ _ _ _ _ _ _ _ _ _ _ _ _)) K15 rfl (v (vl 2 _ cD rfl rfl rfl (v ?_))))
 apply vi m <;> intro c9 m
 refine v (vl 0 _ cD rfl rfl rfl (bV (eK ([nZ 2,nZ 0,.sc (.string ByteArray.empty),sZ,sZ,sZ,nZ x1.Seq,nZ 0,sZ]) wM rfl) (ve λu=>aJ 1 ([nZ 2,nZ 0,.sc (.string ByteArray.empty),sZ,sZ,sZ,nZ x1.Seq,nZ 0,sZ]) u rfl rfl rfl rfl wL rfl rfl λK16=>qk K16 rfl (v ?_))))
 cases m
 exact vr λu=>dZ.of2 (.inl rfl) (qT (.agg ([nZ 2,nZ 0,.sc (.string ByteArray.empty),sZ,sZ,sZ,nZ x1.Seq,nZ 0,sZ])) pG rfl (aX 1 u rfl) rfl) (f0 _ _ (.sc (.bool _)) rfl) (aW (List.nil_sublist _) u).1 (bB.agg (.k3 (.cons (aR _) (.cons (aR _) (.cons (aR _) (.k2 (.cons (aR _) .nil))))))) (bB.refl _ _) ⟨rfl,rfl⟩
 refine v (v (vl 3 _ cD rfl rfl rfl (vl 0 _ cD rfl rfl rfl (bV (eK (aV ({ Kind:=3,Id:=jI,Seq:=p0.Seq,Of:=x1.Seq,Off:=13,Len:=17}:aO)) S7 rfl) (bV (eD (List.map aV ([({ Kind:=3,Id:=jI,Seq:=p0.Seq,Of:=x1.Seq,Off:=13,Len:=17}:aO)]:List aO)) LN rfl rfl rfl rfl) (bV (eK ([nZ 3,nZ 0,.sc (.string ByteArray.empty),sZ,sZ,sZ,nZ 0,nZ j0,.sl none 37 (List.map aV ([({ Kind:=3,Id:=jI,Seq:=p0.Seq,Of:=x1.Seq,Off:=13,Len:=17}:aO)]:List aO))]) wM rfl) (ve λu=>aJ 1 ([nZ 3,nZ 0,.sc (.string ByteArray.empty),sZ,sZ,sZ,nZ 0,nZ j0,.sl none 37 (List.map aV ([({ Kind:=3,Id:=jI,Seq:=p0.Seq,Of:=x1.Seq,Off:=13,Len:=17}:aO)]:List aO))]) u rfl rfl rfl rfl wL rfl rfl λK17=>qk K17 rfl (v ?_))))))))
 cases m
 exact vr λu=>dZ.of2 (.inl rfl) (qT (.agg ([nZ 3,nZ 0,.sc (.string ByteArray.empty),sZ,sZ,sZ,nZ 0,nZ j0,.sl none 37 (List.map aV ([({ Kind:=3,Id:=jI,Seq:=p0.Seq,Of:=x1.Seq,Off:=13,Len:=17}:aO)]:List aO))])) pG rfl (aX 1 u rfl) rfl) (f0 _ _ (.sc (.bool _)) rfl) (aW (List.nil_sublist _) u).1 (bB.agg (.k3 (.cons (aR _) (.cons (aR _) (.cons (aR _) (.k3 .nil)))))) (bB.refl _ _) ⟨rfl,rfl⟩
 refine v (fQ m (σ:=Bool) (λs=> [(some k8,.obj 62 (xE)),(some k5,.obj 67 (fU p1)),(some k2,.obj 30 (aF p0))]) (λs=>.c 2 (.ptr k2 0) (.c 3 (.ptr k5 0) (.c 4 (.ptr k8 0) (.c 7 (nZ j0) (.c 47 (.sc (.int .u64 ((IntKind.wrap .u64 p1.Do).tmod 8))) (.c 136 (.sc (.bool s)) .nil)))))) (λx m=> ?_) ?_)
 refine v ?_
 apply vi m <;> intro c10 m
 exact v (rG m)
 exact v (rG m)
 rintro _ j4 m
 refine v ?_
 apply vi m <;> intro c11 m
 refine v (v (v (rE (FG (.tok 38 37 (([]:List aO).length*37)) 17 (ow none 37 (List.map aV [])) (jD _ _)) (pB m (σ:=(List aO)×Int×Int) (τ:=Option bY) (λg s=> [(g,.tok 38 37 ((s.1:List aO).length*37)),(some k8,.obj 62 (xE)),(some k5,.obj 67 (fU p1)),(some k2,.obj 30 (aF p0))]) (λg s=>(g=none→s.1= [])) (λg s=>.c 2 (.ptr k2 0) (.c 3 (.ptr k5 0) (.c 4 (.ptr k8 0) (.c 7 (nZ j0) (.c 17 (ow g 37 (List.map aV s.1)) (.c 18 (nZ s.2.1) (.c 19 (nZ s.2.2) .nil))))))) none (λ_=>rfl) (lx (.k7 .nil)) ?_ ?_))))
 rintro tg4 ⟨q2,q3,q4⟩ x t4 m
 replace m:DB w p0 p1 q2 q3 q4=some x:=m
 unfold DB at m
 refine vs (vs (fQ m (σ:=Bool) (λs=> [(tg4,.tok 38 37 ((q2:List aO).length*37)),(some k8,.obj 62 (xE)),(some k5,.obj 67 (fU p1)),(some k2,.obj 30 (aF p0))]) (λs=>.c 2 (.ptr k2 0) (.c 3 (.ptr k5 0) (.c 4 (.ptr k8 0) (.c 7 (nZ j0) (.c 17 (ow tg4 37 (List.map aV q2)) (.c 18 (nZ q3) (.c 19 (nZ q4) (.c 156 (.sc (.bool s)) .nil)))))))) (λx m=> ?_) ?_))
 refine v (vl 3 _ eO rfl rfl rfl (cY jG rfl (vl 3 _ eV rfl rfl rfl (cY iQ rfl (vl 3 _ jN rfl rfl rfl (cY qN rfl ?_))))))
 apply vi m <;> intro b0 m
 rw[b0]
 exact bV (uR pE t4 rfl) (LJ m)
 rw[b0]
 exact LJ m
 rintro _ j5 m
 refine v ?_
 apply vi m <;> intro c12 m
 refine v (vs (qM m (σ:=(List aO)×Int) (τ:=Option bY) (λg s=> [(g,.tok 38 37 ((s.1:List aO).length*37)),(some k8,.obj 62 (xE)),(some k5,.obj 67 (fU p1)),(some k2,.obj 30 (aF p0))]) (λg s=>(g=none→s.1= [])) (λg s=>.c 2 (.ptr k2 0) (.c 3 (.ptr k5 0) (.c 4 (.ptr k8 0) (.c 7 (nZ j0) (.c 17 (ow g 37 (List.map aV s.1)) (.c 18 (nZ s.2) (.c 19 (nZ q4) .nil))))))) (λx m=> ?_) ?_))
 refine v (vs (vs (fQ m (σ:=Bool) (λs=> [(tg4,.tok 38 37 ((q2:List aO).length*37)),(some k8,.obj 62 (xE)),(some k5,.obj 67 (fU p1)),(some k2,.obj 30 (aF p0))]) (λs=>.c 2 (.ptr k2 0) (.c 3 (.ptr k5 0) (.c 4 (.ptr k8 0) (.c 7 (nZ j0) (.c 17 (ow tg4 37 (List.map aV q2)) (.c 18 (nZ q3) (.c 19 (nZ q4) (.c 171 (.sc (.bool s)) .nil)))))))) (λx m=> ?_) ?_)))
 refine v (vl 2 _ WY rfl rfl rfl (cY WX rfl ?_))
 apply vi m <;> intro b1 m
 rw[b1]
 exact vl 2 _ WY rfl rfl rfl (vx m aCN rfl rfl λ_ _ m=>LJ m)
 rw[b1]
 exact LJ m
 rintro _ j6 m
 refine v ?_
 apply vi m <;> intro c13 m
 exact v (fB m tg4 t4 (lx (.k7 .nil)))
 refine v (v (bV (eK (aV ({ Kind:=0,Id:=jI,Seq:=0,Of:=0,Off:=q3,Len:=20}:aO)) S7 rfl) (ve λu=>bG (([nZ 0]:List AV)++bH jI++(Q5:List AV)) u S8 rfl rfl λk1523 K18=>qk K18 rfl (ve λu=>aJ 0 (aV ({ Kind:=0,Id:=jI,Seq:=0,Of:=0,Off:=q3,Len:=20}:aO)) u rfl rfl rfl rfl S6 rfl rfl λK19=>qk K19 rfl (v (v (vl 4 _ eO rfl rfl rfl (cY jG rfl (fQ m (σ:=aO) (λs=> [(some k1523,.obj 38 (aV s)),(tg4,.tok 38 37 ((q2:List aO).length*37)),(some k8,.obj 62 (xE)),(some k5,.obj 67 (fU p1)),(some k2,.obj 30 (aF p0))]) (λs=>.c 2 (.ptr k2 0) (.c 3 (.ptr k5 0) (.c 4 (.ptr k8 0) (.c 7 (nZ j0) (.c 17 (ow tg4 37 (List.map aV q2)) (.c 18 (nZ q3) (.c 19 (nZ q4) (.c 20 (.ptr k1523 0) .nil)))))))) (λx m=> ?_) ?_)))))))))
 refine v ?_
 apply vi m <;> intro c14 m
 refine v (vz [(1000000,some k2,.obj 30 (aF p0)),(7,some k1523,.obj 38 (aV ({ Kind:=0,Id:=jI,Seq:=0,Of:=0,Off:=q3,Len:=20}:aO)))] mixed (λu=>⟨λ_=>aK 4 u rfl,λ_=>aK 0 u rfl,trivial⟩) λu=>zF 0 rfl eG rfl (zL 1 0 (.sl none 35 (List.map aI p0.Chunks)) rfl eO rfl rfl rfl (zI 2 rfl rfl ?_)))
 obtain⟨x2,X2,m⟩:=aC m
 refine zC 3 rfl (oD X2 fH rfl rfl) (zC 4 rfl (o9 oI rfl rfl) (zC 5 rfl (pA (.agg (bH x2.Id)) fL rfl rfl) (zF 6 rfl lR rfl (zE 7 rfl (aJ 0 (aV { ({ Kind:=0,Id:=jI,Seq:=0,Of:=0,Off:=q3,Len:=20}:aO) with Kind:=1}) u rfl rfl rfl rfl DN rfl rfl λK20=>⟨⟨λ_=>aK 4 K20 rfl,λe=>absurd e (by decide),trivial⟩, ?_⟩)))))
 refine zF 8 rfl uW rfl (zE 9 rfl (aJ 0 (aV { { ({ Kind:=0,Id:=jI,Seq:=0,Of:=0,Off:=q3,Len:=20}:aO) with Kind:=1} with Id:=x2.Id}) K20 rfl rfl rfl rfl JC rfl rfl λK21=>⟨⟨λ_=>aK 4 K21 rfl,λe=>absurd e (by decide),trivial⟩, ?_⟩))
 exact zX (qk (f:=VM 207 _ _ _ _ _ _ _ _ _) K21 rfl (LJ m))
 refine v (vl 4 _ eO rfl rfl rfl (cY jG rfl (vl 4 _ eV rfl rfl rfl (cY iQ rfl (fQ m (σ:=aO) (λs=> [(some k1523,.obj 38 (aV s)),(tg4,.tok 38 37 ((q2:List aO).length*37)),(some k8,.obj 62 (xE)),(some k5,.obj 67 (fU p1)),(some k2,.obj 30 (aF p0))]) (λs=>.c 2 (.ptr k2 0) (.c 3 (.ptr k5 0) (.c 4 (.ptr k8 0) (.c 7 (nZ j0) (.c 17 (ow tg4 37 (List.map aV q2)) (.c 18 (nZ q3) (.c 19 (nZ q4) (.c 20 (.ptr k1523 0) .nil)))))))) (λx m=> ?_) ?_)))))
 refine v ?_
 apply vi m <;> intro c15 m
 refine v (vz [(1000000,some k2,.obj 30 (aF p0)),(11,some k1523,.obj 38 (aV ({ Kind:=0,Id:=jI,Seq:=0,Of:=0,Off:=q3,Len:=20}:aO)))] mixed (λu=>⟨λ_=>aK 4 u rfl,λ_=>aK 0 u rfl,trivial⟩) λu=>zF 0 rfl dQ rfl (zL 1 0 (.sl none 4 (List.map bK p0.Snaps)) rfl eV rfl rfl rfl (zI 2 rfl rfl (zF 3 rfl eG rfl (zL 4 0 (.sl none 35 (List.map aI p0.Chunks)) rfl eO rfl rfl rfl (zC 5 rfl (rC jG rfl) (zC 6 rfl (lJ rfl rfl rfl trivial) ?_)))))))
 obtain⟨x3,X3,m⟩:=aC m
 refine zC 7 rfl (oD X3 iX rfl rfl) (zC 8 rfl (o9 uZ rfl rfl) (zC 9 rfl (pA (nZ x3.Seq) cD rfl rfl) (zF 10 rfl lR rfl (zE 11 rfl (aJ 0 (aV { ({ Kind:=0,Id:=jI,Seq:=0,Of:=0,Off:=q3,Len:=20}:aO) with Kind:=2}) u rfl rfl rfl rfl DN rfl rfl λK22=>⟨⟨λ_=>aK 4 K22 rfl,λe=>absurd e (by decide),trivial⟩, ?_⟩)))))
 refine zF 12 rfl kZ rfl (zE 13 rfl (aJ 0 (aV { { ({ Kind:=0,Id:=jI,Seq:=0,Of:=0,Off:=q3,Len:=20}:aO) with Kind:=2} with Seq:=x3.Seq}) K22 rfl rfl rfl rfl DN rfl rfl λK23=>⟨⟨λ_=>aK 4 K23 rfl,λe=>absurd e (by decide),trivial⟩, ?_⟩))
 exact zX (qk (f:=I8 229 _ _ _ _ _ _ _ _ _ _ _ _ _) K23 rfl (LJ m))
 refine v (vl 4 _ jN rfl rfl rfl (vl 4 _ eO rfl rfl rfl (cY jG rfl (vl 4 _ eV rfl rfl rfl (cY iQ rfl (vx m jY rfl rfl λx4 _ m=>va (.agg (cV x4)) CL rfl rfl (ve λu=>bG ([nZ 0,nZ 0,sZ]) u u6 rfl rfl λk1631 K24=>qk K24 rfl (ve λu=>aJ 0 (cV x4) u rfl rfl rfl rfl L2 rfl rfl λK25=>qk K25 rfl (v (vz [(1000000,some k1631,.obj 99 (cV x4)),(5,some k1523,.obj 38 (aV ({ Kind:=0,Id:=jI,Seq:=0,Of:=0,Off:=q3,Len:=20}:aO)))] mixed (λu=>⟨λ_=>aK 0 u rfl,λ_=>aK 1 u rfl,trivial⟩) λu=>zF 0 rfl GJ rfl (zL 1 0 (nZ x4.Seq) rfl cD rfl rfl rfl (zF 2 rfl TM rfl (zL 3 0 (nZ x4.Of) rfl cD rfl rfl rfl (zF 4 rfl lR rfl (zE 5 rfl (aJ 1 (aV { ({ Kind:=0,Id:=jI,Seq:=0,Of:=0,Off:=q3,Len:=20}:aO) with Kind:=3}) u rfl rfl rfl rfl DN rfl rfl λK26=>⟨⟨λ_=>aK 0 K26 rfl,λe=>absurd e (by decide),trivial⟩, ?_⟩))))))))))))))))
 refine zF 6 rfl kZ rfl (zE 7 rfl (aJ 1 (aV { { ({ Kind:=0,Id:=jI,Seq:=0,Of:=0,Off:=q3,Len:=20}:aO) with Kind:=3} with Seq:=x4.Seq}) K26 rfl rfl rfl rfl DN rfl rfl λK27=>⟨⟨λ_=>aK 0 K27 rfl,λe=>absurd e (by decide),trivial⟩, ?_⟩))
 refine zF 8 rfl uX rfl (zE 9 rfl (aJ 1 (aV { { { ({ Kind:=0,Id:=jI,Seq:=0,Of:=0,Off:=q3,Len:=20}:aO) with Kind:=3} with Seq:=x4.Seq} with Of:=x4.Of}) K27 rfl rfl rfl rfl DN rfl rfl λK28=>⟨⟨λ_=>aK 0 K28 rfl,λe=>absurd e (by decide),trivial⟩, ?_⟩))
 exact zX (qk (f:=fq7 193 _ _ _ _ _ _ _ _) K28 rfl (B7 m (nD [1,2,3,4,5] rfl rfl (.k8 .nil))))
 rintro _ j7 m
 exact LJ m
 rintro _ j8 m
 refine v (vl 0 (.agg (aV j8)) GB rfl rfl rfl (bV (eD (List.map aV ([j8]:List aO)) LN rfl rfl rfl rfl) ?_))
 obtain⟨z1,Z3,m⟩:=aC m
 exact ve λu=>e8 (c:=aV) 1 Z3 LN rfl rfl rfl t4 u rfl λtg5 t5 K29=>qk K29 rfl (fB m tg5 t5 (nD [1,2,3,4] rfl rfl (.k7 .nil)))
 rintro tg6 ⟨j9,j10⟩ t6 m
 exact v (fB m tg6 t6 (lx (.k7 .nil)))
 exact v (mL m tg4 t4 (lx (.k7 .nil)))
 rintro tg7 ⟨r2,r3,r4⟩ t7 m
 refine v (bV (eK ([nZ 3,nZ 0,.sc (.string ByteArray.empty),sZ,sZ,sZ,nZ 0,nZ j0,ow tg7 37 (List.map aV r2)]) wM (by cases tg7 <;> rfl)) (bV (uR pE t7 rfl) (ve λu=>aJ 1 ([nZ 3,nZ 0,.sc (.string ByteArray.empty),sZ,sZ,sZ,nZ 0,nZ j0,ow tg7 37 (List.map aV r2)]) u rfl rfl rfl (by repeat (first | exact rfl | refine cE (iE _ _ _) ?_ | refine cE (bZ _ _ _) ?_ | refine cE (fV _ _ _ _) ?_ | refine cE rfl ?_)) wL rfl rfl λK30=>qk K30 rfl ?_)))
 refine v ?_
 cases m
 exact vr λu=>dZ.of2 (.inl rfl) (qT (.agg ([nZ 3,nZ 0,.sc (.string ByteArray.empty),sZ,sZ,sZ,nZ 0,nZ j0,ow tg7 37 (List.map aV r2)])) pG rfl (aX 1 u rfl) rfl) (f0 _ _ (.sc (.bool _)) rfl) (aW (List.nil_sublist _) u).1 (bB.agg (.k3 (.cons (aR _) (.cons (aR _) (.cons (aR _) (.k2 (.cons ((eQ _ 0 t7 u rfl)) .nil))))))) (bB.refl _ _) ⟨rfl,rfl⟩
 refine v (v ?_)
 apply vi m <;> intro c16 m
 refine v (bV (eK ([nZ 4,nZ 0,.sc (.string ByteArray.empty),sZ,sZ,sZ,nZ 0,nZ j0,sZ]) wM rfl) (ve λu=>aJ 0 ([nZ 4,nZ 0,.sc (.string ByteArray.empty),sZ,sZ,sZ,nZ 0,nZ j0,sZ]) u rfl rfl rfl rfl wL rfl rfl λK31=>qk K31 rfl (v ?_)))
 cases m
 exact vr λu=>dZ.of2 (.inl rfl) (qT (.agg ([nZ 4,nZ 0,.sc (.string ByteArray.empty),sZ,sZ,sZ,nZ 0,nZ j0,sZ])) pG rfl (aX 0 u rfl) rfl) (f0 _ _ (.sc (.bool _)) rfl) (aW (List.nil_sublist _) u).1 (bB.agg (.k3 (.cons (aR _) (.cons (aR _) (.cons (aR _) (.k2 (.cons (aR _) .nil))))))) (bB.refl _ _) ⟨rfl,rfl⟩
 refine v (v (bV (eK ([nZ 5,nZ 0,.sc (.string ByteArray.empty),sZ,sZ,sZ,nZ 0,nZ j0,sZ]) wM rfl) (ve λu=>aJ 0 ([nZ 5,nZ 0,.sc (.string ByteArray.empty),sZ,sZ,sZ,nZ 0,nZ j0,sZ]) u rfl rfl rfl rfl wL rfl rfl λK32=>qk K32 rfl (v ?_))))
 cases m
 exact vr λu=>dZ.of2 (.inl rfl) (qT (.agg ([nZ 5,nZ 0,.sc (.string ByteArray.empty),sZ,sZ,sZ,nZ 0,nZ j0,sZ])) pG rfl (aX 0 u rfl) rfl) (f0 _ _ (.sc (.bool _)) rfl) (aW (List.nil_sublist _) u).1 (bB.agg (.k3 (.cons (aR _) (.cons (aR _) (.cons (aR _) (.k2 (.cons (aR _) .nil))))))) (bB.refl _ _) ⟨rfl,rfl⟩
theorem aFG:aP Tryz.prog 35=true:=by kernel_rfl
end Go.Proofs.YtbbifdfldpfphaaGreat
