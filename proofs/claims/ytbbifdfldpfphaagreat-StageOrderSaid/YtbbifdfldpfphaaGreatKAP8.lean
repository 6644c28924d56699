import Derived.Test.YtbbifdfldpfphaaGreatKAP4
import Derived.Test.YtbbifdfldpfphaaGreatKAP7
set_option linter.unusedSimpArgs false
set_option linter.unusedVariables false
set_option maxHeartbeats 4000000
set_option maxRecDepth 100000
open ByteArray(empty)
open Go.IntKind(wrap)
open List(map nil_sublist)
open Go.Proofs.Tryz(prog)
namespace Go.Proofs.YtbbifdfldpfphaaGreat
open Go.Vm
def rQ (m:Nat) (p1:aV) (q0:Bool) (q1:Int):Option (Lp (Bool×Int) (Lp (Int×fM) (Int×Int×fM))):=
 if decide (q1 < (p1.Chunks.length:Int)) then (after (if q0 then ((ix p1.Chunks q1).bind λx0=>if x0.Staged then ((ix p1.Chunks q1).bind λx1=>Bk ((x1.Locs.length:Int)==0)) else Bk false) else Bk false:Option (Lp (Bool) (Lp (Bool×Int) (Lp (Int×fM) (Int×Int×fM))))) λj0=>Gk (j0,wrap .i64 (q1+1))) else Bk (q0,q1)
def vS (m:Nat) (p1:aV) (q0:List aB) (q1:Int):Option (Lp ((List aB)×Int) (Lp (Int×fM) (Int×Int×fM))):=
 if decide (q1 < (p1.Chunks.length:Int)) then ((ix p1.Chunks q1).bind λx0=>(FD m q0 x0).bind λy0=>Gk (y0,wrap .i64 (q1+1))) else Bk (q0,q1)
def rR (m:Nat) (p1:aV) (q0:Bool) (q1:Int):Option (Lp (Bool×Int) (Lp (Int×fM) (Lp (Int×fM) (Lp (Int×fM) (Int×Int×fM))))):=
 if decide (q1 < (p1.Items.length:Int)) then (after (if q0 then ((ix p1.Items q1).bind λx0=>if decide (1<=x0.Kind) then ((ix p1.Items q1).bind λx1=>Bk (decide (x1.Kind<=3))) else Bk false) else Bk false:Option (Lp (Bool) (Lp (Bool×Int) (Lp (Int×fM) (Lp (Int×fM) (Lp (Int×fM) (Int×Int×fM))))))) λj0=>Gk (j0,wrap .i64 (q1+1))) else Bk (q0,q1)
def qF (m:Nat) (p0:aA) (p1:aV) (x0:aQ) (q0:Int) (q1:List aH) (q2:List aB) (q3:List aT) (q4:Int):Option (Lp (Int×(List aH)×(List aB)×(List aT)×Int) (Lp (Int×fM) (Lp (Int×fM) (Lp (Int×fM) (Int×Int×fM))))):=
 if decide (q4 < (p1.Items.length:Int)) then ((ix p1.Items q4).bind λx1=>(ix p1.Items q4).bind λx2=>(ix p1.Items q4).bind λx3=>(HI m ({ Seq:=q0,Snaps:=q1,Chunks:=q2,Exps:=q3,Vols:=(p0.Vols.set p1.Vol.toNat ({ x0 with State:=2})).set p1.Vol.toNat ({ ({ x0 with State:=2}:aQ) with Files:=wrap .i64 (x0.Files+1)})}:aA) x1 ({ Vol:=p1.Vol,File:=({ ({ x0 with State:=2}:aQ) with Files:=wrap .i64 (x0.Files+1)}:aQ).Files,Off:=x2.Off,Len:=x3.Len}:aS)).bind λy0=>if (!y0.1)then (Rk (.ret (.ret (.ret (8,y0.2.1,y0.2.2.1,y0.2.2.2.1,y0.2.2.2.2,(p0.Vols.set p1.Vol.toNat ({ x0 with State:=2})).set p1.Vol.toNat ({ ({ x0 with State:=2}:aQ) with Files:=wrap .i64 (x0.Files+1)})))))) else Gk (y0.2.1,y0.2.2.1,y0.2.2.2.1,y0.2.2.2.2,wrap .i64 (q4+1))) else Bk (q0,q1,q2,q3,q4)
def m7 (m:Nat) (p0:aA) (p1:aV) (x0:aQ) (r0:Int) (r1:List aT) (q0:List aH) (q1:List aB) (q2:Int):Option (Lp ((List aH)×(List aB)×Int) (Lp (Int×fM) (Lp (Int×fM) (Lp (Int×fM) (Int×Int×fM))))):=
 if decide (q2 < (p1.Items.length:Int)) then ((ix p1.Items q2).bind λx1=>after (if (x1.Kind==3)then ((ix p1.Items q2).bind λx2=>(CZ m ({ Seq:=r0,Snaps:=q0,Chunks:=q1,Exps:=r1,Vols:=(p0.Vols.set p1.Vol.toNat ({ x0 with State:=2})).set p1.Vol.toNat ({ ({ x0 with State:=2}:aQ) with Files:=wrap .i64 (x0.Files+1)})}:aA) x2.Of).bind λy0=>Bk (y0.2.1,y0.2.2)) else Bk (q0,q1):Option (Lp ((List aH)×(List aB)) (Lp ((List aH)×(List aB)×Int) (Lp (Int×fM) (Lp (Int×fM) (Lp (Int×fM) (Int×Int×fM))))))) λ⟨j0,j1⟩=>Gk (j0,j1,wrap .i64 (q2+1))) else Bk (q0,q1,q2)
def nK (m:Nat) (p0:aA) (p1:aV) (x0:aQ) (r0:Int) (r1:List aT) (r2:List aH) (q0:List aB) (q1:Int):Option (Lp ((List aB)×Int) (Lp ((List aB)) (Lp (Int×fM) (Lp (Int×fM) (Lp (Int×fM) (Int×Int×fM)))))):=
 if decide (q1 < (p1.Items.length:Int)) then ((ix p1.Items q1).bind λx1=>after (if (x1.Kind==1)then ((ix p1.Items q1).bind λx2=>(LI m ({ Seq:=r0,Snaps:=r2,Chunks:=q0,Exps:=r1,Vols:=(p0.Vols.set p1.Vol.toNat ({ x0 with State:=2})).set p1.Vol.toNat ({ ({ x0 with State:=2}:aQ) with Files:=wrap .i64 (x0.Files+1)})}:aA) x2.Id).bind λy0=>after (if decide (0<=y0) then ((ix q0 y0).bind λx3=>(ix (q0.set y0.toNat ({ x3 with Staged:=false})) y0).bind λx4=>Bk ((q0.set y0.toNat ({ x3 with Staged:=false})).set y0.toNat ({ x4 with Data:=([]:List Int)}))) else Bk q0:Option (Lp ((List aB)) (Lp ((List aB)) (Lp ((List aB)×Int) (Lp ((List aB)) (Lp (Int×fM) (Lp (Int×fM) (Lp (Int×fM) (Int×Int×fM))))))))) λj0=>Bk j0) else Bk q0:Option (Lp ((List aB)) (Lp ((List aB)×Int) (Lp ((List aB)) (Lp (Int×fM) (Lp (Int×fM) (Lp (Int×fM) (Int×Int×fM)))))))) λj1=>Gk (j1,wrap .i64 (q1+1))) else Bk (q0,q1)
def uI (m:Nat) (p0:aA) (p1:aV) (q0:List aB) (q1:Int):Option (Lp ((List aB)×Int) (Lp (fM) (Lp (Int×fM) (Lp (Int×fM) (Lp (Int×fM) (Int×Int×fM)))))):=
 if decide (q1 < (p0.Chunks.length:Int)) then ((ix p0.Chunks q1).bind λx0=>(HH m x0.Locs p1.Vol).bind λy0=>after (if ({ x0 with Locs:=y0}.Staged)then Bk true else Bk (decide (0 < (({ x0 with Locs:=y0}.Locs).length:Int))):Option (Lp (Bool) (Lp ((List aB)×Int) (Lp (fM) (Lp (Int×fM) (Lp (Int×fM) (Lp (Int×fM) (Int×Int×fM)))))))) λj0=>after (if j0 then ((app q0 ([{ x0 with Locs:=y0}]:List aB)).bind λz0=>Bk z0) else Bk q0:Option (Lp ((List aB)) (Lp ((List aB)×Int) (Lp (fM) (Lp (Int×fM) (Lp (Int×fM) (Lp (Int×fM) (Int×Int×fM)))))))) λj1=>Gk (j1,wrap .i64 (q1+1))) else Bk (q0,q1)
def uJ (m:Nat) (p1:aV) (q0:List aH) (q1:Int):Option (Lp ((List aH)×Int) (Lp (fM) (Lp (Int×fM) (Lp (Int×fM) (Lp (Int×fM) (Int×Int×fM)))))):=
 if decide (q1 < (q0.length:Int)) then ((ix q0 q1).bind λx0=>(HH m x0.Locs p1.Vol).bind λy0=>(ix q0 q1).bind λx1=>Gk (q0.set q1.toNat ({ x1 with Locs:=y0}),wrap .i64 (q1+1))) else Bk (q0,q1)
def uK (m:Nat) (p0:aA) (p1:aV) (q0:List aT) (q1:Int):Option (Lp ((List aT)×Int) (Lp (fM) (Lp (Int×fM) (Lp (Int×fM) (Lp (Int×fM) (Int×Int×fM)))))):=
 if decide (q1 < (p0.Exps.length:Int)) then ((ix p0.Exps q1).bind λx0=>(HH m x0.Locs p1.Vol).bind λy0=>after (if decide (0 < (({ x0 with Locs:=y0}.Locs).length:Int)) then ((app q0 ([{ x0 with Locs:=y0}]:List aT)).bind λz0=>Bk z0) else Bk q0:Option (Lp ((List aT)) (Lp ((List aT)×Int) (Lp (fM) (Lp (Int×fM) (Lp (Int×fM) (Lp (Int×fM) (Int×Int×fM)))))))) λj0=>Gk (j0,wrap .i64 (q1+1))) else Bk (q0,q1)
def rS (m:Nat) (p0:aA) (p1:aV):Option (Int×Int×fM):=
 after (if (p1.Kind==1)then (after (if (p1.Snap.Seq==p0.Seq)then (Bk ((p1.Snap.Locs.length:Int)==0)) else Bk false:Option (Lp (Bool) (Lp (Int×fM) (Int×Int×fM)))) λj0=>after (aR (λs=>rQ m p1 s.1 s.2) m (j0,0)) λ⟨r0,r1⟩=>if (!r0)then (Rk (1,p0.Seq,p0.Snaps,p0.Chunks,p0.Exps,p0.Vols)) else (yK m ({ Seq:=p0.Seq,Snaps:=p0.Snaps,Chunks:=p0.Chunks,Exps:=p0.Exps,Vols:=p0.Vols}:aA) p1.Snap.Man.Name).bind λy0=>if decide (0<=y0) then (Rk (9,p0.Seq,p0.Snaps,p0.Chunks,p0.Exps,p0.Vols)) else (app p0.Snaps ([p1.Snap]:List aH)).bind λz0=>after (aR (λs=>vS m p1 s.1 s.2) m (p0.Chunks,0)) λ⟨r2,r3⟩=>Bk (wrap .i64 (p0.Seq+1),z0,r2,p0.Exps,p0.Vols)) else after (if (p1.Kind==2)then ((CZ m ({ Seq:=p0.Seq,Snaps:=p0.Snaps,Chunks:=p0.Chunks,Exps:=p0.Exps,Vols:=p0.Vols}:aA) p1.Seq).bind λy1=>if (!y1.1)then (Rk (.ret (8,p0.Seq,y1.2.1,y1.2.2,p0.Exps,p0.Vols))) else Bk (p0.Seq,y1.2.1,y1.2.2,p0.Exps,p0.Vols)) else after (if (p1.Kind==3)then (after ((AF m ({ Seq:=p0.Seq,Snaps:=p0.Snaps,Chunks:=p0.Chunks,Exps:=p0.Exps,Vols:=p0.Vols}:aA) p1.Vol 1 2).bind λy2=>if y2 then (if decide (1<=(p1.Items.length:Int)) then (Bk (decide ((p1.Items.length:Int)<=64))) else Bk false) else Bk false:Option (Lp (Bool) (Lp (Int×fM) (Lp (Int×fM) (Lp (Int×fM) (Int×Int×fM)))))) λj1=>after (aR (λs=>rR m p1 s.1 s.2) m (j1,0)) λ⟨r4,r5⟩=>if (!r4)then (Rk (.ret (.ret (1,p0.Seq,p0.Snaps,p0.Chunks,p0.Exps,p0.Vols)))) else (ix p0.Vols p1.Vol).bind λx0=>after (aR (λs=>qF m p0 p1 x0 s.1 s.2.1 s.2.2.1 s.2.2.2.1 s.2.2.2.2) m (p0.Seq,p0.Snaps,p0.Chunks,p0.Exps,0)) λ⟨r6,r7,r8,r9,r10⟩=>after (aR (λs=>m7 m p0 p1 x0 r6 r9 s.1 s.2.1 s.2.2) m (r7,r8,0)) λ⟨r11,r12,r13⟩=>after (if ((({ ({ x0 with State:=2}:aQ) with Files:=wrap .i64 (x0.Files+1)}:aQ).Pool)==0)then (after (aR (λs=>nK m p0 p1 x0 r6 r9 r11 s.1 s.2) m (r12,0)) λ⟨r14,r15⟩=>Bk r14) else Bk r12:Option (Lp ((List aB)) (Lp (Int×fM) (Lp (Int×fM) (Lp (Int×fM) (Int×Int×fM)))))) λj2=>Bk (r6,r11,j2,r9,(p0.Vols.set p1.Vol.toNat ({ x0 with State:=2})).set p1.Vol.toNat ({ ({ x0 with State:=2}:aQ) with Files:=wrap .i64 (x0.Files+1)}))) else after (if (p1.Kind==4)then ((AF m ({ Seq:=p0.Seq,Snaps:=p0.Snaps,Chunks:=p0.Chunks,Exps:=p0.Exps,Vols:=p0.Vols}:aA) p1.Vol 2 2).bind λy3=>if (!y3)then (Rk (.ret (.ret (.ret (1,p0.Seq,p0.Snaps,p0.Chunks,p0.Exps,p0.Vols))))) else (ix p0.Vols p1.Vol).bind λx1=>(ix (p0.Vols.set p1.Vol.toNat ({ x1 with State:=3})) p1.Vol).bind λx2=>after (aR (λs=>uI m p0 p1 s.1 s.2) m ([],0)) λ⟨r16,r17⟩=>after (aR (λs=>uJ m p1 s.1 s.2) m (p0.Snaps,0)) λ⟨r18,r19⟩=>after (aR (λs=>uK m p0 p1 s.1 s.2) m ([],0)) λ⟨r20,r21⟩=>Bk (r18,r16,r20,(p0.Vols.set p1.Vol.toNat ({ x1 with State:=3})).set p1.Vol.toNat ({ x2 with Files:=0}))) else after (if (p1.Kind==5)then ((AF m ({ Seq:=p0.Seq,Snaps:=p0.Snaps,Chunks:=p0.Chunks,Exps:=p0.Exps,Vols:=p0.Vols}:aA) p1.Vol 3 3).bind λy4=>if (!y4)then (Rk (.ret (.ret (.ret (.ret (1,p0.Seq,p0.Snaps,p0.Chunks,p0.Exps,p0.Vols)))))) else (ix p0.Vols p1.Vol).bind λx3=>(ix p0.Vols p1.Vol).bind λx4=>(ix (p0.Vols.set p1.Vol.toNat ({ x4 with State:=1})) p1.Vol).bind λx5=>Bk ((p0.Vols.set p1.Vol.toNat ({ x4 with State:=1})).set p1.Vol.toNat ({ x5 with Epoch:=wrap .i64 (x3.Epoch+1)}))) else Bk p0.Vols:Option (Lp ((List aQ)) (Lp (fM) (Lp (Int×fM) (Lp (Int×fM) (Lp (Int×fM) (Int×Int×fM))))))) λj3=>Bk (p0.Snaps,p0.Chunks,p0.Exps,j3):Option (Lp (fM) (Lp (Int×fM) (Lp (Int×fM) (Lp (Int×fM) (Int×Int×fM)))))) λ⟨j4,j5,j6,j7⟩=>Bk (p0.Seq,j4,j5,j6,j7):Option (Lp (Int×fM) (Lp (Int×fM) (Lp (Int×fM) (Int×Int×fM))))) λ⟨j8,j9,j10,j11,j12⟩=>Bk (j8,j9,j10,j11,j12):Option (Lp (Int×fM) (Lp (Int×fM) (Int×Int×fM)))) λ⟨j13,j14,j15,j16,j17⟩=>Bk (j13,j14,j15,j16,j17):Option (Lp (Int×fM) (Int×Int×fM))) λ⟨j18,j19,j20,j21,j22⟩=>some (0,j18,j19,j20,j21,j22)
theorem W91 {w:Nat} {p0:aA} {p1:aV} {o:Int×Int×fM} (h:aF) {p0K:bT} {gS:dE} (ok_Snaps:bK gS 4 p0.Snaps.length) {gC:dE} (oC:bK gC 35 p0.Chunks.length) {gE:dE} (oE:bK gE 3 p0.Exps.length) {gV:dE} (oV:bK gV 4 p0.Vols.length) (K0:bP h (hC p0K p0 gS gC gE gV)) (m:rS w p0 p1=some o):
 aM prog 91 [.ptr p0K 0,.agg (aJ p1)] (hp h (hC p0K p0 gS gC gE gV)) (λr h'=>∃g_Snaps':dE,bK g_Snaps' 4 (o.2.2.1:List aH).length/\∃g_Chunks':dE,bK g_Chunks' 35 (o.2.2.2.1:List aB).length/\∃g_Exps':dE,bK g_Exps' 3 (o.2.2.2.2.1:List aT).length/\∃g_Vols':dE,bK g_Vols' 4 (o.2.2.2.2.2:List aQ).length/\bP h (hL p0K o.2.1 g_Snaps' g_Chunks' g_Exps' g_Vols' o.2.2.1 o.2.2.2.1 o.2.2.2.2.1 o.2.2.2.2.2)/\r=nZ o.1/\h'=hp h (hL p0K o.2.1 g_Snaps' g_Chunks' g_Exps' g_Vols' o.2.2.1 o.2.2.2.1 o.2.2.2.2.1 o.2.2.2.2.2)):=by
 refine F1 K0 443 [.tmp 4] Tryz.func91 rfl rfl rfl rfl ?_
 unfold rS at m
 refine vs (v0 (gZ rfl rfl λk2 K3=>vs (vs (v0 (dY CG rfl rfl (vl 0 _ cB rfl rfl rfl (v0 (vs (v0 (oI m (σ:=Int×fM) (τ:=dE×dE×dE×dE) (λg s=>((some k2,.obj 62 (aJ p1))::(hL p0K s.1 g.1 g.2.1 g.2.2.1 g.2.2.2 s.2.1 s.2.2.1 s.2.2.2.1 s.2.2.2.2))) (λg s=>bK g.1 4 (s.2.1:List aH).length/\bK g.2.1 35 (s.2.2.1:List aB).length/\bK g.2.2.1 3 (s.2.2.2.1:List aT).length/\bK g.2.2.2 4 (s.2.2.2.2:List aQ).length) (λg s=>.nil) (λx m=> ?_) ?_))))))))))
 refine v0 ?_
 apply vi m<;>intro c0 m
 refine vs (fO m (σ:=Bool) (λs=>((some k2,.obj 62 (aJ p1))::(hC p0K p0 gS gC gE gV))) (λs=>.c 0 (.ptr p0K 0) (.c 3 (.ptr k2 0) (.c 5 (.sc (.bool s)) .nil))) (λx m=> ?_) ?_)
 refine v0 (CL (by kernel_rfl) (dY pX rfl rfl (dY CF rfl rfl (vl 0 _ cB rfl rfl rfl (l4 rfl (dY rG rfl rfl (vl 1 _ cB rfl rfl rfl ?_)))))))
 apply vi m<;>intro b0 m
 rw[b0]
 exact dY pX rfl rfl (dY lJ rfl rfl (vl 0 _ fW rfl rfl rfl (cU kB rfl (hH m))))
 rw[b0]
 exact hH m
 rintro _ j0 m
 refine vs (vs (v0 (jS m (σ:=Bool×Int) (λs=>((some k2,.obj 62 (aJ p1))::(hC p0K p0 gS gC gE gV))) (λs=>.c 0 (.ptr p0K 0) (.c 3 (.ptr k2 0) (.c 5 (.sc (.bool s.1)) (.c 6 (nZ s.2) .nil)))) (lx (.k4 .nil)) ?_ ?_)))
 rintro _ ⟨q0,q1⟩ x m
 replace m:rQ w p1 q0 q1=some x:=m
 unfold rQ at m
 refine vs (vs (v0 (dY oP rfl rfl (vl 0 _ fE rfl rfl rfl (cU lH rfl (v0 ?_))))))
 apply vi m<;>intro c1 m
 refine v0 (vs (v0 (fO m (σ:=Bool) (λs=>((some k2,.obj 62 (aJ p1))::(hC p0K p0 gS gC gE gV))) (λs=>.c 0 (.ptr p0K 0) (.c 3 (.ptr k2 0) (.c 5 (.sc (.bool s)) (.c 6 (nZ q1) .nil)))) (λx m=> ?_) ?_)))
 refine v0 ?_
 apply vi m<;>intro b1 m
 rw[b1]
 refine dY oP rfl rfl (vl 0 _ fE rfl rfl rfl (vx m hX rfl rfl λx0 _ m=>bU (m9 pV rfl rfl) (va (.sc (.bool x0.Staged)) GV rfl rfl ?_)))
 apply vi m<;>intro b2 m
 rw[b2]
 exact dY oP rfl rfl (vl 0 _ fE rfl rfl rfl (vx m hX rfl rfl λx1 _ m=>bU (m9 jW rfl rfl) (va (.sl none 4 (map aN x1.Locs)) fW rfl rfl (cU kB rfl (fZ m)))))
 rw[b2]
 exact fZ m
 rw[b1]
 exact fZ m
 rintro _ j1 m
 exact v0 (fZ m)
 exact v0 (vB m)
 rintro _ ⟨r0,r1⟩ m
 refine vs (vs (v0 (v0 ?_)))
 apply vi m<;>intro c2 m
 refine vs (v0 (v0 (fY m λm=> ?_)))
 cases m
 exact vr λu=>dW.of1 (.inl rfl) (gQ _ _ (.sc (.int _ _)) rfl) (bQ u [1,2,3,4,5] rfl).2 (bD.refl _ _) ⟨gS,ok_Snaps,gC,oC,gE,oE,gV,oV,(bQ u [1,2,3,4,5] rfl).1,rfl,rfl⟩
 refine v0 (vs (vs (v0 (CL (by kernel_rfl) (l4 rfl (vl 1 (.agg ([nZ p0.Seq,aZ gS,aZ gC,aZ gE,aZ gV])) dC rfl rfl rfl (dY pX rfl rfl (dY rK rfl rfl (dY VB rfl rfl (vl 0 _ IC rfl rfl rfl ?_))))))))))
 obtain⟨_,Y0,m⟩:=aD m
 refine vn (λu=>bV (fN (.cons (Br.agg (.cons (Br.refl _ _) (.cons (Br.aw 2 eP ok_Snaps u rfl) (.cons (Br.aw 3 cZ oC u rfl) (.cons (Br.aw 4 gH oE u rfl) (.cons (Br.aw 5 eW oV u rfl) .nil)))))) (.cons (Br.refl _ _) .nil)) rfl (VV _ Y0)) rfl NI rfl) (v0 ?_)
 apply vi m<;>intro c3 m
 refine vs (v0 (v0 (fY m λm=> ?_)))
 cases m
 exact vr λu=>dW.of1 (.inl rfl) (gQ _ _ (.sc (.int _ _)) rfl) (bQ u [1,2,3,4,5] rfl).2 (bD.refl _ _) ⟨gS,ok_Snaps,gC,oC,gE,oE,gV,oV,(bQ u [1,2,3,4,5] rfl).1,rfl,rfl⟩
 refine v0 (vs (v0 (l4 rfl (dY rG rfl rfl (vl 1 _ cB rfl rfl rfl (l4 rfl (dY rG rfl rfl (ve λu=>aL 1 ([nZ (wrap .i64 (p0.Seq+1)),aZ gS,aZ gC,aZ gE,aZ gV]) u rfl rfl rfl rfl A2 rfl rfl λK1=>qk K1 rfl (vs (v0 (vz [(11,some p0K,.obj 30 ([nZ (wrap .i64 (p0.Seq+1)),aZ gS,aZ gC,aZ gE,aZ gV])),(1000000,some k2,.obj 62 (aJ p1))] mixed (λu=>⟨λ_=>aO 1 u rfl,λ_=>aO 0 u rfl,trivial⟩) λu=>zP 0 rfl rfl (zP 1 rfl rfl (zN 2 rfl rfl (zF 3 rfl eM rfl (zL 4 0 (aZ gS) rfl fD rfl rfl rfl (zF 5 rfl pX rfl (zL 6 1 (.agg (bJ p1.Snap)) rfl sR rfl rfl rfl (zC 7 rfl (dX (map bJ ([p1.Snap]:List aH)) EG rfl rfl rfl rfl) ?_))))))))))))))))))
 obtain⟨z0,Z0,m⟩:=aD m
 refine zE 8 rfl (gG (c:=bJ) 2 Z0 EG rfl xZ rfl eP rfl rfl ok_Snaps u rfl λag0 O0 K2=>⟨⟨λ_=>aO 1 K2 rfl,λ_=>aO 0 K2 rfl,trivial⟩, ?_⟩)
 refine zN 9 rfl rfl (zF 10 rfl eM rfl (zE 11 rfl (aL 1 ([nZ (wrap .i64 (p0.Seq+1)),aZ ag0,aZ gC,aZ gE,aZ gV]) K2 rfl rfl (cM rfl) (cG (cC _ _ _) rfl) MM rfl rfl λK4=>⟨⟨λe=>absurd e (by decide),λ_=>aO 0 K4 rfl,trivial⟩, ?_⟩)))
 refine zX (qk (f:=U5 95 _ _ _ _ _ _ _ _ _ _ _ _) K4 rfl (vs (v0 (nU m (σ:=(List aB)×Int) (τ:=dE) (λg s=>((some k2,.obj 62 (aJ p1))::(hL p0K (wrap .i64 (p0.Seq+1)) ag0 g gE gV z0 s.1 p0.Exps p0.Vols))) (λg s=>bK g 35 (s.1:List aB).length) (λg s=>.c 0 (.ptr p0K 0) (.c 3 (.ptr k2 0) (.c 7 (nZ s.2) .nil))) gC oC (lx (.k3 .nil)) ?_ ?_))))
 rintro ag1 ⟨q2,q3⟩ x O1 m
 replace m:vS w p1 q2 q3=some x:=m
 unfold vS at m
 refine vs (vs (v0 (dY oP rfl rfl (vl 0 _ fE rfl rfl rfl (cU lH rfl (v0 ?_))))))
 apply vi m<;>intro c4 m
 refine v0 (vs (v0 (v0 (vz [(13,some p0K,.obj 30 ([nZ (wrap .i64 (p0.Seq+1)),aZ ag0,aZ ag1,aZ gE,aZ gV])),(1000000,some k2,.obj 62 (aJ p1))] mixed (λu=>⟨λ_=>aO 1 u rfl,λ_=>aO 0 u rfl,trivial⟩) λu=>zP 0 rfl rfl (zP 1 rfl rfl (zN 2 rfl rfl (zF 3 rfl fF rfl (zL 4 0 (aZ ag1) rfl fE rfl rfl rfl (zF 5 rfl oP rfl (zL 6 1 (.sl none 35 (map aK p1.Chunks)) rfl fE rfl rfl rfl (zI 7 rfl rfl ?_)))))))))))
 obtain⟨x2,X0,m⟩:=aD m
 refine zC 8 rfl (lV X0 hX rfl rfl) (zC 9 rfl (l8 (.agg (aK x2)) pH rfl rfl) ?_)
 obtain⟨_,Y1,m⟩:=aD m
 refine zE 10 rfl (GL (s:=107) (.sl none 35 (map aK q2)) (aU (.cons_cons _ (.cons_cons _ (.cons_cons _ (.cons _ (.refl _))))) u).1 (Fz.aw 3 cZ O1 u rfl (.refl _)) (dO (aCR _ Y1) rfl aCS rfl ?_))
 rintro x h' ⟨ag2,O2,K5,rfl,rfl⟩
 rw[kU]
 refine⟨⟨λ_=>aO 2 (bP.co ((aU (.cons_cons _ (.cons_cons _ (.cons_cons _ (.cons _ (.refl _))))) u).2) K5) rfl,λ_=>aO 1 (bP.co ((aU (.cons_cons _ (.cons_cons _ (.cons_cons _ (.cons _ (.refl _))))) u).2) K5) rfl,trivial⟩, ?_⟩
 refine zN 11 rfl rfl (zF 12 rfl fF rfl (zE 13 rfl (aL 2 ([nZ (wrap .i64 (p0.Seq+1)),aZ ag0,aZ ag2,aZ gE,aZ gV]) (bP.co ((aU (.cons_cons _ (.cons_cons _ (.cons_cons _ (.cons _ (.refl _))))) u).2) K5) rfl rfl (cM rfl) (cG (cC _ _ _) rfl) EH rfl rfl λK6=>⟨⟨λe=>absurd e (by decide),λ_=>aO 1 K6 rfl,trivial⟩, ?_⟩)))
 exact zX (qk (f:=ZU 115 _ _ _ _ _ _ _ _ _ _ _ _ _ _) K6 rfl (v0 (eG m ag2 O2 (mK [1,2,3,0,4,5] rfl rfl (.k3 .nil)))))
 exact v0 (lR m ag1 O1 (lx (.k3 .nil)))
 rintro ag3 ⟨r2,r3⟩ t0 m
 exact eG m (ag0,ag3,gE,gV) ⟨O0,t0,oE,oV⟩ (lx .nil)
 refine vs (v0 (oI m (σ:=Int×fM) (τ:=dE×dE×dE×dE) (λg s=>((some k2,.obj 62 (aJ p1))::(hL p0K s.1 g.1 g.2.1 g.2.2.1 g.2.2.2 s.2.1 s.2.2.1 s.2.2.2.1 s.2.2.2.2))) (λg s=>bK g.1 4 (s.2.1:List aH).length/\bK g.2.1 35 (s.2.2.1:List aB).length/\bK g.2.2.1 3 (s.2.2.2.1:List aT).length/\bK g.2.2.2 4 (s.2.2.2.2:List aQ).length) (λg s=>.nil) (λx m=> ?_) ?_))
 refine v0 ?_
 apply vi m<;>intro c5 m
 refine vs (v0 (dY VF rfl rfl (vl 0 _ cB rfl rfl rfl ?_)))
 obtain⟨y0,Y2,m⟩:=aD m
 refine ve λu=>fP ((bM u [1,2,3,4,5,0] rfl rfl).1.trans (dP h (hC p0K p0 gS gC gE gV) [(some k2,.obj 62 (aJ p1))]).symm) (dO (aCU (hp h [(some k2,.obj 62 (aJ p1))]) ok_Snaps oC oE oV (dK (hC p0K p0 gS gC gE gV) [(some k2,.obj 62 (aJ p1))] (bM u [1,2,3,4,5,0] rfl rfl).2).2 Y2) rfl UC rfl ?_)
 rintro x h' ⟨ag4,O3,ag5,O4,K7,rfl,rfl⟩
 have K8:=bM (L':=((some k2,.obj 62 (aJ p1))::(hL p0K p0.Seq ag4 ag5 gE gV y0.2.1 y0.2.2 p0.Exps p0.Vols))) (eA (dK (hC p0K p0 gS gC gE gV) [(some k2,.obj 62 (aJ p1))] (bM u [1,2,3,4,5,0] rfl rfl).2).1 K7) [5,0,1,2,3,4] rfl rfl
 refine qk K8.2 ((dP h (hL p0K p0.Seq ag4 ag5 gE gV y0.2.1 y0.2.2 p0.Exps p0.Vols) [(some k2,.obj 62 (aJ p1))]).trans K8.1) (v0 ?_)
 apply vi m<;>intro c6 m
 refine vs (v0 (v0 (fY m λm=>fY m λm=> ?_)))
 cases m
 exact vr λu=>dW.of1 (.inl rfl) (gQ _ _ (.sc (.int _ _)) rfl) (bQ u [1,2,3,4,5] rfl).2 (bD.refl _ _) ⟨ag4,O3,ag5,O4,gE,oE,gV,oV,(bQ u [1,2,3,4,5] rfl).1,rfl,rfl⟩
 exact v0 (eG m (ag4,ag5,gE,gV) ⟨O3,O4,oE,oV⟩ (lx .nil))
 refine vs (v0 (oI m (σ:=Int×fM) (τ:=dE×dE×dE×dE) (λg s=>((some k2,.obj 62 (aJ p1))::(hL p0K s.1 g.1 g.2.1 g.2.2.1 g.2.2.2 s.2.1 s.2.2.1 s.2.2.2.1 s.2.2.2.2))) (λg s=>bK g.1 4 (s.2.1:List aH).length/\bK g.2.1 35 (s.2.2.1:List aB).length/\bK g.2.2.1 3 (s.2.2.2.1:List aT).length/\bK g.2.2.2 4 (s.2.2.2.2:List aQ).length) (λg s=>.nil) (λx m=> ?_) ?_))
 refine v0 ?_
 apply vi m<;>intro c7 m
 refine vs (fO m (σ:=Bool) (λs=>((some k2,.obj 62 (aJ p1))::(hC p0K p0 gS gC gE gV))) (λs=>.c 0 (.ptr p0K 0) (.c 3 (.ptr k2 0) (.c 8 (.sc (.bool s)) .nil))) (λx m=> ?_) ?_)
 refine v0 (dY jB rfl rfl (vl 0 _ cB rfl rfl rfl ?_))
 obtain⟨_,Y3,m⟩:=aD m
 refine ve λu=>fP ((bM u [1,2,3,4,5,0] rfl rfl).1.trans (dP h (hC p0K p0 gS gC gE gV) [(some k2,.obj 62 (aJ p1))]).symm) (dO (WV (hp h [(some k2,.obj 62 (aJ p1))]) ok_Snaps oC oE oV (dK (hC p0K p0 gS gC gE gV) [(some k2,.obj 62 (aJ p1))] (bM u [1,2,3,4,5,0] rfl rfl).2).2 Y3) rfl OP rfl ?_)
 rintro x h' ⟨K9,rfl,rfl⟩
 have K10:=bM (L':=((some k2,.obj 62 (aJ p1))::(hC p0K p0 gS gC gE gV))) (eA (dK (hC p0K p0 gS gC gE gV) [(some k2,.obj 62 (aJ p1))] (bM u [1,2,3,4,5,0] rfl rfl).2).1 K9) [5,0,1,2,3,4] rfl rfl
 refine qk K10.2 ((dP h (hC p0K p0 gS gC gE gV) [(some k2,.obj 62 (aJ p1))]).trans K10.1) ?_
 apply vi m<;>intro b3 m
 rw[b3]
 refine dY gW rfl rfl (vl 0 _ mD rfl rfl rfl (cU mC rfl ?_))
 apply vi m<;>intro b4 m
 rw[b4]
 exact dY gW rfl rfl (vl 0 _ mD rfl rfl rfl (cU mC rfl (hH m)))
 rw[b4]
 exact hH m
 rw[b3]
 exact hH m
 rintro _ j2 m
 refine vs (vs (v0 (jS m (σ:=Bool×Int) (λs=>((some k2,.obj 62 (aJ p1))::(hC p0K p0 gS gC gE gV))) (λs=>.c 0 (.ptr p0K 0) (.c 3 (.ptr k2 0) (.c 8 (.sc (.bool s.1)) (.c 9 (nZ s.2) .nil)))) (lx (.k4 .nil)) ?_ ?_)))
 rintro _ ⟨q4,q5⟩ x m
 replace m:rR w p1 q4 q5=some x:=m
 unfold rR at m
 refine vs (vs (v0 (dY gW rfl rfl (vl 0 _ mD rfl rfl rfl (cU mC rfl (v0 ?_))))))
 apply vi m<;>intro c8 m
 refine v0 (vs (v0 (fO m (σ:=Bool) (λs=>((some k2,.obj 62 (aJ p1))::(hC p0K p0 gS gC gE gV))) (λs=>.c 0 (.ptr p0K 0) (.c 3 (.ptr k2 0) (.c 8 (.sc (.bool s)) (.c 9 (nZ q5) .nil)))) (λx m=> ?_) ?_)))
 refine v0 ?_
 apply vi m<;>intro b5 m
 rw[b5]
 refine dY gW rfl rfl (vl 0 _ mD rfl rfl rfl (vx m nQ rfl rfl λx3 _ m=>bU (m9 mY rfl rfl) (va (nZ x3.Kind) cB rfl rfl ?_)))
 apply vi m<;>intro b6 m
 rw[b6]
 exact dY gW rfl rfl (vl 0 _ mD rfl rfl rfl (vx m nQ rfl rfl λx4 _ m=>bU (m9 mY rfl rfl) (va (nZ x4.Kind) cB rfl rfl (fZ m))))
 rw[b6]
 exact fZ m
 rw[b5]
 exact fZ m
 rintro _ j3 m
 exact v0 (fZ m)
 exact v0 (vB m)
 rintro _ ⟨r4,r5⟩ m
 refine vs (vs (v0 (v0 ?_)))
 apply vi m<;>intro c9 m
 refine vs (v0 (v0 (fY m λm=>fY m λm=>fY m λm=> ?_)))
 cases m
 exact vr λu=>dW.of1 (.inl rfl) (gQ _ _ (.sc (.int _ _)) rfl) (bQ u [1,2,3,4,5] rfl).2 (bD.refl _ _) ⟨gS,ok_Snaps,gC,oC,gE,oE,gV,oV,(bQ u [1,2,3,4,5] rfl).1,rfl,rfl⟩
 refine v0 (vs (v0 (CL (by kernel_rfl) (l4 rfl (dY jA rfl rfl (vl 1 (aZ gV) i9 rfl rfl rfl (dY jB rfl rfl (vl 0 _ cB rfl rfl rfl ?_))))))))
 obtain⟨x5,X1,m⟩:=aD m
 refine bU (dG X1 nA oV rfl rfl) (vs (v0 (bU (i8 (bK.ne oV X1) rfl) (bU (cX (bK.ne oV X1) rJ rfl rfl) (vn (λu=>eK (fo:=3) (nZ x5.Files) X1 eW oV cB rfl (aO 5 u rfl) (λ_=>rfl)) (bU (i8 (bK.ne oV X1) rfl) (bU (cX (bK.ne oV X1) rI rfl rfl) (ve λu=>cY (fo:=2) ({ x5 with State:=2}:aQ) 5 u X1 eW oV rfl rfl rfl rfl (cS.refl _ _) A2 rfl rfl λK11=>qk K11 rfl (bU (i8 (bK.ne (bK.set oV) (cR (x':=({ x5 with State:=2}:aQ)) X1)) rfl) (bU (cX (bK.ne (bK.set oV) (cR (x':=({ x5 with State:=2}:aQ)) X1)) rJ rfl rfl) (ve λu=>cY (fo:=3) ({ ({ x5 with State:=2}:aQ) with Files:=wrap .i64 (x5.Files+1)}:aQ) 5 u (cR (x':=({ x5 with State:=2}:aQ)) X1) eW (bK.set oV) rfl rfl rfl rfl (cS.refl _ _) A2 rfl rfl λK12=>qk K12 rfl (vs (vs (v0 (nU m (σ:=Int×(List aH)×(List aB)×(List aT)×Int) (τ:=dE×dE×dE) (λg s=>((some k2,.obj 62 (aJ p1))::(hL p0K s.1 g.1 g.2.1 g.2.2 gV s.2.1 s.2.2.1 s.2.2.2.1 ((p0.Vols.set p1.Vol.toNat ({ x5 with State:=2})).set p1.Vol.toNat ({ ({ x5 with State:=2}:aQ) with Files:=wrap .i64 (x5.Files+1)}))))) (λg s=>bK g.1 4 (s.2.1:List aH).length/\bK g.2.1 35 (s.2.2.1:List aB).length/\bK g.2.2 3 (s.2.2.2.1:List aT).length) (λg s=>.c 0 (.ptr p0K 0) (.c 3 (.ptr k2 0) (.c 10 (wL gV.t (p1.Vol.toNat*4+0)) (.c 11 (nZ s.2.2.2.2) .nil)))) (gS,gC,gE) (⟨ok_Snaps,oC,oE⟩) (lx (.k4 .nil)) ?_ ?_)))))))))))))))
 rintro⟨ag6,ag7,ag8⟩ ⟨q6,q7,q8,q9,q10⟩ x ⟨O5,O6,O7⟩ m
 replace m:qF w p0 p1 x5 q6 q7 q8 q9 q10=some x:=m
 unfold qF at m
 refine vs (vs (v0 (dY gW rfl rfl (vl 0 _ mD rfl rfl rfl (cU mC rfl (v0 ?_))))))
 apply vi m<;>intro c10 m
 refine v0 (vs (v0 (vs (v0 (vz [(1000000,some k2,.obj 62 (aJ p1)),(1000000,gV.t,.obj 49 (fl dH ((p0.Vols.set p1.Vol.toNat ({ x5 with State:=2})).set p1.Vol.toNat ({ ({ x5 with State:=2}:aQ) with Files:=wrap .i64 (x5.Files+1)}):List aQ) gV.sp))] mixed (λu=>⟨λ_=>aO 0 u rfl,λ_=>aO 5 u rfl,trivial⟩) λu=>zP 0 rfl rfl (zF 1 rfl gW rfl (zL 2 0 (.sl none 37 (map aI p1.Items)) rfl mD rfl rfl rfl (zI 3 rfl rfl ?_))))))))
 obtain⟨x6,X2,m⟩:=aD m
 refine zC 4 rfl (lV X2 nQ rfl rfl) (zC 5 rfl (l8 (.agg (aI x6)) CE rfl rfl) (zF 6 rfl jB rfl (zL 7 0 (nZ p1.Vol) rfl cB rfl rfl rfl (zC 8 rfl (fJ (wL _ _) rfl) (zC 9 rfl (i8 (bK.ne (bK.set (bK.set oV)) (cR (x':=({ ({ x5 with State:=2}:aQ) with Files:=wrap .i64 (x5.Files+1)}:aQ)) (cR (x':=({ x5 with State:=2}:aQ)) X1))) rfl) (zC 10 rfl (cX (bK.ne (bK.set (bK.set oV)) (cR (x':=({ ({ x5 with State:=2}:aQ) with Files:=wrap .i64 (x5.Files+1)}:aQ)) (cR (x':=({ x5 with State:=2}:aQ)) X1))) rJ rfl rfl) (z5 11 rfl (λ_ _ hi hB=>eK (fo:=3) (nZ (({ ({ x5 with State:=2}:aQ) with Files:=wrap .i64 (x5.Files+1)}:aQ).Files)) (cR (x':=({ ({ x5 with State:=2}:aQ) with Files:=wrap .i64 (x5.Files+1)}:aQ)) (cR (x':=({ x5 with State:=2}:aQ)) X1)) eW (bK.set (bK.set oV)) cB rfl (fV.get 1 hi rfl (hB 1000000 (by kernel_rfl))) (λ_=>rfl)) (zF 12 rfl gW rfl (zL 13 0 (.sl none 37 (map aI p1.Items)) rfl mD rfl rfl rfl (zI 14 rfl rfl ?_))))))))))
 obtain⟨x7,X3,m⟩:=aD m
 refine zC 15 rfl (lV X3 nQ rfl rfl) (zC 16 rfl (m9 MR rfl rfl) (zC 17 rfl (l8 (nZ x7.Off) cB rfl rfl) (zF 18 rfl gW rfl (zL 19 0 (.sl none 37 (map aI p1.Items)) rfl mD rfl rfl rfl (zI 20 rfl rfl ?_)))))
 obtain⟨x8,X4,m⟩:=aD m
 refine zC 21 rfl (lV X4 nQ rfl rfl) (zC 22 rfl (m9 MS rfl rfl) (zC 23 rfl (l8 (nZ x8.Len) cB rfl rfl) (zC 24 rfl (eJ (aN ({ Vol:=p1.Vol,File:=({ ({ x5 with State:=2}:aQ) with Files:=wrap .i64 (x5.Files+1)}:aQ).Files,Off:=x7.Off,Len:=x8.Len}:aS)) aAD rfl) ?_)))
 obtain⟨y1,Y4,m⟩:=aD m
 refine zE 25 rfl (fP ((bM u [1,2,3,4,5,0] rfl rfl).1.trans (dP h (hL p0K q6 ag6 ag7 ag8 gV q7 q8 q9 ((p0.Vols.set p1.Vol.toNat ({ x5 with State:=2})).set p1.Vol.toNat ({ ({ x5 with State:=2}:aQ) with Files:=wrap .i64 (x5.Files+1)}))) [(some k2,.obj 62 (aJ p1))]).symm) (dO (aIB (hp h [(some k2,.obj 62 (aJ p1))]) O5 O6 O7 (bK.set (bK.set oV)) (dK (hL p0K q6 ag6 ag7 ag8 gV q7 q8 q9 ((p0.Vols.set p1.Vol.toNat ({ x5 with State:=2})).set p1.Vol.toNat ({ ({ x5 with State:=2}:aQ) with Files:=wrap .i64 (x5.Files+1)}))) [(some k2,.obj 62 (aJ p1))] (bM u [1,2,3,4,5,0] rfl rfl).2).2 Y4) rfl aCV rfl ?_))
 rintro x h' ⟨ag9,O8,ag10,O9,ag11,O10,K13,rfl,rfl⟩
 have K14:=bM (L':=((some k2,.obj 62 (aJ p1))::(hL p0K y1.2.1 ag9 ag10 ag11 gV y1.2.2.1 y1.2.2.2.1 y1.2.2.2.2 ((p0.Vols.set p1.Vol.toNat ({ x5 with State:=2})).set p1.Vol.toNat ({ ({ x5 with State:=2}:aQ) with Files:=wrap .i64 (x5.Files+1)}))))) (eA (dK (hL p0K q6 ag6 ag7 ag8 gV q7 q8 q9 ((p0.Vols.set p1.Vol.toNat ({ x5 with State:=2})).set p1.Vol.toNat ({ ({ x5 with State:=2}:aQ) with Files:=wrap .i64 (x5.Files+1)}))) [(some k2,.obj 62 (aJ p1))] (bM u [1,2,3,4,5,0] rfl rfl).2).1 K13) [5,0,1,2,3,4] rfl rfl
 refine qO ((dP h (hL p0K y1.2.1 ag9 ag10 ag11 gV y1.2.2.1 y1.2.2.2.1 y1.2.2.2.2 ((p0.Vols.set p1.Vol.toNat ({ x5 with State:=2})).set p1.Vol.toNat ({ ({ x5 with State:=2}:aQ) with Files:=wrap .i64 (x5.Files+1)}))) [(some k2,.obj 62 (aJ p1))]).trans K14.1) (⟨⟨λ_=>aO 0 K14.2 rfl,λ_=>aO 5 K14.2 rfl,trivial⟩, ?_⟩)
 refine zC 26 rfl (ZE rfl) (zX (qk (f:=aE1 220 _ _ _ _ _ _ _ _ _ _ _ _ _ _ _ _ _ _ _ _ _ _ _ _ _ _ _ _) K14.2 rfl (v0 ?_)))
 apply vi m<;>intro c11 m
 refine vs (v0 (v0 (fY m λm=>fY m λm=>fY m λm=>fY m λm=> ?_)))
 cases m
 exact vr λu=>dW.of1 (.inl rfl) (gQ _ _ (.sc (.int _ _)) rfl) (bQ u [1,2,3,4,5] rfl).2 (bD.refl _ _) ⟨ag9,O8,ag10,O9,ag11,O10,gV,(bK.set (bK.set oV)),(bQ u [1,2,3,4,5] rfl).1,rfl,rfl⟩
 exact v0 (v0 (eG m (ag9,ag10,ag11) ⟨O8,O9,O10⟩ (lx (.k4 .nil))))
 exact v0 (lR m (ag6,ag7,ag8) ⟨O5,O6,O7⟩ (lx (.k4 .nil)))
 rintro⟨ag12,ag13,ag14⟩ ⟨r6,r7,r8,r9,r10⟩ ⟨t1,t2,t3⟩ m
 refine vs (vs (v0 (nU m (σ:=(List aH)×(List aB)×Int) (τ:=dE×dE) (λg s=>((some k2,.obj 62 (aJ p1))::(hL p0K r6 g.1 g.2 ag14 gV s.1 s.2.1 r9 ((p0.Vols.set p1.Vol.toNat ({ x5 with State:=2})).set p1.Vol.toNat ({ ({ x5 with State:=2}:aQ) with Files:=wrap .i64 (x5.Files+1)}))))) (λg s=>bK g.1 4 (s.1:List aH).length/\bK g.2 35 (s.2.1:List aB).length) (λg s=>.c 0 (.ptr p0K 0) (.c 3 (.ptr k2 0) (.c 10 (wL gV.t (p1.Vol.toNat*4+0)) (.c 12 (nZ s.2.2) .nil)))) (ag12,ag13) (⟨t1,t2⟩) (lx (.k4 .nil)) ?_ ?_)))
 rintro⟨ag15,ag16⟩ ⟨q11,q12,q13⟩ x ⟨O11,O12⟩ m
 replace m:m7 w p0 p1 x5 r6 r9 q11 q12 q13=some x:=m
 unfold m7 at m
 refine vs (vs (v0 (dY gW rfl rfl (vl 0 _ mD rfl rfl rfl (cU mC rfl (v0 ?_))))))
 apply vi m<;>intro c12 m
 refine v0 (vs (v0 (vs (v0 (dY gW rfl rfl (vl 0 _ mD rfl rfl rfl (vx m nQ rfl rfl λx9 _ m=>bU (m9 mY rfl rfl) (va (nZ x9.Kind) cB rfl rfl (oI m (σ:=(List aH)×(List aB)) (τ:=dE×dE) (λg s=>((some k2,.obj 62 (aJ p1))::(hL p0K r6 g.1 g.2 ag14 gV s.1 s.2 r9 ((p0.Vols.set p1.Vol.toNat ({ x5 with State:=2})).set p1.Vol.toNat ({ ({ x5 with State:=2}:aQ) with Files:=wrap .i64 (x5.Files+1)}))))) (λg s=>bK g.1 4 (s.1:List aH).length/\bK g.2 35 (s.2:List aB).length) (λg s=>.c 0 (.ptr p0K 0) (.c 3 (.ptr k2 0) (.c 10 (wL gV.t (p1.Vol.toNat*4+0)) (.c 12 (nZ q13) .nil)))) (λx m=> ?_) ?_)))))))))
 refine v0 ?_
 apply vi m<;>intro c13 m
 refine v0 (dY gW rfl rfl (vl 0 _ mD rfl rfl rfl (vx m nQ rfl rfl λx10 _ m=>bU (m9 xV rfl rfl) (va (nZ x10.Of) cB rfl rfl ?_))))
 obtain⟨y2,Y5,m⟩:=aD m
 refine ve λu=>fP ((bM u [1,2,3,4,5,0] rfl rfl).1.trans (dP h (hL p0K r6 ag15 ag16 ag14 gV q11 q12 r9 ((p0.Vols.set p1.Vol.toNat ({ x5 with State:=2})).set p1.Vol.toNat ({ ({ x5 with State:=2}:aQ) with Files:=wrap .i64 (x5.Files+1)}))) [(some k2,.obj 62 (aJ p1))]).symm) (dO (aCU (hp h [(some k2,.obj 62 (aJ p1))]) O11 O12 t3 (bK.set (bK.set oV)) (dK (hL p0K r6 ag15 ag16 ag14 gV q11 q12 r9 ((p0.Vols.set p1.Vol.toNat ({ x5 with State:=2})).set p1.Vol.toNat ({ ({ x5 with State:=2}:aQ) with Files:=wrap .i64 (x5.Files+1)}))) [(some k2,.obj 62 (aJ p1))] (bM u [1,2,3,4,5,0] rfl rfl).2).2 Y5) rfl UC rfl ?_)
 rintro x h' ⟨ag17,O13,ag18,O14,K15,rfl,rfl⟩
 have K16:=bM (L':=((some k2,.obj 62 (aJ p1))::(hL p0K r6 ag17 ag18 ag14 gV y2.2.1 y2.2.2 r9 ((p0.Vols.set p1.Vol.toNat ({ x5 with State:=2})).set p1.Vol.toNat ({ ({ x5 with State:=2}:aQ) with Files:=wrap .i64 (x5.Files+1)}))))) (eA (dK (hL p0K r6 ag15 ag16 ag14 gV q11 q12 r9 ((p0.Vols.set p1.Vol.toNat ({ x5 with State:=2})).set p1.Vol.toNat ({ ({ x5 with State:=2}:aQ) with Files:=wrap .i64 (x5.Files+1)}))) [(some k2,.obj 62 (aJ p1))] (bM u [1,2,3,4,5,0] rfl rfl).2).1 K15) [5,0,1,2,3,4] rfl rfl
 exact qk K16.2 ((dP h (hL p0K r6 ag17 ag18 ag14 gV y2.2.1 y2.2.2 r9 ((p0.Vols.set p1.Vol.toNat ({ x5 with State:=2})).set p1.Vol.toNat ({ ({ x5 with State:=2}:aQ) with Files:=wrap .i64 (x5.Files+1)}))) [(some k2,.obj 62 (aJ p1))]).trans K16.1) (eG m (ag17,ag18) ⟨O13,O14⟩ (lx (.k4 .nil)))
 exact v0 (eG m (ag15,ag16) ⟨O11,O12⟩ (lx (.k4 .nil)))
 rintro⟨ag19,ag20⟩ ⟨j4,j5⟩ ⟨O15,O16⟩ m
 exact v0 (eG m (ag19,ag20) ⟨O15,O16⟩ (lx (.k4 .nil)))
 exact v0 (lR m (ag15,ag16) ⟨O11,O12⟩ (lx (.k4 .nil)))
 rintro⟨ag21,ag22⟩ ⟨r11,r12,r13⟩ ⟨t4,t5⟩ m
 refine vs (v0 (bU (i8 (bK.ne (bK.set (bK.set oV)) (cR (x':=({ ({ x5 with State:=2}:aQ) with Files:=wrap .i64 (x5.Files+1)}:aQ)) (cR (x':=({ x5 with State:=2}:aQ)) X1))) rfl) (bU (cX (bK.ne (bK.set (bK.set oV)) (cR (x':=({ ({ x5 with State:=2}:aQ) with Files:=wrap .i64 (x5.Files+1)}:aQ)) (cR (x':=({ x5 with State:=2}:aQ)) X1))) MU rfl rfl) (vn (λu=>eK (fo:=0) (nZ (({ ({ x5 with State:=2}:aQ) with Files:=wrap .i64 (x5.Files+1)}:aQ).Pool)) (cR (x':=({ ({ x5 with State:=2}:aQ) with Files:=wrap .i64 (x5.Files+1)}:aQ)) (cR (x':=({ x5 with State:=2}:aQ)) X1)) eW (bK.set (bK.set oV)) cB rfl (aO 5 u rfl) (λ_=>rfl)) (oI m (σ:=(List aB)) (τ:=dE) (λg s=>((some k2,.obj 62 (aJ p1))::(hL p0K r6 ag21 g ag14 gV r11 s r9 ((p0.Vols.set p1.Vol.toNat ({ x5 with State:=2})).set p1.Vol.toNat ({ ({ x5 with State:=2}:aQ) with Files:=wrap .i64 (x5.Files+1)}))))) (λg s=>bK g 35 (s:List aB).length) (λg s=>.nil) (λx m=> ?_) ?_)))))
 refine v0 ?_
 apply vi m<;>intro c14 m
 refine vs (v0 (nU m (σ:=(List aB)×Int) (τ:=dE) (λg s=>((some k2,.obj 62 (aJ p1))::(hL p0K r6 ag21 g ag14 gV r11 s.1 r9 ((p0.Vols.set p1.Vol.toNat ({ x5 with State:=2})).set p1.Vol.toNat ({ ({ x5 with State:=2}:aQ) with Files:=wrap .i64 (x5.Files+1)}))))) (λg s=>bK g 35 (s.1:List aB).length) (λg s=>.c 0 (.ptr p0K 0) (.c 3 (.ptr k2 0) (.c 13 (nZ s.2) .nil))) ag22 t5 (lx (.k3 .nil)) ?_ ?_))
 rintro ag23 ⟨q14,q15⟩ x O17 m
 replace m:nK w p0 p1 x5 r6 r9 r11 q14 q15=some x:=m
 unfold nK at m
 refine vs (vs (v0 (dY gW rfl rfl (vl 0 _ mD rfl rfl rfl (cU mC rfl (v0 ?_))))))
 apply vi m<;>intro c15 m
 refine v0 (vs (v0 (vs (v0 (dY gW rfl rfl (vl 0 _ mD rfl rfl rfl (vx m nQ rfl rfl λx11 _ m=>bU (m9 mY rfl rfl) (va (nZ x11.Kind) cB rfl rfl (oI m (σ:=(List aB)) (τ:=dE) (λg s=>((some k2,.obj 62 (aJ p1))::(hL p0K r6 ag21 g ag14 gV r11 s r9 ((p0.Vols.set p1.Vol.toNat ({ x5 with State:=2})).set p1.Vol.toNat ({ ({ x5 with State:=2}:aQ) with Files:=wrap .i64 (x5.Files+1)}))))) (λg s=>bK g 35 (s:List aB).length) (λg s=>.c 0 (.ptr p0K 0) (.c 3 (.ptr k2 0) (.c 13 (nZ q15) .nil))) (λx m=> ?_) ?_)))))))))
 refine v0 ?_
 apply vi m<;>intro c16 m
 refine vs (v0 (CL (by kernel_rfl) (l4 rfl (vl 1 (.agg ([nZ r6,aZ ag21,aZ ag23,aZ ag14,aZ gV])) dC rfl rfl rfl (dY gW rfl rfl (vl 0 _ mD rfl rfl rfl (vx m nQ rfl rfl λx12 _ m=>bU (m9 xU rfl rfl) (va (.agg (bC x12.Id)) fA rfl rfl ?_))))))))
 obtain⟨_,Y6,m⟩:=aD m
 refine vn (λu=>bV (fN (.cons (Br.agg (.cons (Br.refl _ _) (.cons (Br.aw 2 eP t4 u rfl) (.cons (Br.aw 3 cZ O17 u rfl) (.cons (Br.aw 4 gH t3 u rfl) (.cons (Br.aw 5 eW (bK.set (bK.set oV)) u rfl) .nil)))))) (.cons (Br.refl _ _) .nil)) rfl (W88 _ Y6)) rfl RM rfl) (vs (v0 (oI m (σ:=(List aB)) (τ:=dE) (λg s=>((some k2,.obj 62 (aJ p1))::(hL p0K r6 ag21 g ag14 gV r11 s r9 ((p0.Vols.set p1.Vol.toNat ({ x5 with State:=2})).set p1.Vol.toNat ({ ({ x5 with State:=2}:aQ) with Files:=wrap .i64 (x5.Files+1)}))))) (λg s=>bK g 35 (s:List aB).length) (λg s=>.c 0 (.ptr p0K 0) (.c 3 (.ptr k2 0) (.c 13 (nZ q15) .nil))) (λx m=> ?_) ?_)))
 refine v0 ?_
 apply vi m<;>intro c17 m
 refine v0 (vz [(1000000,some p0K,.obj 30 ([nZ r6,aZ ag21,aZ ag23,aZ ag14,aZ gV]))] mixed (λu=>⟨λ_=>aO 1 u rfl,trivial⟩) λu=>zP 0 rfl rfl (zN 1 rfl rfl (zF 2 rfl fF rfl (zL 3 0 (aZ ag23) rfl fE rfl rfl rfl (zI 4 rfl rfl (zP 5 rfl rfl (zN 6 rfl rfl (zF 7 rfl fF rfl (zL 8 0 (aZ ag23) rfl fE rfl rfl rfl (zI 9 rfl rfl ?_))))))))))
 obtain⟨x13,X5,m⟩:=aD m
 refine zC 10 rfl (dG X5 hX O17 rfl rfl) (zC 11 rfl (cX (bK.ne O17 X5) pV rfl rfl) (zE 12 rfl (cY (fo:=32) ({ x13 with Staged:=false}:aB) 3 u X5 cZ O17 rfl rfl rfl rfl (cS.refl _ _) ZY rfl rfl λK17=>⟨⟨λ_=>aO 1 K17 rfl,trivial⟩, ?_⟩)))
 obtain⟨x14,X6,m⟩:=aD m
 refine zC 13 rfl (dG X6 hX (bK.set O17) rfl rfl) (zC 14 rfl (cX (bK.ne (bK.set O17) X6) lY rfl rfl) (zE 15 rfl (cY (fo:=33) ({ x14 with Data:=([]:List Int)}:aB) 3 K17 X6 cZ (bK.set O17) rfl rfl rfl rfl (.cons (a9 _) .nil) EJ rfl rfl λK18=>⟨⟨λ_=>aO 1 K18 rfl,trivial⟩, ?_⟩)))
 exact zX (qk (f:=U6 287 _ _ _ _ _ _ _ _ _ _ _ _ _ _ _) K18 rfl (eG m ag23 (bK.set (bK.set O17)) (lx (.k3 .nil))))
 exact v0 (eG m ag23 O17 (lx (.k3 .nil)))
 rintro ag24 j6 O18 m
 exact eG m ag24 O18 (lx (.k3 .nil))
 exact v0 (eG m ag23 O17 (lx (.k3 .nil)))
 rintro ag25 j7 O19 m
 exact v0 (eG m ag25 O19 (lx (.k3 .nil)))
 exact v0 (lR m ag23 O17 (lx (.k3 .nil)))
 rintro ag26 ⟨r14,r15⟩ t6 m
 exact eG m ag26 t6 (lx .nil)
 exact v0 (eG m ag22 t5 (lx .nil))
 rintro ag27 j8 O20 m
 exact eG m (ag21,ag27,ag14,gV) ⟨t4,O20,t3,(bK.set (bK.set oV))⟩ (lx .nil)
 refine vs (v0 (oI m (σ:=fM) (τ:=dE×dE×dE×dE) (λg s=>((some k2,.obj 62 (aJ p1))::(hL p0K p0.Seq g.1 g.2.1 g.2.2.1 g.2.2.2 s.1 s.2.1 s.2.2.1 s.2.2.2))) (λg s=>bK g.1 4 (s.1:List aH).length/\bK g.2.1 35 (s.2.1:List aB).length/\bK g.2.2.1 3 (s.2.2.1:List aT).length/\bK g.2.2.2 4 (s.2.2.2:List aQ).length) (λg s=>.nil) (λx m=> ?_) ?_))
 refine v0 ?_
 apply vi m<;>intro c18 m
 refine vs (vs (v0 (dY jB rfl rfl (vl 0 _ cB rfl rfl rfl ?_))))
 obtain⟨_,Y7,m⟩:=aD m
 refine ve λu=>fP ((bM u [1,2,3,4,5,0] rfl rfl).1.trans (dP h (hC p0K p0 gS gC gE gV) [(some k2,.obj 62 (aJ p1))]).symm) (dO (WV (hp h [(some k2,.obj 62 (aJ p1))]) ok_Snaps oC oE oV (dK (hC p0K p0 gS gC gE gV) [(some k2,.obj 62 (aJ p1))] (bM u [1,2,3,4,5,0] rfl rfl).2).2 Y7) rfl OP rfl ?_)
 rintro x h' ⟨K19,rfl,rfl⟩
 have K20:=bM (L':=((some k2,.obj 62 (aJ p1))::(hC p0K p0 gS gC gE gV))) (eA (dK (hC p0K p0 gS gC gE gV) [(some k2,.obj 62 (aJ p1))] (bM u [1,2,3,4,5,0] rfl rfl).2).1 K19) [5,0,1,2,3,4] rfl rfl
 refine qk K20.2 ((dP h (hC p0K p0 gS gC gE gV) [(some k2,.obj 62 (aJ p1))]).trans K20.1) (v0 ?_)
 apply vi m<;>intro c19 m
 refine vs (v0 (v0 (fY m λm=>fY m λm=>fY m λm=>fY m λm=> ?_)))
 cases m
 exact vr λu=>dW.of1 (.inl rfl) (gQ _ _ (.sc (.int _ _)) rfl) (bQ u [1,2,3,4,5] rfl).2 (bD.refl _ _) ⟨gS,ok_Snaps,gC,oC,gE,oE,gV,oV,(bQ u [1,2,3,4,5] rfl).1,rfl,rfl⟩
 refine v0 (vs (v0 (vz [(1000000,some p0K,.obj 30 ([nZ p0.Seq,aZ gS,aZ gC,aZ gE,aZ gV])),(1000000,some k2,.obj 62 (aJ p1))] mixed (λu=>⟨λ_=>aO 1 u rfl,λ_=>aO 0 u rfl,trivial⟩) λu=>zP 0 rfl rfl (zN 1 rfl rfl (zF 2 rfl jA rfl (zL 3 0 (aZ gV) rfl i9 rfl rfl rfl (zF 4 rfl jB rfl (zL 5 1 (nZ p1.Vol) rfl cB rfl rfl rfl (zP 6 rfl rfl (zN 7 rfl rfl (zF 8 rfl jA rfl (zL 9 0 (aZ gV) rfl i9 rfl rfl rfl (zF 10 rfl jB rfl (zL 11 1 (nZ p1.Vol) rfl cB rfl rfl rfl ?_))))))))))))))
 obtain⟨x15,X7,m⟩:=aD m
 refine zC 12 rfl (dG X7 nA oV rfl rfl) (zC 13 rfl (cX (bK.ne oV X7) rI rfl rfl) (zE 14 rfl (cY (fo:=2) ({ x15 with State:=3}:aQ) 5 u X7 eW oV rfl rfl rfl rfl (cS.refl _ _) A2 rfl rfl λK21=>⟨⟨λ_=>aO 1 K21 rfl,λ_=>aO 0 K21 rfl,trivial⟩, ?_⟩)))
 obtain⟨x16,X8,m⟩:=aD m
 refine zC 15 rfl (dG X8 nA (bK.set oV) rfl rfl) (zC 16 rfl (cX (bK.ne (bK.set oV) X8) rJ rfl rfl) (zE 17 rfl (cY (fo:=3) ({ x16 with Files:=0}:aQ) 5 K21 X8 eW (bK.set oV) rfl rfl rfl rfl (cS.refl _ _) A2 rfl rfl λK22=>⟨⟨λ_=>aO 1 K22 rfl,λ_=>aO 0 K22 rfl,trivial⟩, ?_⟩)))
 refine zX (qk (f:=Q9 310 _ _ _ _ _ _ _ _ _ _ _ _ _ _ _ _ _) K22 rfl (vs (v0 (vs (vs (v0 (pM (z6 (.obj 44 (fl aK ([]:List aB) g0.sp)) 15 (aZ g0) (fT _)) (nU m (σ:=(List aB)×Int) (τ:=dE) (λg s=>((dA g s.1)::(some k2,.obj 62 (aJ p1))::(hL p0K p0.Seq gS gC gE gV p0.Snaps p0.Chunks p0.Exps ((p0.Vols.set p1.Vol.toNat ({ x15 with State:=3})).set p1.Vol.toNat ({ x16 with Files:=0}))))) (λg s=>bK g 35 (s.1:List aB).length) (λg s=>.c 0 (.ptr p0K 0) (.c 3 (.ptr k2 0) (.c 15 (aZ g) (.c 16 (nZ s.2) .nil)))) g0 (bK.g0 35) (lx (.k4 .nil)) ?_ ?_))))))))
 rintro ag28 ⟨q16,q17⟩ x O21 m
 replace m:uI w p0 p1 q16 q17=some x:=m
 unfold uI at m
 refine vs (vs (v0 (l4 rfl (dY fF rfl rfl (vl 2 (aZ gC) fE rfl rfl rfl (bU (fK lH oC rfl) (v0 ?_)))))))
 apply vi m<;>intro c20 m
 refine v0 (vs (v0 (vs (v0 (l4 rfl (dY fF rfl rfl (vl 2 (aZ gC) fE rfl rfl rfl ?_)))))))
 obtain⟨x17,X9,m⟩:=aD m
 refine bU (dG X9 hX oC rfl rfl) (vn (λu=>eK (fo:=0) (.agg (aK x17)) X9 cZ oC pH rfl (aO 4 u rfl) (λ_=>rfl)) (ve λu=>bG (bC gY++(TE:List AV)) u qP rfl rfl λk15855 K23=>qk K23 rfl (ve λu=>aL 0 (aK x17) u rfl rfl rfl rfl EK rfl rfl λK24=>qk K24 rfl (vs (v0 (dY jW rfl rfl (vl 0 _ fW rfl rfl rfl (dY jB rfl rfl (vl 2 _ cB rfl rfl rfl (vk WU OO m rfl rfl λy3 m=>dY jW rfl rfl (ve λu=>aL 0 (aK { x17 with Locs:=y3}) u rfl rfl rfl rfl pU rfl rfl λK25=>qk K25 rfl (vs (fO m (σ:=Bool) (λs=>((some k15855,.obj 44 (aK { x17 with Locs:=y3}))::(dA ag28 q16)::(some k2,.obj 62 (aJ p1))::(hL p0K p0.Seq gS gC gE gV p0.Snaps p0.Chunks p0.Exps ((p0.Vols.set p1.Vol.toNat ({ x15 with State:=3})).set p1.Vol.toNat ({ x16 with Files:=0}))))) (λs=>.c 0 (.ptr p0K 0) (.c 3 (.ptr k2 0) (.c 15 (aZ ag28) (.c 16 (nZ q17) (.c 17 (.ptr k15855 0) (.c 340 (.sc (.bool s)) .nil)))))) (λx m=> ?_) ?_)))))))))))))
 refine v0 (dY pV rfl rfl (vl 0 _ GV rfl rfl rfl ?_))
 apply vi m<;>intro b7 m
 rw[b7]
 exact mX m
 rw[b7]
 exact dY jW rfl rfl (vl 0 _ fW rfl rfl rfl (cU kB rfl (mX m)))
 rintro _ j9 m
 refine oI m (σ:=(List aB)) (τ:=dE) (λg s=>((some k15855,.obj 44 (aK { x17 with Locs:=y3}))::(dA g s)::(some k2,.obj 62 (aJ p1))::(hL p0K p0.Seq gS gC gE gV p0.Snaps p0.Chunks p0.Exps ((p0.Vols.set p1.Vol.toNat ({ x15 with State:=3})).set p1.Vol.toNat ({ x16 with Files:=0}))))) (λg s=>bK g 35 (s:List aB).length) (λg s=>.c 0 (.ptr p0K 0) (.c 3 (.ptr k2 0) (.c 15 (aZ g) (.c 16 (nZ q17) .nil)))) (λx m=> ?_) ?_
 refine v0 ?_
 apply vi m<;>intro c21 m
 refine v0 (vl 0 (.agg (aK { x17 with Locs:=y3})) pH rfl rfl rfl (bU (dX (map aK ([{ x17 with Locs:=y3}]:List aB)) pE rfl rfl rfl rfl) ?_))
 obtain⟨z1,Z1,m⟩:=aD m
 exact ve λu=>gG (c:=aK) 1 Z1 pE rfl qP rfl cZ rfl rfl O21 u rfl λag29 O22 K26=>qk K26 rfl (eG m ag29 O22 (lx (.k4 .nil)))
 exact v0 (eG m ag28 O21 (lx (.k4 .nil)))
 rintro ag30 j10 O23 m
 exact v0 (eG m ag30 O23 (mK [1,2,3,4,5,6,7] rfl rfl (.k4 .nil)))
 exact v0 (lR m ag28 O21 (lx (.k4 .nil)))
 rintro ag31 ⟨r16,r17⟩ t7 m
 refine vs (v0 (l4 rfl (dY fF rfl rfl (ve λu=>aL 2 ([nZ p0.Seq,aZ gS,aZ ag31,aZ gE,aZ gV]) u rfl rfl (cM rfl) (cG (cC _ _ _) rfl) EH rfl rfl λK27=>qk K27 rfl (vs (vs (v0 (nU m (σ:=(List aH)×Int) (τ:=dE) (λg s=>[(dA ag31 r16),(some k2,.obj 62 (aJ p1)),(hO p0K p0.Seq g ag31 gE gV),(dF g s.1),(dA gC p0.Chunks),(jX gE p0.Exps),(lK gV ((p0.Vols.set p1.Vol.toNat ({ x15 with State:=3})).set p1.Vol.toNat ({ x16 with Files:=0})))]) (λg s=>bK g 4 (s.1:List aH).length) (λg s=>.c 0 (.ptr p0K 0) (.c 3 (.ptr k2 0) (.c 18 (nZ s.2) .nil))) gS ok_Snaps (lx (.k3 .nil)) ?_ ?_))))))))
 rintro ag32 ⟨q18,q19⟩ x O24 m
 replace m:uJ w p1 q18 q19=some x:=m
 unfold uJ at m
 refine vs (vs (v0 (l4 rfl (dY eM rfl rfl (vl 2 (aZ ag32) fD rfl rfl rfl (bU (fK lA O24 rfl) (v0 ?_)))))))
 apply vi m<;>intro c22 m
 refine v0 (vs (v0 (v0 (vz [(1000000,some p0K,.obj 30 ([nZ p0.Seq,aZ ag32,aZ ag31,aZ gE,aZ gV])),(18,ag32.t,.obj 60 (fl bJ (q18:List aH) ag32.sp)),(1000000,some k2,.obj 62 (aJ p1))] mixed (λu=>⟨λ_=>aO 2 u rfl,λ_=>aO 3 u rfl,λ_=>aO 1 u rfl,trivial⟩) λu=>zP 0 rfl rfl (zN 1 rfl rfl (zF 2 rfl eM rfl (zL 3 0 (aZ ag32) rfl fD rfl rfl rfl (zI 4 rfl rfl (zP 5 rfl rfl (zN 6 rfl rfl (zF 7 rfl eM rfl (zL 8 0 (aZ ag32) rfl fD rfl rfl rfl (zI 9 rfl rfl ?_)))))))))))))
 obtain⟨x18,X10,m⟩:=aD m
 refine zC 10 rfl (dG X10 iW O24 rfl rfl) (zC 11 rfl (cX (bK.ne O24 X10) lJ rfl rfl) (z5 12 rfl (λ_ _ hi hB=>eK (fo:=3) (.sl none 4 (map aN x18.Locs)) X10 eP O24 fW rfl (fV.get 1 hi rfl (hB 18 (by kernel_rfl))) (λ_=>rfl)) (zF 13 rfl jB rfl (zL 14 2 (nZ p1.Vol) rfl cB rfl rfl rfl ?_))))
 obtain⟨y4,Y8,m⟩:=aD m
 refine zC 15 rfl (bV (WU _ Y8) rfl OO rfl) ?_
 obtain⟨x19,X11,m⟩:=aD m
 refine zC 16 rfl (dG X11 iW O24 rfl rfl) (zC 17 rfl (cX (bK.ne O24 X11) lJ rfl rfl) (zE 18 rfl (cY (fo:=3) ({ x19 with Locs:=y4}:aH) 3 u X11 eP O24 rfl rfl rfl rfl (cS.refl _ _) pU rfl rfl λK28=>⟨⟨λ_=>aO 2 K28 rfl,λe=>absurd e (by decide),λ_=>aO 1 K28 rfl,trivial⟩, ?_⟩)))
 exact zX (qk (f:=aEZ 375 _ _ _ _ _ _ _ _ _ _ _ _ _ _ _ _ _ _ _) K28 rfl (v0 (eG m ag32 (bK.set O24) (lx (.k3 .nil)))))
 exact v0 (lR m ag32 O24 (lx (.k3 .nil)))
 rintro ag33 ⟨r18,r19⟩ t8 m
 refine vs (v0 (vs (vs (v0 (pM (z6 (.obj 99 (fl cH ([]:List aT) g0.sp)) 19 (aZ g0) (fT _)) (nU m (σ:=(List aT)×Int) (τ:=dE) (λg s=>[(jX g s.1),(dA ag31 r16),(some k2,.obj 62 (aJ p1)),(hO p0K p0.Seq ag33 ag31 gE gV),(dF ag33 r18),(dA gC p0.Chunks),(jX gE p0.Exps),(lK gV ((p0.Vols.set p1.Vol.toNat ({ x15 with State:=3})).set p1.Vol.toNat ({ x16 with Files:=0})))]) (λg s=>bK g 3 (s.1:List aT).length) (λg s=>.c 0 (.ptr p0K 0) (.c 3 (.ptr k2 0) (.c 19 (aZ g) (.c 20 (nZ s.2) .nil)))) g0 (bK.g0 3) (lx (.k4 .nil)) ?_ ?_))))))
 rintro ag34 ⟨q20,q21⟩ x O25 m
 replace m:uK w p0 p1 q20 q21=some x:=m
 unfold uK at m
 refine vs (vs (v0 (l4 rfl (dY eY rfl rfl (vl 3 (aZ gE) iL rfl rfl rfl (bU (fK pT oE rfl) (v0 ?_)))))))
 apply vi m<;>intro c23 m
 refine v0 (vs (v0 (vs (v0 (l4 rfl (dY eY rfl rfl (vl 3 (aZ gE) iL rfl rfl rfl ?_)))))))
 obtain⟨x20,X12,m⟩:=aD m
 refine bU (dG X12 iX oE rfl rfl) (vn (λu=>eK (fo:=0) (.agg (cH x20)) X12 gH oE z9 rfl (aO 6 u rfl) (λ_=>rfl)) (ve λu=>bG ([nZ 0,nZ 0,sZ]) u sV rfl rfl λk16100 K29=>qk K29 rfl (ve λu=>aL 0 (cH x20) u rfl rfl rfl rfl J7 rfl rfl λK30=>qk K30 rfl (vs (v0 (dY mZ rfl rfl (vl 0 _ fW rfl rfl rfl (dY jB rfl rfl (vl 3 _ cB rfl rfl rfl (vk WU OO m rfl rfl λy5 m=>dY mZ rfl rfl (ve λu=>aL 0 (cH { x20 with Locs:=y5}) u rfl rfl rfl rfl pU rfl rfl λK31=>qk K31 rfl (vs (v0 (dY mZ rfl rfl (vl 0 _ fW rfl rfl rfl (cU kB rfl (oI m (σ:=(List aT)) (τ:=dE) (λg s=>[(some k16100,.obj 99 (cH { x20 with Locs:=y5})),(jX g s),(dA ag31 r16),(some k2,.obj 62 (aJ p1)),(hO p0K p0.Seq ag33 ag31 gE gV),(dF ag33 r18),(dA gC p0.Chunks),(jX gE p0.Exps),(lK gV ((p0.Vols.set p1.Vol.toNat ({ x15 with State:=3})).set p1.Vol.toNat ({ x16 with Files:=0})))]) (λg s=>bK g 3 (s:List aT).length) (λg s=>.c 0 (.ptr p0K 0) (.c 3 (.ptr k2 0) (.c 19 (aZ g) (.c 20 (nZ q21) .nil)))) (λx m=> ?_) ?_)))))))))))))))))
 refine v0 ?_
 apply vi m<;>intro c24 m
 refine v0 (vl 0 (.agg (cH { x20 with Locs:=y5})) z9 rfl rfl rfl (bU (dX (map cH ([{ x20 with Locs:=y5}]:List aT)) pF rfl rfl rfl rfl) ?_))
 obtain⟨z2,Z2,m⟩:=aD m
 exact ve λu=>gG (c:=cH) 1 Z2 pF rfl sV rfl gH rfl rfl O25 u rfl λag35 O26 K32=>qk K32 rfl (eG m ag35 O26 (lx (.k4 .nil)))
 exact v0 (eG m ag34 O25 (lx (.k4 .nil)))
 rintro ag36 j11 O27 m
 exact v0 (eG m ag36 O27 (mK [1,2,3,4,5,6,7,8] rfl rfl (.k4 .nil)))
 exact v0 (lR m ag34 O25 (lx (.k4 .nil)))
 rintro ag37 ⟨r20,r21⟩ t9 m
 exact v0 (l4 rfl (dY eY rfl rfl (ve λu=>aL 3 ([nZ p0.Seq,aZ ag33,aZ ag31,aZ ag37,aZ gV]) u rfl rfl (cM rfl) (cG (cC _ _ _) rfl) MN rfl rfl λK33=>qk K33 rfl (eG m (ag33,ag31,ag37,gV) ⟨t8,t7,t9,(bK.set (bK.set oV))⟩ (mK [2,3,4,1,0,7] rfl rfl .nil)))))
 refine vs (v0 (oI m (σ:=(List aQ)) (τ:=dE) (λg s=>((some k2,.obj 62 (aJ p1))::(hL p0K p0.Seq gS gC gE g p0.Snaps p0.Chunks p0.Exps s))) (λg s=>bK g 4 (s:List aQ).length) (λg s=>.nil) (λx m=> ?_) ?_))
 refine v0 ?_
 apply vi m<;>intro c25 m
 refine vs (vs (v0 (dY jB rfl rfl (vl 0 _ cB rfl rfl rfl ?_))))
 obtain⟨_,Y9,m⟩:=aD m
 refine ve λu=>fP ((bM u [1,2,3,4,5,0] rfl rfl).1.trans (dP h (hC p0K p0 gS gC gE gV) [(some k2,.obj 62 (aJ p1))]).symm) (dO (WV (hp h [(some k2,.obj 62 (aJ p1))]) ok_Snaps oC oE oV (dK (hC p0K p0 gS gC gE gV) [(some k2,.obj 62 (aJ p1))] (bM u [1,2,3,4,5,0] rfl rfl).2).2 Y9) rfl OP rfl ?_)
 rintro x h' ⟨K34,rfl,rfl⟩
 have K35:=bM (L':=((some k2,.obj 62 (aJ p1))::(hC p0K p0 gS gC gE gV))) (eA (dK (hC p0K p0 gS gC gE gV) [(some k2,.obj 62 (aJ p1))] (bM u [1,2,3,4,5,0] rfl rfl).2).1 K34) [5,0,1,2,3,4] rfl rfl
 refine qk K35.2 ((dP h (hC p0K p0 gS gC gE gV) [(some k2,.obj 62 (aJ p1))]).trans K35.1) (v0 ?_)
 apply vi m<;>intro c26 m
 refine vs (v0 (v0 (fY m λm=>fY m λm=>fY m λm=>fY m λm=>fY m λm=> ?_)))
 cases m
 exact vr λu=>dW.of1 (.inl rfl) (gQ _ _ (.sc (.int _ _)) rfl) (bQ u [1,2,3,4,5] rfl).2 (bD.refl _ _) ⟨gS,ok_Snaps,gC,oC,gE,oE,gV,oV,(bQ u [1,2,3,4,5] rfl).1,rfl,rfl⟩
 refine v0 (v0 (vz [(1000000,some p0K,.obj 30 ([nZ p0.Seq,aZ gS,aZ gC,aZ gE,aZ gV])),(1000000,some k2,.obj 62 (aJ p1)),(24,gV.t,.obj 49 (fl dH (p0.Vols:List aQ) gV.sp))] mixed (λu=>⟨λ_=>aO 1 u rfl,λ_=>aO 0 u rfl,λ_=>aO 5 u rfl,trivial⟩) λu=>zP 0 rfl rfl (zN 1 rfl rfl (zF 2 rfl jA rfl (zL 3 0 (aZ gV) rfl i9 rfl rfl rfl (zF 4 rfl jB rfl (zL 5 1 (nZ p1.Vol) rfl cB rfl rfl rfl (zP 6 rfl rfl (zN 7 rfl rfl (zF 8 rfl jA rfl (zL 9 0 (aZ gV) rfl i9 rfl rfl rfl (zF 10 rfl jB rfl (zL 11 1 (nZ p1.Vol) rfl cB rfl rfl rfl (zP 12 rfl rfl (zN 13 rfl rfl (zF 14 rfl jA rfl (zL 15 0 (aZ gV) rfl i9 rfl rfl rfl (zF 16 rfl jB rfl (zL 17 1 (nZ p1.Vol) rfl cB rfl rfl rfl ?_)))))))))))))))))))
 obtain⟨x21,X13,m⟩:=aD m
 refine zC 18 rfl (dG X13 nA oV rfl rfl) (zC 19 rfl (cX (bK.ne oV X13) MV rfl rfl) (z5 20 rfl (λ_ _ hi hB=>eK (fo:=1) (nZ x21.Epoch) X13 eW oV cB rfl (fV.get 2 hi rfl (hB 24 (by kernel_rfl))) (λ_=>rfl)) (zC 21 rfl (mU rfl rfl rfl trivial) ?_)))
 obtain⟨x22,X14,m⟩:=aD m
 refine zC 22 rfl (dG X14 nA oV rfl rfl) (zC 23 rfl (cX (bK.ne oV X14) rI rfl rfl) (zE 24 rfl (cY (fo:=2) ({ x22 with State:=1}:aQ) 5 u X14 eW oV rfl rfl rfl rfl (cS.refl _ _) A2 rfl rfl λK36=>⟨⟨λ_=>aO 1 K36 rfl,λ_=>aO 0 K36 rfl,λe=>absurd e (by decide),trivial⟩, ?_⟩)))
 obtain⟨x23,X15,m⟩:=aD m
 refine zC 25 rfl (dG X15 nA (bK.set oV) rfl rfl) (zC 26 rfl (cX (bK.ne (bK.set oV) X15) MV rfl rfl) (zE 27 rfl (cY (fo:=1) ({ x23 with Epoch:=wrap .i64 (x21.Epoch+1)}:aQ) 5 K36 X15 eW (bK.set oV) rfl rfl rfl rfl (cS.refl _ _) A2 rfl rfl λK37=>⟨⟨λ_=>aO 1 K37 rfl,λ_=>aO 0 K37 rfl,λe=>absurd e (by decide),trivial⟩, ?_⟩)))
 exact zX (qk (f:=aE0 442 _ _ _ _ _ _ _ _ _ _ _ _ _ _ _ _ _ _ _ _ _ _ _ _ _ _ _) K37 rfl (eG m gV (bK.set (bK.set oV)) (lx .nil)))
 exact v0 (eG m gV oV (lx .nil))
 rintro ag38 j12 O28 m
 exact eG m (gS,gC,gE,ag38) ⟨ok_Snaps,oC,oE,O28⟩ (lx .nil)
 rintro⟨ag39,ag40,ag41,ag42⟩ ⟨j13,j14,j15,j16⟩ ⟨O29,O30,O31,O32⟩ m
 exact eG m (ag39,ag40,ag41,ag42) ⟨O29,O30,O31,O32⟩ (lx .nil)
 rintro⟨ag43,ag44,ag45,ag46⟩ ⟨j17,j18,j19,j20,j21⟩ ⟨O33,O34,O35,O36⟩ m
 exact eG m (ag43,ag44,ag45,ag46) ⟨O33,O34,O35,O36⟩ (lx .nil)
 rintro⟨ag47,ag48,ag49,ag50⟩ ⟨j22,j23,j24,j25,j26⟩ ⟨O37,O38,O39,O40⟩ m
 exact eG m (ag47,ag48,ag49,ag50) ⟨O37,O38,O39,O40⟩ (lx .nil)
 rintro⟨ag51,ag52,ag53,ag54⟩ ⟨j27,j28,j29,j30,j31⟩ ⟨O41,O42,O43,O44⟩ m
 refine vs (v0 (v0 ?_))
 cases m
 exact vr λu=>dW.of1 (.inl rfl) (gQ _ _ (.sc (.int _ _)) rfl) (bQ u [1,2,3,4,5] rfl).2 (bD.refl _ _) ⟨ag51,O41,ag52,O42,ag53,O43,ag54,O44,(bQ u [1,2,3,4,5] rfl).1,rfl,rfl⟩
theorem aIC:aP prog 91=true:=by kernel_rfl
def FE (m:Nat) (p0:aA) (p1:aV):Option (aA×Int):=
 after ((VW m p0).bind λy0=>if (!y0)then Bk true else if decide (p1.Kind < 1) then Bk true else Bk (decide (5 < p1.Kind)):Option (Lp (Bool) (aA×Int))) λj0=>if j0 then (some (({ Seq:=0,Snaps:=[],Chunks:=[],Exps:=[],Vols:=[]}:aA),1)) else (SC m p0).bind λy1=>(M92 m p1).bind λy2=>(rS m ({ Seq:=y1.Seq,Snaps:=y1.Snaps,Chunks:=y1.Chunks,Exps:=y1.Exps,Vols:=y1.Vols}:aA) y2).bind λy3=>if (y3.1 !=0)then (some (({ Seq:=0,Snaps:=[],Chunks:=[],Exps:=[],Vols:=[]}:aA),y3.1)) else (VW m ({ Seq:=y3.2.1,Snaps:=y3.2.2.1,Chunks:=y3.2.2.2.1,Exps:=y3.2.2.2.2.1,Vols:=y3.2.2.2.2.2}:aA)).bind λy4=>if (!y4)then (some (({ Seq:=0,Snaps:=[],Chunks:=[],Exps:=[],Vols:=[]}:aA),1)) else some (({ Seq:=y3.2.1,Snaps:=y3.2.2.1,Chunks:=y3.2.2.2.1,Exps:=y3.2.2.2.2.1,Vols:=y3.2.2.2.2.2}:aA),0)
theorem W36 {w:Nat} {p0:aA} {p1:aV} {o:aA×Int} (h:aF) (m:FE w p0 p1=some o):
 aM prog 36 [.agg (aC p0),.agg (aJ p1)] h (λr h'=>r= .tup [.agg (aC o.1),nZ o.2]/\h'=h):=by
 refine fQ 36 [.cell 4 30,.tmp 5] Tryz.func36 rfl rfl rfl rfl ?_
 unfold FE at m
 refine vs (v0 (gZ rfl rfl λk2 K3=>gZ rfl rfl λk5 K6=>ve λu=>bG (jF) u sP rfl rfl λk8 K9=>qk K9 rfl (vs (vs (fO m (σ:=Bool) (λs=>[(some k8,.obj 30 (jF)),(some k5,.obj 62 (aJ p1)),(some k2,.obj 30 (aC p0))]) (λs=>.c 2 (.ptr k2 0) (.c 3 (.ptr k5 0) (.c 4 (.ptr k8 0) (.c 20 (.sc (.bool s)) .nil)))) (λx m=> ?_) ?_)))))
 refine v0 (vl 2 (.agg (aC p0)) dC rfl rfl rfl (vk W89 aA4 m rfl rfl λ_ m=> ?_))
 apply vi m<;>intro b0 m
 rw[b0]
 exact fZ m
 rw[b0]
 refine dY CG rfl rfl (vl 1 _ cB rfl rfl rfl ?_)
 apply vi m<;>intro b1 m
 rw[b1]
 exact fZ m
 rw[b1]
 exact dY CG rfl rfl (vl 1 _ cB rfl rfl rfl (fZ m))
 rintro _ j0 m
 refine v0 ?_
 apply vi m<;>intro c0 m
 refine vs (v0 (bU (eJ (jF) GW rfl) (ve λu=>aL 0 (jF) u rfl rfl rfl rfl nB rfl rfl λK0=>qk K0 rfl (v0 ?_))))
 cases m
 exact vr λu=>dW.of2 (.inl rfl) (sJ (.agg (jF)) dC rfl (aW 0 u rfl) rfl) (gQ _ _ (.sc (.int _ _)) rfl) (aU (nil_sublist _) u).1 (bD.agg (.cons (bD.refl _ _) (.cons (a9 _) (.cons (a9 _) (.cons (a9 _) (.cons (a9 _) .nil)))))) (bD.refl _ _) ⟨rfl,rfl⟩
 refine v0 (vs (v0 (vl 2 (.agg (aC p0)) dC rfl rfl rfl ?_)))
 obtain⟨y0,Y0,m⟩:=aD m
 refine ve λu=>dO (aH7 _ Y0) rfl aG5 rfl ?_
 rintro x h' ⟨ag0,O0,ag1,O1,ag2,O2,ag3,O3,K1,rfl,rfl⟩
 refine qk (eA u K1) (dP h [(dF ag0 y0.Snaps),(dA ag1 y0.Chunks),(jX ag2 y0.Exps),(lK ag3 y0.Vols)] [(some k8,.obj 30 (jF)),(some k5,.obj 62 (aJ p1)),(some k2,.obj 30 (aC p0))]) (ve λu=>bG (jF) u sP rfl rfl λk42 K2=>qk K2 rfl (ve λu=>aL 0 ([nZ y0.Seq,aZ ag0,aZ ag1,aZ ag2,aZ ag3]) u rfl rfl rfl (by repeat (first | exact rfl | refine cG (jO _ _ _) ?_ | refine cG (cC _ _ _) ?_ | refine cG (gK _ _ _ _) ?_ | refine cG rfl ?_)) nB rfl rfl λK4=>qk K4 rfl ?_))
 refine vs (v0 (vl 6 (.agg (aJ p1)) sS rfl rfl rfl (vk W92 aH9 m rfl rfl λ_ m=> ?_)))
 obtain⟨y1,Y1,m⟩:=aD m
 refine ve λu=>fP ((bM u [0,1,2,3,4,5,6,7] rfl rfl).1.trans (dP h (hC k42 y0 ag0 ag1 ag2 ag3) [(some k8,.obj 30 (jF)),(some k5,.obj 62 (aJ p1)),(some k2,.obj 30 (aC p0))]).symm) (dO (W91 (hp h [(some k8,.obj 30 (jF)),(some k5,.obj 62 (aJ p1)),(some k2,.obj 30 (aC p0))]) O0 O1 O2 O3 (dK (hC k42 y0 ag0 ag1 ag2 ag3) [(some k8,.obj 30 (jF)),(some k5,.obj 62 (aJ p1)),(some k2,.obj 30 (aC p0))] (bM u [0,1,2,3,4,5,6,7] rfl rfl).2).2 Y1) rfl aIC rfl ?_)
 rintro x h' ⟨ag4,O4,ag5,O5,ag6,O6,ag7,O7,K5,rfl,rfl⟩
 have K7:=bM (L':=[(hO k42 y1.2.1 ag4 ag5 ag6 ag7),(dF ag4 y1.2.2.1),(dA ag5 y1.2.2.2.1),(jX ag6 y1.2.2.2.2.1),(lK ag7 y1.2.2.2.2.2),(some k8,.obj 30 (jF)),(some k5,.obj 62 (aJ p1)),(some k2,.obj 30 (aC p0))]) (eA (dK (hC k42 y0 ag0 ag1 ag2 ag3) [(some k8,.obj 30 (jF)),(some k5,.obj 62 (aJ p1)),(some k2,.obj 30 (aC p0))] (bM u [0,1,2,3,4,5,6,7] rfl rfl).2).1 K5) [0,1,2,3,4,5,6,7] rfl rfl
 refine qk K7.2 ((dP h (hL k42 y1.2.1 ag4 ag5 ag6 ag7 y1.2.2.1 y1.2.2.2.1 y1.2.2.2.2.1 y1.2.2.2.2.2) [(some k8,.obj 30 (jF)),(some k5,.obj 62 (aJ p1)),(some k2,.obj 30 (aC p0))]).trans K7.1) (vs (vs (v0 (v0 ?_))))
 apply vi m<;>intro c1 m
 refine vs (v0 (bU (eJ (jF) GW rfl) (ve λu=>aL 5 (jF) u rfl rfl rfl rfl nB rfl rfl λK8=>qk K8 rfl (v0 ?_))))
 cases m
 exact vr λu=>dW.of2 (.inl rfl) (sJ (.agg (jF)) dC rfl (aW 5 u rfl) rfl) (gQ _ _ (.sc (.int _ _)) rfl) (aU (nil_sublist _) u).1 (bD.agg (.cons (bD.refl _ _) (.cons (a9 _) (.cons (a9 _) (.cons (a9 _) (.cons (a9 _) .nil)))))) (bD.refl _ _) ⟨rfl,rfl⟩
 refine v0 (vs (vs (v0 (vl 0 (.agg ([nZ y1.2.1,aZ ag4,aZ ag5,aZ ag6,aZ ag7])) dC rfl rfl rfl ?_))))
 obtain⟨_,Y2,m⟩:=aD m
 refine vn (λu=>bV (fN (.cons (Br.agg (.cons (Br.refl _ _) (.cons (Br.aw 1 eP O4 u rfl) (.cons (Br.aw 2 cZ O5 u rfl) (.cons (Br.aw 3 gH O6 u rfl) (.cons (Br.aw 4 eW O7 u rfl) .nil)))))) .nil) rfl (W89 _ Y2)) rfl aA4 rfl) (v0 ?_)
 apply vi m<;>intro c2 m
 refine vs (v0 (bU (eJ (jF) GW rfl) (ve λu=>aL 5 (jF) u rfl rfl rfl rfl nB rfl rfl λK73=>qk K73 rfl (v0 ?_))))
 cases m
 exact vr λu=>dW.of2 (.inl rfl) (sJ (.agg (jF)) dC rfl (aW 5 u rfl) rfl) (gQ _ _ (.sc (.int _ _)) rfl) (aU (nil_sublist _) u).1 (bD.agg (.cons (bD.refl _ _) (.cons (a9 _) (.cons (a9 _) (.cons (a9 _) (.cons (a9 _) .nil)))))) (bD.refl _ _) ⟨rfl,rfl⟩
 refine v0 (vs (v0 (vl 0 (.agg ([nZ y1.2.1,aZ ag4,aZ ag5,aZ ag6,aZ ag7])) dC rfl rfl rfl (ve λu=>aL 5 ([nZ y1.2.1,aZ ag4,aZ ag5,aZ ag6,aZ ag7]) u rfl rfl rfl (by repeat (first | exact rfl | refine cG (jO _ _ _) ?_ | refine cG (cC _ _ _) ?_ | refine cG (gK _ _ _ _) ?_ | refine cG rfl ?_)) nB rfl rfl λK75=>qk K75 rfl ?_))))
 refine v0 ?_
 cases m
 refine vrl λu=> ?_
 obtain⟨K76,le0⟩:=gA.fzO (n:=36) (f:=_) 1 4 ([nZ y1.2.1,.sl none 4 (map bJ y1.2.2.1),aZ ag5,aZ ag6,aZ ag7]) u rfl (.cons (Fz.refl _ _ _) (.cons (Fz.aw 1 eP O4 u rfl (.refl _)) (.cons (Fz.refl _ _ _) (.cons (Fz.refl _ _ _) (.cons (Fz.refl _ _ _) .nil)))))
 obtain⟨K78,le1⟩:=gA.fzO (n:=36) (f:=_) 1 3 ([nZ y1.2.1,.sl none 4 (map bJ y1.2.2.1),.sl none 35 (map aK y1.2.2.2.1),aZ ag6,aZ ag7]) K76 rfl (.cons (Fz.refl _ _ _) (.cons (Fz.refl _ _ _) (.cons (Fz.aw 1 cZ O5 K76 rfl (.refl _)) (.cons (Fz.refl _ _ _) (.cons (Fz.refl _ _ _) .nil)))))
 obtain⟨K80,le2⟩:=gA.fzO (n:=36) (f:=_) 1 2 ([nZ y1.2.1,.sl none 4 (map bJ y1.2.2.1),.sl none 35 (map aK y1.2.2.2.1),.sl none 3 (map cH y1.2.2.2.2.1),aZ ag7]) K78 rfl (.cons (Fz.refl _ _ _) (.cons (Fz.refl _ _ _) (.cons (Fz.refl _ _ _) (.cons (Fz.aw 1 gH O6 K78 rfl (.refl _)) (.cons (Fz.refl _ _ _) .nil)))))
 obtain⟨K82,le3⟩:=gA.fzO (n:=36) (f:=_) 1 1 ([nZ y1.2.1,.sl none 4 (map bJ y1.2.2.1),.sl none 35 (map aK y1.2.2.2.1),.sl none 3 (map cH y1.2.2.2.2.1),.sl none 4 (map dH y1.2.2.2.2.2)]) K80 rfl (.cons (Fz.refl _ _ _) (.cons (Fz.refl _ _ _) (.cons (Fz.refl _ _ _) (.cons (Fz.refl _ _ _) (.cons (Fz.aw 1 eW O7 K80 rfl (.refl _)) .nil)))))
 exact QE.mk (gA.trans (gA.trans (gA.trans le0 le1) le2) le3) (dW.of2 (.inl rfl) (sJ (.agg (aC ({ Seq:=y1.2.1,Snaps:=y1.2.2.1,Chunks:=y1.2.2.2.1,Exps:=y1.2.2.2.2.1,Vols:=y1.2.2.2.2.2}:aA))) dC rfl (aW 1 K82 rfl) rfl) (gQ _ _ (.sc (.int _ _)) rfl) (aU (nil_sublist _) K82).1 (bD.refl _ _) (bD.refl _ _) ⟨rfl,rfl⟩)
theorem aID:aP prog 36=true:=by kernel_rfl
def uL (m:Nat) (p0:List dJ) (q0:Int):Option (Lp (Int) (Bool)):=
 if decide (q0 < (p0.length:Int)) then ((ix p0 q0).bind λx0=>if decide (200 < (x0.Data.length:Int)) then Rk true else Gk (wrap .i64 (q0+1))) else Bk q0
def KO (m:Nat) (p0:List dJ):Option (Bool):=
 if decide (6 < (p0.length:Int)) then (some true) else after (aR (λs=>uL m p0 s) m 0) λr0=>some false
theorem aCW {u:Nat} {p0:List dJ} {o:Bool} (h:aF) (m:KO u p0=some o):
 aM prog 139 [.sl none 2 (map eL p0)] h (λr h'=>r= .sc (.bool o)/\h'=h):=by
 refine fQ 20 [.tmp 2] Tryz.func139 rfl rfl rfl rfl ?_
 unfold KO at m
 refine v (v (cU z8 rfl (v ?_)))
 apply vi m<;>intro c4 m
 refine v (v ?_)
 obtain rfl:=eR m
 exact eH rfl
 refine v (v (jS m (σ:=Int) (λs=>[]) (λs=>.c 0 (.sl none 2 (map eL p0)) (.c 3 (nZ s) .nil)) (lx (.k2 .nil)) ?_ ?_))
 rintro _ q0 x m
 replace m:uL u p0 q0=some x:=m
 unfold uL at m
 refine v (cU z8 rfl (v ?_))
 apply vi m<;>intro c0 m
 refine v (v (v (vx m pI rfl rfl λ_ _ m=>cU nR rfl (v ?_))))
 apply vi m<;>intro c1 m
 refine v (v (fY m λm=> ?_))
 obtain rfl:=eR m
 exact eH rfl
 exact v (v (wQ m))
 exact v (LH m)
 rintro _ r0 m
 refine v (v ?_)
 obtain rfl:=eR m
 exact eH rfl
theorem UD:aP prog 139=true:=by kernel_rfl
def C0 (m:Nat) (p0:List dJ) (q0:Int):Option (Lp (Int) ((List dJ)×Int)):=
 if decide (q0 < (p0.length:Int)) then ((ix p0 q0).bind λx0=>(CM m x0.Path).bind λy0=>if (!y0)then (Rk ([],1)) else Gk (wrap .i64 (q0+1))) else Bk q0
def C1 (m:Nat) (p0:List dJ) (q0:List dJ) (q1:Int) (q2:Int):Option (Lp (Int) (Lp ((List dJ)×Int) ((List dJ)×Int))):=
 after (if decide (q2 < (q0.length:Int)) then ((ix q0 q2).bind λx0=>(ix p0 q1).bind λx1=>Bk (Op.bytesLess x0.Path.toList x1.Path.toList)) else Bk false:Option (Lp (Bool) (Lp (Int) (Lp ((List dJ)×Int) ((List dJ)×Int))))) λj0=>if j0 then (Gk (wrap .i64 (q2+1))) else Bk q2
def C2 (m:Nat) (p0:List dJ) (q0:List dJ) (q1:Int):Option (Lp ((List dJ)×Int) ((List dJ)×Int)):=
 if decide (q1 < (p0.length:Int)) then (after (aR (λs=>C1 m p0 q0 q1 s) m 0) λr0=>after (if decide (r0 < (q0.length:Int)) then ((ix q0 r0).bind λx0=>(ix p0 q1).bind λx1=>Bk (x0.Path.toList==x1.Path.toList)) else Bk false:Option (Lp (Bool) (Lp ((List dJ)×Int) ((List dJ)×Int)))) λj0=>if j0 then (Rk ([],9)) else (slc q0 0 r0).bind λx2=>(ix p0 q1).bind λx3=>(ix p0 q1).bind λx4=>(app ([]:List dJ) x2).bind λz0=>(vO m x4.Data).bind λy0=>(app z0 ([({ Path:=x3.Path,Data:=y0}:dJ)]:List dJ)).bind λz1=>(slc q0 r0 (q0.length:Int)).bind λx5=>(app z1 x5).bind λz2=>Gk (z2,wrap .i64 (q1+1))) else Bk (q0,q1)
def M85 (m:Nat) (p0:List dJ):Option ((List dJ)×Int):=
 (KO m p0).bind λy4=>if y4 then (some ([],2)) else after (aR (λs=>C0 m p0 s) m 0) λr0=>after (aR (λs=>C2 m p0 s.1 s.2) m ([],0)) λ⟨r1,r2⟩=>some (r1,0)
theorem W85 {w:Nat} {p0:List dJ} {o:(List dJ)×Int} (h:aF) (m:M85 w p0=some o):
 aM prog 85 [.sl none 2 (map eL p0)] h (λr h'=>r= .tup [.sl none 2 (map eL o.1),nZ o.2]/\h'=h):=by
 refine fQ 91 [.tmp 2,.tmp 3] Tryz.func85 rfl rfl rfl rfl ?_
 unfold M85 at m
 refine v (v (vk aCW UD m rfl rfl λ_ m=>v ?_))
 apply vi m<;>intro c6 m
 refine v (v ?_)
 cases m
 exact vr λu=>dW.of2 (.inl rfl) (gQ _ _ (.sc (.slice _ _ _)) rfl) (gQ _ _ (.sc (.int _ _)) rfl) (iJ.refl _) (a9 _) (bD.refl _ _) ⟨rfl,rfl⟩
 refine v (v (jS m (σ:=Int) (λs=>[]) (λs=>.c 0 (.sl none 2 (map eL p0)) (.c 4 (nZ s) .nil)) (lx (.k2 .nil)) ?_ ?_))
 rintro _ q0 x m
 replace m:C0 w p0 q0=some x:=m
 unfold C0 at m
 refine v (cU z8 rfl (v ?_))
 apply vi m<;>intro c0 m
 refine v (v (v (vx m pI rfl rfl λ_ _ m=>vk NH EO m rfl rfl λ_ m=>v ?_)))
 apply vi m<;>intro c1 m
 refine v (v (fY m λm=> ?_))
 cases m
 exact vr λu=>dW.of2 (.inl rfl) (gQ _ _ (.sc (.slice _ _ _)) rfl) (gQ _ _ (.sc (.int _ _)) rfl) (iJ.refl _) (a9 _) (bD.refl _ _) ⟨rfl,rfl⟩
 exact v (v (wQ m))
 exact v (LH m)
 rintro _ r0 m
 refine v (v (pM (z6 (.tok 95 2 (([]:List dJ).length*2)) 5 (ow none 2 (map eL [])) (gD _ _)) (nU m (σ:=(List dJ)×Int) (τ:=Option bT) (λg s=>[(g,.tok 95 2 ((s.1:List dJ).length*2))]) (λg s=>(g=none->s.1= [])) (λg s=>.c 0 (.sl none 2 (map eL p0)) (.c 5 (ow g 2 (map eL s.1)) (.c 6 (nZ s.2) .nil))) none (λ_=>rfl) (lx (.k3 .nil)) ?_ ?_)))
 rintro tg0 ⟨q1,q2⟩ x t0 m
 replace m:C2 w p0 q1 q2=some x:=m
 unfold C2 at m
 refine v (cU z8 rfl (v ?_))
 apply vi m<;>intro c2 m
 refine v (v (v (vs (jS m (σ:=Int) (λs=>[(tg0,.tok 95 2 ((q1:List dJ).length*2))]) (λs=>.c 0 (.sl none 2 (map eL p0)) (.c 5 (ow tg0 2 (map eL q1)) (.c 6 (nZ q2) (.c 7 (nZ s) .nil)))) (lx (.k4 .nil)) ?_ ?_))))
 rintro _ q3 x m
 replace m:C1 w p0 q1 q2 q3=some x:=m
 unfold C1 at m
 refine vs (vs (fO m (σ:=Bool) (λs=>[(tg0,.tok 95 2 ((q1:List dJ).length*2))]) (λs=>.c 0 (.sl none 2 (map eL p0)) (.c 5 (ow tg0 2 (map eL q1)) (.c 6 (nZ q2) (.c 7 (nZ q3) (.c 46 (.sc (.bool s)) .nil))))) (λx m=> ?_) ?_))
 refine v (vq (by kernel_rfl) (bU (u0 z8 t0 rfl) ?_))
 apply vi m<;>intro b0 m
 rw[b0]
 obtain⟨_,X0,m⟩:=aD m
 exact bU (TL X0 pI t0 rfl rfl) (vx m pI rfl rfl λ_ _ m=>bU (GC rfl rfl rfl trivial) (kN m))
 rw[b0]
 exact kN m
 rintro _ j0 m
 refine v ?_
 apply vi m<;>intro c3 m
 exact v (v (v (fZ m)))
 exact v (vB m)
 rintro _ r1 m
 refine vs (vs (fO m (σ:=Bool) (λs=>[(tg0,.tok 95 2 ((q1:List dJ).length*2))]) (λs=>.c 0 (.sl none 2 (map eL p0)) (.c 5 (ow tg0 2 (map eL q1)) (.c 6 (nZ q2) (.c 7 (nZ r1) (.c 65 (.sc (.bool s)) .nil))))) (λx m=> ?_) ?_))
 refine v (vq (by kernel_rfl) (bU (u0 z8 t0 rfl) ?_))
 apply vi m<;>intro b1 m
 rw[b1]
 obtain⟨_,X1,m⟩:=aD m
 exact bU (TL X1 pI t0 rfl rfl) (vx m pI rfl rfl λ_ _ m=>bU (GC rfl rfl rfl trivial) (kN m))
 rw[b1]
 exact kN m
 rintro _ j1 m
 refine v ?_
 apply vi m<;>intro c4 m
 refine v (v (fY m λm=> ?_))
 cases m
 exact vr λu=>dW.of2 (.inl rfl) (gQ _ _ (.sc (.slice _ _ _)) rfl) (gQ _ _ (.sc (.int _ _)) rfl) (aU (nil_sublist _) u).1 (a9 _) (bD.refl _ _) ⟨rfl,rfl⟩
 refine v (v (v (vz [] mixed (λu=>trivial) λu=>zC 0 rfl (fJ (.sc (.slice _ _ _)) rfl) (zC 1 rfl (fJ (ow _ _ _) rfl) (zI 2 rfl rfl ?_)))))
 obtain⟨_,X2,m⟩:=aD m
 refine zC 3 rfl (B9 X2 pI rfl t0 rfl rfl rfl) (zC 5 rfl (fJ (.sl _ _ _) rfl) (zI 6 rfl rfl ?_))
 obtain⟨x0,X3,m⟩:=aD m
 refine zC 7 rfl (lV X3 pI rfl rfl) (zC 8 rfl (m9 M1 rfl rfl) (zC 9 rfl (l8 (.sc (.string x0.Path)) IC rfl rfl) (zC 10 rfl (fJ (.sl _ _ _) rfl) (zI 11 rfl rfl ?_))))
 obtain⟨x1,X4,m⟩:=aD m
 refine zC 12 rfl (lV X4 pI rfl rfl) (zC 13 rfl (m9 M2 rfl rfl) (zC 14 rfl (l8 (.sl none 1 (map f9 x1.Data)) n6 rfl rfl) ?_))
 obtain⟨z0,Z0,m⟩:=aD m
 refine zE 4 rfl (oM (c:=eL) Z0 RH rfl rfl u nofun (qJ (sN X2 t0)) λtg1 t1 K0=>⟨trivial, ?_⟩)
 obtain⟨y0,Y0,m⟩:=aD m
 refine zC 15 rfl (bV (NR _ Y0) rfl EV rfl) (zC 16 rfl (eJ (eL ({ Path:=x0.Path,Data:=y0}:dJ)) aFK rfl) (zC 17 rfl (dX (map eL ([({ Path:=x0.Path,Data:=y0}:dJ)]:List dJ)) RH rfl rfl rfl rfl) ?_))
 obtain⟨z1,Z1,m⟩:=aD m
 refine zE 18 rfl (fC (c:=eL) 0 Z1 RH rfl rfl rfl t1 K0 rfl λtg2 t2 K1=>⟨trivial, ?_⟩)
 refine zC 19 rfl (iC (ow _ _ _) rfl) (zX (qk (f:=.c 8 _ (TP 84 _ _ _ _ (.c 70 _ (ZT 80 _ _ _ _ _ _ _ _ _ _ (TP 69 _ _ _ _ _))))) K1 rfl (v ?_)))
 obtain⟨_,X5,m⟩:=aD m
 refine bU (B9 X5 pI rfl t0 rfl rfl rfl) ?_
 obtain⟨z2,Z2,m⟩:=aD m
 exact ve λu=>fC (c:=eL) 0 Z2 RH rfl rfl rfl t2 u (qJ (sN X5 t0)) λtg3 t3 K2=>qk K2 rfl (v (eG m tg3 t3 (mK [0] rfl rfl (.k3 .nil))))
 exact v (lR m tg0 t0 (lx (.k3 .nil)))
 rintro tg4 ⟨r2,r3⟩ t4 m
 refine v (v ?_)
 cases m
 exact vr λu=>dW.of2 (.inl rfl) (gQ _ _ (ow _ _ _) rfl) (gQ _ _ (.sc (.int _ _)) rfl) (aU (nil_sublist _) u).1 ((dU _ 0 t4 u rfl)) (bD.refl _ _) ⟨rfl,rfl⟩
theorem aIE:aP prog 85=true:=by kernel_rfl
def WX (m:Nat):Option ((Ar 64)):=
 some (⟨[1116352408,1899447441,3049323471,3921009573,961987163,1508970993,2453635748,2870763221,3624381080,310598401,607225278,1426881987,1925078388,2162078206,2614888103,3248222580,3835390401,4022224774,264347078,604807628,770255983,1249150122,1555081692,1996064986,2554220882,2821834349,2952996808,3210313671,3336571891,3584528711,113926993,338241895,666307205,773529912,1294757372,1396182291,1695183700,1986661051,2177026350,2456956037,2730485921,2820302411,3259730800,3345764771,3516065817,3600352804,4094571909,275423344,430227734,506948616,659060556,883997877,958139571,1322822218,1537002063,1747873779,1955562222,2024104815,2227730452,2361852424,2428436474,2756734187,3204031479,3329325298],rfl⟩:Ar 64)
theorem aIF {w:Nat} {o:(Ar 64)} (h:aF) (m:WX w=some o):
 aM prog 144 [] h (λr h'=>r= .agg (cQ o)/\h'=h):=by
 refine fQ 2 [.cell 0 181] Tryz.func144 rfl rfl rfl rfl ?_
 unfold WX at m
 refine v (ve λu=>bG (cQ (YC 64)) u M7 rfl rfl λk2 K3=>qk K3 rfl (v (bU (CA [1116352408,1899447441,3049323471,3921009573,961987163,1508970993,2453635748,2870763221,3624381080,310598401,607225278,1426881987,1925078388,2162078206,2614888103,3248222580,3835390401,4022224774,264347078,604807628,770255983,1249150122,1555081692,1996064986,2554220882,2821834349,2952996808,3210313671,3336571891,3584528711,113926993,338241895,666307205,773529912,1294757372,1396182291,1695183700,1986661051,2177026350,2456956037,2730485921,2820302411,3259730800,3345764771,3516065817,3600352804,4094571909,275423344,430227734,506948616,659060556,883997877,958139571,1322822218,1537002063,1747873779,1955562222,2024104815,2227730452,2361852424,2428436474,2756734187,3204031479,3329325298] rfl VS rfl rfl rfl) (ve λu=>aL 0 (cQ (⟨[1116352408,1899447441,3049323471,3921009573,961987163,1508970993,2453635748,2870763221,3624381080,310598401,607225278,1426881987,1925078388,2162078206,2614888103,3248222580,3835390401,4022224774,264347078,604807628,770255983,1249150122,1555081692,1996064986,2554220882,2821834349,2952996808,3210313671,3336571891,3584528711,113926993,338241895,666307205,773529912,1294757372,1396182291,1695183700,1986661051,2177026350,2456956037,2730485921,2820302411,3259730800,3345764771,3516065817,3600352804,4094571909,275423344,430227734,506948616,659060556,883997877,958139571,1322822218,1537002063,1747873779,1955562222,2024104815,2227730452,2361852424,2428436474,2756734187,3204031479,3329325298],rfl⟩:Ar 64)) u rfl rfl rfl rfl TV rfl rfl λK6=>qk K6 rfl ?_))))
 refine v ?_
 cases m
 exact vr λu=>dW.of1 (.inl rfl) (sJ (.agg (cQ (⟨[1116352408,1899447441,3049323471,3921009573,961987163,1508970993,2453635748,2870763221,3624381080,310598401,607225278,1426881987,1925078388,2162078206,2614888103,3248222580,3835390401,4022224774,264347078,604807628,770255983,1249150122,1555081692,1996064986,2554220882,2821834349,2952996808,3210313671,3336571891,3584528711,113926993,338241895,666307205,773529912,1294757372,1396182291,1695183700,1986661051,2177026350,2456956037,2730485921,2820302411,3259730800,3345764771,3516065817,3600352804,4094571909,275423344,430227734,506948616,659060556,883997877,958139571,1322822218,1537002063,1747873779,1955562222,2024104815,2227730452,2361852424,2428436474,2756734187,3204031479,3329325298],rfl⟩:Ar 64))) aAH rfl (aW 0 u rfl) rfl) (aU (nil_sublist _) u).1 (bD.refl _ _) ⟨rfl,rfl⟩
theorem aCY:aP prog 144=true:=by kernel_rfl
def wW (m:Nat) (q0:List Int):Option (Lp ((List Int)) ((List Int))):=
 if (((wrap .i64 ((q0.length:Int)+8)).tmod 64) !=0)then ((app q0 ([0]:List Int)).bind λz0=>Gk z0) else Bk q0
def wX (m:Nat) (p0:List Int) (q0:List Int) (q1:Int):Option (Lp ((List Int)×Int) ((List Int))):=
 if decide (0<=q1) then (grd (decide (0<=(wrap .u64 (8*(wrap .u64 q1))))) <| (app q0 ([wrap .u8 ((wrap .u64 ((wrap .u64 (p0.length:Int))*8)).fdiv (2 ^ (min ((wrap .u64 (8*(wrap .u64 q1))):Int).toNat (IntKind.bits .u64))))]:List Int)).bind λz0=>Gk (z0,wrap .i64 (q1 - 1))) else Bk (q0,q1)
def OR (m:Nat) (p0:List Int):Option ((List Int)):=
 (app ([]:List Int) p0).bind λz4=>(app z4 ([128]:List Int)).bind λz0=>after (aR (λs=>wW m s) m z0) λr0=>after (aR (λs=>wX m p0 s.1 s.2) m (r0,7)) λ⟨r1,r2⟩=>some r1
theorem aIG {w:Nat} {p0:List Int} {o:(List Int)} (h:aF) (m:OR w p0=some o):
 aM prog 145 [.sl none 1 (map f9 p0)] h (λr h'=>r= .sl none 1 (map f9 o)/\h'=h):=by
 refine fQ 37 [.tmp 2] Tryz.func145 rfl rfl rfl rfl ?_
 unfold OR at m
 refine v (v (v ?_))
 obtain⟨z4,Z5,m⟩:=aD m
 refine ve λu=>oM (c:=f9) Z5 xW rfl rfl u nofun rfl λtg6 t7 K8=>qk K8 rfl (bU (dX (map f9 ([128]:List Int)) xW rfl rfl rfl rfl) ?_)
 obtain⟨z0,Z0,m⟩:=aD m
 refine ve λu=>fC (c:=f9) 0 Z0 xW rfl rfl rfl t7 u rfl λtg0 t0 K0=>qk K0 rfl (vs (nU m (σ:=(List Int)) (τ:=Option bT) (λg s=>[(g,.tok 5 1 ((s:List Int).length*1))]) (λg s=>(g=none->s= [])) (λg s=>.c 0 (.sl none 1 (map f9 p0)) (.c 3 (ow g 1 (map f9 s)) .nil)) tg0 t0 (lx (.k2 .nil)) ?_ ?_))
 rintro tg1 q0 x t1 m
 replace m:wW w q0=some x:=m
 unfold wW at m
 refine v (bU (u0 nR t1 rfl) (v ?_))
 apply vi m<;>intro c0 m
 refine v (v (v (bU (dX (map f9 ([0]:List Int)) xW rfl rfl rfl rfl) ?_)))
 obtain⟨z1,Z1,m⟩:=aD m
 exact ve λu=>fC (c:=f9) 0 Z1 xW rfl rfl rfl t1 u rfl λtg2 t2 K1=>qk K1 rfl (eG m tg2 t2 (lx (.k2 .nil)))
 exact v (lR m tg1 t1 (lx (.k2 .nil)))
 rintro tg3 r0 t3 m
 refine v (cU nR rfl (v (nU m (σ:=(List Int)×Int) (τ:=Option bT) (λg s=>[(g,.tok 5 1 ((s.1:List Int).length*1))]) (λg s=>(g=none->s.1= [])) (λg s=>.c 3 (ow g 1 (map f9 s.1)) (.c 4 (.sc (.int .u64 (wrap .u64 ((wrap .u64 (p0.length:Int))*8)))) (.c 5 (nZ s.2) .nil))) tg3 t3 (lx (.k3 .nil)) ?_ ?_)))
 rintro tg4 ⟨q1,q2⟩ x t4 m
 replace m:wX w p0 q1 q2=some x:=m
 unfold wX at m
 refine v (v ?_)
 apply vi m<;>intro c1 m
 refine v (v (v (YD m λ_ m=>bU (dX (map f9 ([wrap .u8 ((wrap .u64 ((wrap .u64 (p0.length:Int))*8)).fdiv (2 ^ (min ((wrap .u64 (8*(wrap .u64 q2))):Int).toNat (IntKind.bits .u64))))]:List Int)) xW rfl rfl rfl rfl) ?_)))
 obtain⟨z2,Z2,m⟩:=aD m
 exact ve λu=>fC (c:=f9) 0 Z2 xW rfl rfl rfl t4 u rfl λtg5 t5 K2=>qk K2 rfl (v (eG m tg5 t5 (lx (.k3 .nil))))
 exact v (lR m tg4 t4 (lx (.k3 .nil)))
 rintro tg7 ⟨r1,r2⟩ t6 m
 refine v (v ?_)
 obtain rfl:=eR m
 exact vr λu=>dW.of1 (.inl rfl) (gQ _ _ (ow _ _ _) rfl) (aU (nil_sublist _) u).1 ((dU _ 0 t6 u rfl)) ⟨rfl,rfl⟩
theorem aCZ:aP prog 145=true:=by kernel_rfl
def uM (m:Nat) (p0:Int) (p1:Int):Option (Int):=
 grd (decide (0<=p1)) <| grd (decide (0<=(wrap .u64 (32 - p1)))) <| some (bZ .or .u32 (p0.fdiv (2 ^ (min (p1:Int).toNat (IntKind.bits .u32)))) (wrap .u32 (p0*2 ^ (min ((wrap .u64 (32 - p1)):Int).toNat (IntKind.bits .u32)))))
theorem AH {u:Nat} {p0:Int} {p1:Int} {o:Int} (h:aF) (m:uM u p0 p1=some o):
 aM prog 146 [.sc (.int .u32 p0),.sc (.int .u64 p1)] h (λr h'=>r= .sc (.int .u32 o)/\h'=h):=by
 refine fQ 13 [.tmp 4] Tryz.func146 rfl rfl rfl rfl ?_
 unfold uM at m
 refine v (v (YD m λ_ m=>YD m λ_ m=>v ?_))
 cases m
 exact eH rfl
theorem qW:aP prog 146=true:=by kernel_rfl
def C3 (m:Nat) (y0:(List Int)) (q0:Int) (q1:Int) (q2:Ar 64) (q3:Int):Option (Lp ((Ar 64)×Int) (Lp ((Ar 64)) (Lp ((Ar 64)×Int) (Lp ((Ar 8)×Int) (bH))))):=
 if decide (q3 < 4) then ((ix q2.1 q1).bind λx0=>(ix y0 (wrap .i64 ((wrap .i64 (q0+(wrap .i64 (4*q1))))+q3))).bind λx1=>(ix q2.1 q1).bind λ_=>Gk (TO q2 q1.toNat (bZ .or .u32 (wrap .u32 (x0*2 ^ (min (8:Int).toNat (IntKind.bits .u32)))) (wrap .u32 x1)),wrap .i64 (q3+1))) else Bk (q2,q3)
def C4 (m:Nat) (y0:(List Int)) (q0:Int) (q1:Ar 64) (q2:Int):Option (Lp ((Ar 64)×Int) (Lp ((Ar 8)×Int) (bH))):=
 if decide (q2 < 64) then (after (if decide (q2 < 16) then (after (aR (λs=>C3 m y0 q0 q2 s.1 s.2) m (q1,0)) λ⟨r0,r1⟩=>Bk r0) else (ix q1.1 (wrap .i64 (q2 - 15))).bind λx0=>(ix q1.1 (wrap .i64 (q2 - 2))).bind λx1=>(ix q1.1 (wrap .i64 (q2 - 16))).bind λx2=>(ix q1.1 (wrap .i64 (q2 - 7))).bind λx3=>(uM m x0 7).bind λy1=>(uM m x0 18).bind λy2=>(uM m x1 17).bind λy3=>(uM m x1 19).bind λy4=>(ix q1.1 q2).bind λ_=>Bk (TO q1 q2.toNat (wrap .u32 ((wrap .u32 ((wrap .u32 (x2+x3))+(bZ .xor .u32 (bZ .xor .u32 y1 y2) (x0.fdiv (2 ^ (min (3:Int).toNat (IntKind.bits .u32)))))))+(bZ .xor .u32 (bZ .xor .u32 y3 y4) (x1.fdiv (2 ^ (min (10:Int).toNat (IntKind.bits .u32)))))))):Option (Lp ((Ar 64)) (Lp ((Ar 64)×Int) (Lp ((Ar 8)×Int) (bH))))) λj0=>Gk (j0,wrap .i64 (q2+1))) else Bk (q1,q2)
def C5 (m:Nat) (y6:(Ar 64)) (r0:Ar 64) (q0:Ar 8) (q1:Int):Option (Lp ((Ar 8)×Int) (Lp ((Ar 8)×Int) (bH))):=
 if decide (q1 < 64) then ((ix q0.1 0).bind λx0=>(ix q0.1 4).bind λx1=>(ix q0.1 7).bind λx2=>(uM m x1 6).bind λy0=>(uM m x1 11).bind λy1=>(uM m x1 25).bind λy2=>(ix q0.1 5).bind λx3=>(ix q0.1 6).bind λx4=>(ix y6.1 q1).bind λx5=>(ix r0.1 q1).bind λx6=>(uM m x0 2).bind λy3=>(uM m x0 13).bind λy4=>(uM m x0 22).bind λy5=>(ix q0.1 1).bind λx7=>(ix q0.1 2).bind λx8=>(ix q0.1 1).bind λx9=>(ix q0.1 2).bind λx10=>(ix q0.1 0).bind λx11=>(ix q0.1 1).bind λx12=>(ix q0.1 2).bind λx13=>(ix q0.1 3).bind λx14=>(ix q0.1 4).bind λx15=>(ix q0.1 5).bind λx16=>(ix q0.1 6).bind λx17=>Gk ((⟨[wrap .u32 ((wrap .u32 ((wrap .u32 ((wrap .u32 ((wrap .u32 (x2+(bZ .xor .u32 (bZ .xor .u32 y0 y1) y2)))+(bZ .xor .u32 (bZ .and .u32 x1 x3) (bZ .and .u32 (bZ .xor .u32 (IntKind.max .u32) x1) x4))))+x5))+x6))+(wrap .u32 ((bZ .xor .u32 (bZ .xor .u32 y3 y4) y5)+(bZ .xor .u32 (bZ .xor .u32 (bZ .and .u32 x0 x7) (bZ .and .u32 x0 x8)) (bZ .and .u32 x9 x10))))),x11,x12,x13,wrap .u32 (x14+(wrap .u32 ((wrap .u32 ((wrap .u32 ((wrap .u32 (x2+(bZ .xor .u32 (bZ .xor .u32 y0 y1) y2)))+(bZ .xor .u32 (bZ .and .u32 x1 x3) (bZ .and .u32 (bZ .xor .u32 (IntKind.max .u32) x1) x4))))+x5))+x6))),x15,x16,x17],rfl⟩:Ar 8),wrap .i64 (q1+1))) else Bk (q0,q1)
def C6 (m:Nat) (r0:Ar 8) (q0:Ar 8) (q1:Int):Option (Lp ((Ar 8)×Int) (Lp ((Ar 8)×Int) (bH))):=
 if decide (q1 < 8) then ((ix q0.1 q1).bind λx0=>(ix r0.1 q1).bind λx1=>(ix q0.1 q1).bind λ_=>Gk (TO q0 q1.toNat (wrap .u32 (x0+x1)),wrap .i64 (q1+1))) else Bk (q0,q1)
def C7 (m:Nat) (y6:(Ar 64)) (y0:(List Int)) (q0:Ar 8) (q1:Int):Option (Lp ((Ar 8)×Int) (bH)):=
 if decide (q1 < (y0.length:Int)) then (after (aR (λs=>C4 m y0 q1 s.1 s.2) m ((YC 64),0)) λ⟨r0,r1⟩=>after (aR (λs=>C5 m y6 r0 s.1 s.2) m (q0,0)) λ⟨r2,r3⟩=>after (aR (λs=>C6 m r2 s.1 s.2) m (q0,0)) λ⟨r4,r5⟩=>Gk (r4,wrap .i64 (q1+64))) else Bk (q0,q1)
def wY (m:Nat) (r0:Ar 8) (q0:bH) (q1:Int):Option (Lp (bH×Int) (bH)):=
 if decide (q1 < 32) then ((ix r0.1 (wrap .i64 (q1.tdiv 4))).bind λx0=>grd (decide (0<=(wrap .u64 (wrap .i64 (24 - (wrap .i64 (8*(q1.tmod 4)))))))) <| (ix q0.1 q1).bind λ_=>Gk (TO q0 q1.toNat (wrap .u8 (x0.fdiv (2 ^ (min ((wrap .u64 (wrap .i64 (24 - (wrap .i64 (8*(q1.tmod 4)))))):Int).toNat (IntKind.bits .u32))))),wrap .i64 (q1+1))) else Bk (q0,q1)
def YM (m:Nat) (p0:List Int):Option (bH):=
 (WX m).bind λy6=>(OR m p0).bind λy0=>after (aR (λs=>C7 m y6 y0 s.1 s.2) m ((⟨[1779033703,3144134277,1013904242,2773480762,1359893119,2600822924,528734635,1541459225],rfl⟩:Ar 8),0)) λ⟨r0,r1⟩=>after (aR (λs=>wY m r0 s.1 s.2) m (gY,0)) λ⟨r2,r3⟩=>some r2
theorem W87 {w:Nat} {p0:List Int} {o:bH} (h:aF) (m:YM w p0=some o):
 aM prog 87 [.sl none 1 (map f9 p0)] h (λr h'=>r= .agg (bC o)/\h'=h):=by
 refine fQ 208 [.cell 2 36] Tryz.func87 rfl rfl rfl rfl ?_
 unfold YM at m
 refine v (ve λu=>bG (bC gY) u MQ rfl rfl λk2 K3=>qk K3 rfl (v (vk aIF aCY m rfl rfl λy6 m=>ve λu=>bG (cQ (YC 64)) u M7 rfl rfl λk8 K9=>qk K9 rfl (ve λu=>aL 0 (cQ y6) u rfl rfl rfl rfl TV rfl rfl λK0=>qk K0 rfl (v (bU (CA [1779033703,3144134277,1013904242,2773480762,1359893119,2600822924,528734635,1541459225] rfl M9 rfl rfl rfl) (ve λu=>bG (dV (YC 8)) u TW rfl rfl λk13 K1=>qk K1 rfl (ve λu=>aL 0 (dV (⟨[1779033703,3144134277,1013904242,2773480762,1359893119,2600822924,528734635,1541459225],rfl⟩:Ar 8)) u rfl rfl rfl rfl M8 rfl rfl λK2=>qk K2 rfl (v (vk aIG aCZ m rfl rfl λy0 m=>v (jS m (σ:=(Ar 8)×Int) (λs=>[(some k13,.obj 183 (dV s.1)),(some k8,.obj 181 (cQ y6)),(some k2,.obj 36 (bC gY))]) (λs=>.c 2 (.ptr k2 0) (.c 3 (.ptr k8 0) (.c 4 (.ptr k13 0) (.c 5 (.sl none 1 (map f9 y0)) (.c 6 (nZ s.2) .nil))))) (lx (.k5 .nil)) ?_ ?_)))))))))))
 rintro _ ⟨q0,q1⟩ x m
 replace m:C7 w y6 y0 q0 q1=some x:=m
 unfold C7 at m
 refine v (cU nR rfl (v ?_))
 apply vi m<;>intro c0 m
 refine v (v (v (ve λu=>bG (cQ (YC 64)) u M7 rfl rfl λk1783 K4=>qk K4 rfl (v (jS m (σ:=(Ar 64)×Int) (λs=>[(some k1783,.obj 181 (cQ s.1)),(some k13,.obj 183 (dV q0)),(some k8,.obj 181 (cQ y6)),(some k2,.obj 36 (bC gY))]) (λs=>.c 2 (.ptr k2 0) (.c 3 (.ptr k8 0) (.c 4 (.ptr k13 0) (.c 5 (.sl none 1 (map f9 y0)) (.c 6 (nZ q1) (.c 7 (.ptr k1783 0) (.c 8 (nZ s.2) .nil))))))) (lx (.k7 .nil)) ?_ ?_)))))
 rintro _ ⟨q2,q3⟩ x m
 replace m:C4 w y0 q1 q2 q3=some x:=m
 unfold C4 at m
 refine v (v ?_)
 apply vi m<;>intro c1 m
 refine v (vs (fO m (σ:=(Ar 64)) (λs=>[(some k1783,.obj 181 (cQ s)),(some k13,.obj 183 (dV q0)),(some k8,.obj 181 (cQ y6)),(some k2,.obj 36 (bC gY))]) (λs=>.c 2 (.ptr k2 0) (.c 3 (.ptr k8 0) (.c 4 (.ptr k13 0) (.c 5 (.sl none 1 (map f9 y0)) (.c 6 (nZ q1) (.c 7 (.ptr k1783 0) (.c 8 (nZ q3) .nil))))))) (λx m=> ?_) ?_))
 refine v (v (v ?_))
 apply vi m<;>intro c2 m
 refine v (jS m (σ:=(Ar 64)×Int) (λs=>[(some k1783,.obj 181 (cQ s.1)),(some k13,.obj 183 (dV q0)),(some k8,.obj 181 (cQ y6)),(some k2,.obj 36 (bC gY))]) (λs=>.c 2 (.ptr k2 0) (.c 3 (.ptr k8 0) (.c 4 (.ptr k13 0) (.c 5 (.sl none 1 (map f9 y0)) (.c 6 (nZ q1) (.c 7 (.ptr k1783 0) (.c 8 (nZ q3) (.c 9 (nZ s.2) .nil)))))))) (lx (.k8 .nil)) ?_ ?_)
 rintro _ ⟨q4,q5⟩ x m
 replace m:C3 w y0 q1 q3 q4 q5=some x:=m
 unfold C3 at m
 refine v (v ?_)
 apply vi m<;>intro c3 m
 refine v (v (v (vz [(17,some k1783,.obj 181 (cQ q4))] mixed (λu=>⟨λ_=>aO 0 u rfl,trivial⟩) λu=>zI 0 rfl rfl (zI 1 rfl rfl ?_))))
 obtain⟨x0,X0,m⟩:=aD m
 refine zC 2 rfl (dS (y:=q4) X0 sW rfl rfl) (z5 3 rfl (λ_ _ hi hB=>eD (y:=q4) 0 X0 iN rfl (At.s (fV.get 0 hi rfl (hB 17 (by kernel_rfl)))) (eE _)) (zC 4 rfl (UT rfl rfl rfl (by decide)) (zC 5 rfl (fJ (.sl _ _ _) rfl) (zI 6 rfl rfl (zI 7 rfl rfl (zC 8 rfl (mU rfl rfl rfl trivial) (zC 9 rfl (mU rfl rfl rfl trivial) (zI 10 rfl rfl (zC 11 rfl (mU rfl rfl rfl trivial) ?_)))))))))
 obtain⟨x1,X1,m⟩:=aD m
 refine zC 12 rfl (lV X1 MT rfl rfl) (zC 13 rfl (l8 (.sc (.int .u8 x1)) EE rfl rfl) (zC 14 rfl (QV ti5 aAG rfl) (zC 15 rfl (mU rfl rfl rfl trivial) ?_)))
 obtain⟨_,X2,m⟩:=aD m
 refine zC 16 rfl (dS (y:=q4) X2 sW rfl rfl) (zE 17 rfl (wP (y:=q4) (v:=bZ .or .u32 (wrap .u32 (x0*2 ^ (min (8:Int).toNat (IntKind.bits .u32)))) (wrap .u32 x1)) 0 u X2 rfl rfl rfl M6 λK5=>⟨⟨λe=>absurd e (by decide),trivial⟩, ?_⟩))
 exact zX (qk (f:=GQ 57 _ _ _ _ _ _ _ _ _ _ _ _ _ _ _ _ _ _) K5 rfl (v (MI m)))
 exact v (bq8 m)
 rintro _ ⟨r0,r1⟩ m
 exact v (zV m)
 refine v (v (vq (by kernel_rfl) ?_))
 obtain⟨x2,X3,m⟩:=aD m
 refine bU (dS (y:=q2) X3 sW rfl rfl) (vn (λu=>eD (y:=q2) 0 X3 iN rfl (aW 0 u rfl) (eE _)) ?_)
 obtain⟨x3,X4,m⟩:=aD m
 refine bU (dS (y:=q2) X4 sW rfl rfl) (vn (λu=>eD (y:=q2) 0 X4 iN rfl (aW 0 u rfl) (eE _)) (v (vz [(29,some k1783,.obj 181 (cQ q2))] mixed (λu=>⟨λ_=>aO 0 u rfl,trivial⟩) λu=>zI 0 rfl rfl (zI 1 rfl rfl (zC 2 rfl (mU rfl rfl rfl trivial) ?_)))))
 obtain⟨x4,X5,m⟩:=aD m
 refine zC 3 rfl (dS (y:=q2) X5 sW rfl rfl) (z5 4 rfl (λ_ _ hi hB=>eD (y:=q2) 0 X5 iN rfl (At.s (fV.get 0 hi rfl (hB 29 (by kernel_rfl)))) (eE _)) (zI 5 rfl rfl (zC 6 rfl (mU rfl rfl rfl trivial) ?_)))
 obtain⟨x5,X6,m⟩:=aD m
 refine zC 7 rfl (dS (y:=q2) X6 sW rfl rfl) (z5 8 rfl (λ_ _ hi hB=>eD (y:=q2) 0 X6 iN rfl (At.s (fV.get 0 hi rfl (hB 29 (by kernel_rfl)))) (eE _)) (zC 9 rfl (mU rfl rfl rfl trivial) (zI 10 rfl rfl ?_)))
 obtain⟨y1,Y0,m⟩:=aD m
 refine zC 11 rfl (bV (AH _ Y0) rfl qW rfl) (zI 12 rfl rfl ?_)
 obtain⟨y2,Y1,m⟩:=aD m
 refine zC 13 rfl (bV (AH _ Y1) rfl qW rfl) (zC 14 rfl (mU rfl rfl rfl trivial) (zI 15 rfl rfl (zC 16 rfl (UT rfl rfl rfl (by decide)) (zC 17 rfl (mU rfl rfl rfl trivial) (zC 18 rfl (mU rfl rfl rfl trivial) (zI 19 rfl rfl ?_))))))
 obtain⟨y3,Y2,m⟩:=aD m
 refine zC 20 rfl (bV (AH _ Y2) rfl qW rfl) (zI 21 rfl rfl ?_)
 obtain⟨y4,Y3,m⟩:=aD m
 refine zC 22 rfl (bV (AH _ Y3) rfl qW rfl) (zC 23 rfl (mU rfl rfl rfl trivial) (zI 24 rfl rfl (zC 25 rfl (UT rfl rfl rfl (by decide)) (zC 26 rfl (mU rfl rfl rfl trivial) (zC 27 rfl (mU rfl rfl rfl trivial) ?_)))))
 obtain⟨_,X7,m⟩:=aD m
 refine zC 28 rfl (dS (y:=q2) X7 sW rfl rfl) (zE 29 rfl (wP (y:=q2) (v:=wrap .u32 ((wrap .u32 ((wrap .u32 (x4+x5))+(bZ .xor .u32 (bZ .xor .u32 y1 y2) (x2.fdiv (2 ^ (min (3:Int).toNat (IntKind.bits .u32)))))))+(bZ .xor .u32 (bZ .xor .u32 y3 y4) (x3.fdiv (2 ^ (min (10:Int).toNat (IntKind.bits .u32))))))) 0 u X7 rfl rfl rfl M6 λK6=>⟨⟨λe=>absurd e (by decide),trivial⟩, ?_⟩))
 exact zX (qk (f:=aE2 94 _ _ _ _ _ _ _ _ _ _ _ _ _ _ _ _ _ _ _ _ _ _ _ _ _ _ _ _ _ _) K6 rfl (zV m))
 rintro _ j0 m
 exact v (zV m)
 exact v (bq7 m)
 rintro _ ⟨r2,r3⟩ m
 refine v (vl 1 (.agg (dV q0)) aAI rfl rfl rfl (ve λu=>bG (dV (YC 8)) u TW rfl rfl λk2413 K7=>qk K7 rfl (ve λu=>aL 0 (dV q0) u rfl rfl rfl rfl M8 rfl rfl λK8=>qk K8 rfl (v (jS m (σ:=(Ar 8)×Int) (λs=>[(some k2413,.obj 183 (dV s.1)),(some k1783,.obj 181 (cQ r2)),(some k13,.obj 183 (dV q0)),(some k8,.obj 181 (cQ y6)),(some k2,.obj 36 (bC gY))]) (λs=>.c 2 (.ptr k2 0) (.c 3 (.ptr k8 0) (.c 4 (.ptr k13 0) (.c 5 (.sl none 1 (map f9 y0)) (.c 6 (nZ q1) (.c 7 (.ptr k1783 0) (.c 12 (.ptr k2413 0) (.c 13 (nZ s.2) .nil)))))))) (lx (.k8 .nil)) ?_ ?_)))))
 rintro _ ⟨q6,q7⟩ x m
 replace m:C5 w y6 r2 q6 q7=some x:=m
 unfold C5 at m
 refine v (v ?_)
 apply vi m<;>intro c4 m
 refine v (v (v (vq (by kernel_rfl) ?_)))
 obtain⟨x6,X8,m⟩:=aD m
 refine bU (dS (y:=q6) X8 kJ rfl rfl) (vn (λu=>eD (y:=q6) 0 X8 iN rfl (aW 0 u rfl) (eE _)) ?_)
 obtain⟨x7,X9,m⟩:=aD m
 refine bU (dS (y:=q6) X9 kJ rfl rfl) (vn (λu=>eD (y:=q6) 0 X9 iN rfl (aW 0 u rfl) (eE _)) (v (vq (by kernel_rfl) ?_)))
 obtain⟨x8,X10,m⟩:=aD m
 refine bU (dS (y:=q6) X10 kJ rfl rfl) (vn (λu=>eD (y:=q6) 0 X10 iN rfl (aW 0 u rfl) (eE _)) (vk AH qW m rfl rfl λy5 m=>vk AH qW m rfl rfl λy7 m=>vk AH qW m rfl rfl λy8 m=> ?_))
 obtain⟨x9,X11,m⟩:=aD m
 refine bU (dS (y:=q6) X11 kJ rfl rfl) (vn (λu=>eD (y:=q6) 0 X11 iN rfl (aW 0 u rfl) (eE _)) (bU (ZQ rfl rfl) ?_))
 obtain⟨x10,X12,m⟩:=aD m
 refine bU (dS (y:=q6) X12 kJ rfl rfl) (vn (λu=>eD (y:=q6) 0 X12 iN rfl (aW 0 u rfl) (eE _)) ?_)
 obtain⟨x11,X13,m⟩:=aD m
 refine bU (dS (y:=y6) X13 sW rfl rfl) (vn (λu=>eD (y:=y6) 0 X13 iN rfl (aW 3 u rfl) (eE _)) ?_)
 obtain⟨x12,X14,m⟩:=aD m
 refine bU (dS (y:=r2) X14 sW rfl rfl) (vn (λu=>eD (y:=r2) 0 X14 iN rfl (aW 1 u rfl) (eE _)) (v (vq (by kernel_rfl) (vk AH qW m rfl rfl λy9 m=>vk AH qW m rfl rfl λy10 m=>vk AH qW m rfl rfl λy11 m=> ?_))))
 obtain⟨x13,X15,m⟩:=aD m
 refine bU (dS (y:=q6) X15 kJ rfl rfl) (vn (λu=>eD (y:=q6) 0 X15 iN rfl (aW 0 u rfl) (eE _)) ?_)
 obtain⟨x14,X16,m⟩:=aD m
 refine bU (dS (y:=q6) X16 kJ rfl rfl) (vn (λu=>eD (y:=q6) 0 X16 iN rfl (aW 0 u rfl) (eE _)) ?_)
 obtain⟨x15,X17,m⟩:=aD m
 refine bU (dS (y:=q6) X17 kJ rfl rfl) (vn (λu=>eD (y:=q6) 0 X17 iN rfl (aW 0 u rfl) (eE _)) ?_)
 obtain⟨x16,X18,m⟩:=aD m
 refine bU (dS (y:=q6) X18 kJ rfl rfl) (vn (λu=>eD (y:=q6) 0 X18 iN rfl (aW 0 u rfl) (eE _)) (v ?_))
 obtain⟨x17,X19,m⟩:=aD m
 refine bU (dS (y:=q6) X19 kJ rfl rfl) (vn (λu=>eD (y:=q6) 0 X19 iN rfl (aW 0 u rfl) (eE _)) ?_)
 obtain⟨x18,X20,m⟩:=aD m
 refine bU (dS (y:=q6) X20 kJ rfl rfl) (vn (λu=>eD (y:=q6) 0 X20 iN rfl (aW 0 u rfl) (eE _)) ?_)
 obtain⟨x19,X21,m⟩:=aD m
 refine bU (dS (y:=q6) X21 kJ rfl rfl) (vn (λu=>eD (y:=q6) 0 X21 iN rfl (aW 0 u rfl) (eE _)) ?_)
 obtain⟨x20,X22,m⟩:=aD m
 refine bU (dS (y:=q6) X22 kJ rfl rfl) (vn (λu=>eD (y:=q6) 0 X22 iN rfl (aW 0 u rfl) (eE _)) ?_)
 obtain⟨x21,X23,m⟩:=aD m
 refine bU (dS (y:=q6) X23 kJ rfl rfl) (vn (λu=>eD (y:=q6) 0 X23 iN rfl (aW 0 u rfl) (eE _)) ?_)
 obtain⟨x22,X24,m⟩:=aD m
 refine bU (dS (y:=q6) X24 kJ rfl rfl) (vn (λu=>eD (y:=q6) 0 X24 iN rfl (aW 0 u rfl) (eE _)) ?_)
 obtain⟨x23,X25,m⟩:=aD m
 refine bU (dS (y:=q6) X25 kJ rfl rfl) (vn (λu=>eD (y:=q6) 0 X25 iN rfl (aW 0 u rfl) (eE _)) (bU (CA [wrap .u32 ((wrap .u32 ((wrap .u32 ((wrap .u32 ((wrap .u32 (x8+(bZ .xor .u32 (bZ .xor .u32 y5 y7) y8)))+(bZ .xor .u32 (bZ .and .u32 x7 x9) (bZ .and .u32 (bZ .xor .u32 (IntKind.max .u32) x7) x10))))+x11))+x12))+(wrap .u32 ((bZ .xor .u32 (bZ .xor .u32 y9 y10) y11)+(bZ .xor .u32 (bZ .xor .u32 (bZ .and .u32 x6 x13) (bZ .and .u32 x6 x14)) (bZ .and .u32 x15 x16))))),x17,x18,x19,wrap .u32 (x20+(wrap .u32 ((wrap .u32 ((wrap .u32 ((wrap .u32 (x8+(bZ .xor .u32 (bZ .xor .u32 y5 y7) y8)))+(bZ .xor .u32 (bZ .and .u32 x7 x9) (bZ .and .u32 (bZ .xor .u32 (IntKind.max .u32) x7) x10))))+x11))+x12))),x21,x22,x23] rfl M9 rfl rfl rfl) (ve λu=>aL 0 (dV (⟨[wrap .u32 ((wrap .u32 ((wrap .u32 ((wrap .u32 ((wrap .u32 (x8+(bZ .xor .u32 (bZ .xor .u32 y5 y7) y8)))+(bZ .xor .u32 (bZ .and .u32 x7 x9) (bZ .and .u32 (bZ .xor .u32 (IntKind.max .u32) x7) x10))))+x11))+x12))+(wrap .u32 ((bZ .xor .u32 (bZ .xor .u32 y9 y10) y11)+(bZ .xor .u32 (bZ .xor .u32 (bZ .and .u32 x6 x13) (bZ .and .u32 x6 x14)) (bZ .and .u32 x15 x16))))),x17,x18,x19,wrap .u32 (x20+(wrap .u32 ((wrap .u32 ((wrap .u32 ((wrap .u32 (x8+(bZ .xor .u32 (bZ .xor .u32 y5 y7) y8)))+(bZ .xor .u32 (bZ .and .u32 x7 x9) (bZ .and .u32 (bZ .xor .u32 (IntKind.max .u32) x7) x10))))+x11))+x12))),x21,x22,x23],rfl⟩:Ar 8)) u rfl rfl rfl rfl M8 rfl rfl λK10=>qk K10 rfl ?_)))
 exact v (MI m)
 exact v (bq8 m)
 rintro _ ⟨r4,r5⟩ m
 refine v (jS m (σ:=(Ar 8)×Int) (λs=>[(some k2413,.obj 183 (dV r4)),(some k1783,.obj 181 (cQ r2)),(some k13,.obj 183 (dV s.1)),(some k8,.obj 181 (cQ y6)),(some k2,.obj 36 (bC gY))]) (λs=>.c 2 (.ptr k2 0) (.c 3 (.ptr k8 0) (.c 4 (.ptr k13 0) (.c 5 (.sl none 1 (map f9 y0)) (.c 6 (nZ q1) (.c 12 (.ptr k2413 0) (.c 18 (nZ s.2) .nil))))))) (lx (.k7 .nil)) ?_ ?_)
 rintro _ ⟨q8,q9⟩ x m
 replace m:C6 w r4 q8 q9=some x:=m
 unfold C6 at m
 refine v (v ?_)
 apply vi m<;>intro c5 m
 refine v (v (v (vz [(8,some k13,.obj 183 (dV q8)),(1000000,some k2413,.obj 183 (dV r4))] mixed (λu=>⟨λ_=>aO 2 u rfl,λ_=>aO 0 u rfl,trivial⟩) λu=>zI 0 rfl rfl ?_)))
 obtain⟨x24,X26,m⟩:=aD m
 refine zC 1 rfl (dS (y:=q8) X26 kJ rfl rfl) (z5 2 rfl (λ_ _ hi hB=>eD (y:=q8) 0 X26 iN rfl (At.s (fV.get 0 hi rfl (hB 8 (by kernel_rfl)))) (eE _)) (zI 3 rfl rfl ?_))
 obtain⟨x25,X27,m⟩:=aD m
 refine zC 4 rfl (dS (y:=r4) X27 kJ rfl rfl) (z5 5 rfl (λ_ _ hi hB=>eD (y:=r4) 0 X27 iN rfl (At.s (fV.get 1 hi rfl (hB 1000000 (by kernel_rfl)))) (eE _)) (zC 6 rfl (mU rfl rfl rfl trivial) ?_))
 obtain⟨_,X28,m⟩:=aD m
 refine zC 7 rfl (dS (y:=q8) X28 kJ rfl rfl) (zE 8 rfl (wP (y:=q8) (v:=wrap .u32 (x24+x25)) 2 u X28 rfl rfl rfl M6 λK12=>⟨⟨λe=>absurd e (by decide),λ_=>aO 0 K12 rfl,trivial⟩, ?_⟩))
 exact zX (qk (f:=Q8 189 _ _ _ _ _ _ _ _ _) K12 rfl (v (zV m)))
 exact v (bq7 m)
 rintro _ ⟨r6,r7⟩ m
 exact v (zU m (mK [2,3,4] rfl rfl (.k5 .nil)))
 exact v (YE m)
 rintro _ ⟨r8,r9⟩ m
 refine v (ve λu=>bG (bC gY) u MQ rfl rfl λk2657 K13=>qk K13 rfl (v (jS m (σ:=bH×Int) (λs=>[(some k2657,.obj 36 (bC s.1)),(some k13,.obj 183 (dV r8)),(some k8,.obj 181 (cQ y6)),(some k2,.obj 36 (bC gY))]) (λs=>.c 2 (.ptr k2 0) (.c 4 (.ptr k13 0) (.c 19 (.ptr k2657 0) (.c 20 (nZ s.2) .nil)))) (lx (.k4 .nil)) ?_ ?_)))
 rintro _ ⟨q10,q11⟩ x m
 replace m:wY w r8 q10 q11=some x:=m
 unfold wY at m
 refine v (v ?_)
 apply vi m<;>intro c6 m
 refine v (v (v ?_))
 obtain⟨x26,X29,m⟩:=aD m
 refine bU (dS (y:=r8) X29 kJ rfl rfl) (vn (λu=>eD (y:=r8) 0 X29 iN rfl (aW 1 u rfl) (eE _)) (YD m λ_ m=> ?_))
 obtain⟨_,X30,m⟩:=aD m
 exact bU (mA X30 xT rfl rfl) (ve λu=>wP (y:=q10) (v:=wrap .u8 (x26.fdiv (2 ^ (min ((wrap .u64 (wrap .i64 (24 - (wrap .i64 (8*(q11.tmod 4)))))):Int).toNat (IntKind.bits .u32))))) 0 u X30 rfl rfl rfl sz5 λK15=>qk K15 rfl (v (fZ m)))
 exact v (vB m)
 rintro _ ⟨r10,r11⟩ m
 refine v (vl 0 (.agg (bC r10)) fA rfl rfl rfl (ve λu=>aL 3 (bC r10) u rfl rfl rfl rfl MP rfl rfl λK17=>qk K17 rfl (v ?_)))
 obtain rfl:=eR m
 exact vr λu=>dW.of1 (.inl rfl) (sJ (.agg (bC r10)) fA rfl (aW 3 u rfl) rfl) (aU (nil_sublist _) u).1 (bD.refl _ _) ⟨rfl,rfl⟩
theorem aC0:aP prog 87=true:=by kernel_rfl
def wZ (m:Nat) (p0:List dJ) (q0:Int):Option (Lp (Int) (Int)):=
 if decide (q0 < (p0.length:Int)) then (after ((ix p0 q0).bind λx0=>(CM m x0.Path).bind λy0=>if (!y0)then Bk true else if decide (0 < q0) then ((ix p0 q0).bind λx1=>(ix p0 (wrap .i64 (q0 - 1))).bind λx2=>Bk (Op.bytesLess x1.Path.toList x2.Path.toList || x1.Path.toList==x2.Path.toList)) else Bk false:Option (Lp (Bool) (Lp (Int) (Int)))) λj0=>if j0 then Rk 1 else Gk (wrap .i64 (q0+1))) else Bk q0
def OS (m:Nat) (p0:List dJ):Option (Int):=
 (KO m p0).bind λy4=>if y4 then (some 2) else after (aR (λs=>wZ m p0 s) m 0) λr0=>some 0
theorem aIH {u:Nat} {p0:List dJ} {o:Int} (h:aF) (m:OS u p0=some o):
 aM prog 142 [.sl none 2 (map eL p0)] h (λr h'=>r=nZ o/\h'=h):=by
 refine fQ 37 [.tmp 2] Tryz.func142 rfl rfl rfl rfl ?_
 unfold OS at m
 refine v (v (vk aCW UD m rfl rfl λ_ m=>v ?_))
 apply vi m<;>intro c6 m
 refine v (v ?_)
 obtain rfl:=eR m
 exact eH rfl
 refine v (v (jS m (σ:=Int) (λs=>[]) (λs=>.c 0 (.sl none 2 (map eL p0)) (.c 3 (nZ s) .nil)) (lx (.k2 .nil)) ?_ ?_))
 rintro _ q0 x m
 replace m:wZ u p0 q0=some x:=m
 unfold wZ at m
 refine v (cU z8 rfl (v ?_))
 apply vi m<;>intro c0 m
 refine v (v (vs (fO m (σ:=Bool) (λs=>[]) (λs=>.c 0 (.sl none 2 (map eL p0)) (.c 3 (nZ q0) (.c 36 (.sc (.bool s)) .nil))) (λx m=> ?_) ?_)))
 refine v (vq (by kernel_rfl) (vx m pI rfl rfl λ_ _ m=>vk NH EO m rfl rfl λ_ m=> ?_))
 apply vi m<;>intro b0 m
 rw[b0]
 exact hH m
 rw[b0]
 apply vi m<;>intro b1 m
 rw[b1]
 exact vx m pI rfl rfl λ_ _ m=>vx m pI rfl rfl λ_ _ m=>bU (GC rfl rfl rfl trivial) (hH m)
 rw[b1]
 exact hH m
 rintro _ j0 m
 refine v ?_
 apply vi m<;>intro c1 m
 refine v (v (fY m λm=> ?_))
 obtain rfl:=eR m
 exact eH rfl
 exact v (v (wQ m))
 exact v (LH m)
 rintro _ r0 m
 refine v (v ?_)
 obtain rfl:=eR m
 exact eH rfl
theorem aC1:aP prog 142=true:=by kernel_rfl
def w5 (m:Nat) (p0:List Int) (q0:Int) (q1:Int):Option (Lp (Int×Int) (Int)):=
 if decide (q1 < (p0.length:Int)) then ((ix p0 q1).bind λx0=>after (if decide (8<=(wrap .i64 (q1+1))) then (if (((wrap .u32 ((wrap .u32 (q0*2))+(wrap .u32 ((wrap .u32 ((wrap .u32 x0)+1))*2654435761)))).fdiv (2 ^ (min (28:Int).toNat (IntKind.bits .u32))))==0)then Bk true else Bk ((wrap .i64 (q1+1))==64)) else Bk ((wrap .i64 (q1+1))==64):Option (Lp (Bool) (Lp (Int×Int) (Int)))) λj0=>if j0 then (Rk (wrap .i64 (q1+1))) else Gk (wrap .u32 ((wrap .u32 (q0*2))+(wrap .u32 ((wrap .u32 ((wrap .u32 x0)+1))*2654435761))),wrap .i64 (q1+1))) else Bk (q0,q1)
def OT (m:Nat) (p0:List Int):Option (Int):=
 after (aR (λs=>w5 m p0 s.1 s.2) m (0,0)) λ⟨r0,r1⟩=>some (p0.length:Int)
theorem aII {u:Nat} {p0:List Int} {o:Int} (h:aF) (m:OT u p0=some o):
 aM prog 184 [.sl none 1 (map f9 p0)] h (λr h'=>r=nZ o/\h'=h):=by
 refine fQ 38 [.tmp 2] Tryz.func184 rfl rfl rfl rfl ?_
 unfold OT at m
 refine v (v (v (jS m (σ:=Int×Int) (λs=>[]) (λs=>.c 0 (.sl none 1 (map f9 p0)) (.c 3 (.sc (.int .u32 s.1)) (.c 4 (nZ s.2) .nil))) (lx (.k3 .nil)) ?_ ?_)))
 rintro _ ⟨q0,q1⟩ x m
 replace m:w5 u p0 q0 q1=some x:=m
 unfold w5 at m
 refine v (cU nR rfl (v ?_))
 apply vi m<;>intro c0 m
 refine v (v (v (vx m MT rfl rfl λx0 _ m=>vs (fO m (σ:=Bool) (λs=>[]) (λs=>.c 0 (.sl none 1 (map f9 p0)) (.c 3 (.sc (.int .u32 (wrap .u32 ((wrap .u32 (q0*2))+(wrap .u32 ((wrap .u32 ((wrap .u32 x0)+1))*2654435761)))))) (.c 4 (nZ q1) (.c 33 (.sc (.bool s)) .nil)))) (λx m=> ?_) ?_))))
 refine v ?_
 apply vi m<;>intro b0 m
 rw[b0]
 apply vi m<;>intro b1 m
 rw[b1]
 exact fZ m
 rw[b1]
 exact fZ m
 rw[b0]
 exact fZ m
 rintro _ j0 m
 refine v ?_
 apply vi m<;>intro c1 m
 refine v (v (fY m λm=> ?_))
 cases m
 exact eH rfl
 exact v (v (hH m))
 exact v (GT m)
 rintro _ ⟨r0,r1⟩ m
 refine v (cU nR rfl (v ?_))
 cases m
 exact eH rfl
theorem aC2:aP prog 184=true:=by kernel_rfl
def w6 (m:Nat) (q0:List (List Int)) (q1:List Int):Option (Lp ((List (List Int))×(List Int)) ((List (List Int)))):=
 if decide (0 < (q1.length:Int)) then ((OT m q1).bind λy0=>(slc q1 0 y0).bind λx0=>(vO m x0).bind λy1=>(app q0 ([y1]:List (List Int))).bind λz0=>(slc q1 y0 (q1).length).bind λx1=>Gk (z0,x1)) else Bk (q0,q1)
def OU (m:Nat) (p0:List Int):Option ((List (List Int))):=
 after (aR (λs=>w6 m s.1 s.2) m ([],p0)) λ⟨r0,r1⟩=>some r0
theorem aIJ {w:Nat} {p0:List Int} {o:(List (List Int))} (h:aF) (m:OU w p0=some o):
 aM prog 143 [.sl none 1 (map f9 p0)] h (λr h'=>r= .sl none 1 (map iF o)/\h'=h):=by
 refine fQ 21 [.tmp 2] Tryz.func143 rfl rfl rfl rfl ?_
 unfold OU at m
 refine v (v (vs (pM (z6 (.tok 41 1 (([]:List (List Int)).length*1)) 3 (ow none 1 (map iF [])) (gD _ _)) (nU m (σ:=(List (List Int))×(List Int)) (τ:=Option bT) (λg s=>[(g,.tok 41 1 ((s.1:List (List Int)).length*1))]) (λg s=>(g=none->s.1= [])) (λg s=>.c 0 (.sl none 1 (map f9 s.2)) (.c 3 (ow g 1 (map iF s.1)) .nil)) none (λ_=>rfl) (lx (.k2 .nil)) ?_ ?_))))
 rintro tg0 ⟨q0,q1⟩ x t0 m
 replace m:w6 w q0 q1=some x:=m
 unfold w6 at m
 refine v (cU nR rfl (v ?_))
 apply vi m<;>intro c0 m
 refine v (v (v (vk aII aC2 m rfl rfl λ_ m=>v ?_)))
 obtain⟨_,X0,m⟩:=aD m
 refine bU (n3 X0 MT rfl rfl rfl rfl) (vk NR EV m rfl rfl λy0 m=>bU (dX (map iF ([y0]:List (List Int))) A4 rfl rfl rfl rfl) ?_)
 obtain⟨z0,Z0,m⟩:=aD m
 refine ve λu=>fC (c:=iF) 0 Z0 A4 rfl rfl rfl t0 u rfl λtg1 t1 K0=>qk K0 rfl (v ?_)
 obtain⟨_,X1,m⟩:=aD m
 exact bU (n3 X1 MT rfl rfl rfl rfl) (eG m tg1 t1 (lx (.k2 .nil)))
 exact v (lR m tg0 t0 (lx (.k2 .nil)))
 rintro tg2 ⟨r0,r1⟩ t2 m
 refine v (v ?_)
 obtain rfl:=eR m
 exact vr λu=>dW.of1 (.inl rfl) (gQ _ _ (ow _ _ _) rfl) (aU (nil_sublist _) u).1 ((dU _ 0 t2 u rfl)) ⟨rfl,rfl⟩
theorem aC3:aP prog 143=true:=by kernel_rfl
def C8 (m:Nat) (y0:(List (List Int))) (q0:List bH) (q1:List (List Int)) (q2:List bH) (q3:Int):Option (Lp ((List bH)×(List (List Int))×(List bH)×Int) (Lp ((List cT)×(List (List Int))×(List bH)×Int) (bE×(List (List Int))×Int))):=
 if decide (q3 < (y0.length:Int)) then ((ix y0 q3).bind λx0=>(YM m x0).bind λy1=>(app q0 ([y1]:List bH)).bind λz0=>(EP m q2 y1).bind λy2=>after (if y2.2.2 then ((slc q1 0 y2.2.1).bind λx1=>(ix y0 q3).bind λx2=>(app ([]:List (List Int)) x1).bind λz1=>(app z1 ([x2]:List (List Int))).bind λz2=>(slc q1 y2.2.1 (q1.length:Int)).bind λx3=>(app z2 x3).bind λz3=>Bk z3) else Bk q1:Option (Lp ((List (List Int))) (Lp ((List bH)×(List (List Int))×(List bH)×Int) (Lp ((List cT)×(List (List Int))×(List bH)×Int) (bE×(List (List Int))×Int))))) λj0=>Gk (z0,j0,y2.1,wrap .i64 (q3+1))) else Bk (q0,q1,q2,q3)
def C9 (m:Nat) (p1:List dJ) (q0:List cT) (q1:List (List Int)) (q2:List bH) (q3:Int):Option (Lp ((List cT)×(List (List Int))×(List bH)×Int) (bE×(List (List Int))×Int)):=
 if decide (q3 < (p1.length:Int)) then ((ix p1 q3).bind λx0=>(ix p1 q3).bind λx1=>(ix p1 q3).bind λx2=>(OU m x2.Data).bind λy0=>after (aR (λs=>C8 m y0 s.1 s.2.1 s.2.2.1 s.2.2.2) m ([],q1,q2,0)) λ⟨r0,r1,r2,r3⟩=>(app q0 ([({ Path:=x0.Path,Size:=(x1.Data.length:Int),Ids:=r0}:cT)]:List cT)).bind λz0=>Gk (z0,r1,r2,wrap .i64 (q3+1))) else Bk (q0,q1,q2,q3)
def M86 (m:Nat) (p0:ByteArray) (p1:List dJ):Option (bE×(List (List Int))×Int):=
 (CM m p0).bind λy7=>if (!y7)then (some (({ Name:=empty,Parts:=[]}:bE),[],1)) else (OS m p1).bind λy0=>if (y0 !=0)then (some (({ Name:=empty,Parts:=[]}:bE),[],y0)) else after (aR (λs=>C9 m p1 s.1 s.2.1 s.2.2.1 s.2.2.2) m ([],[],[],0)) λ⟨r0,r1,r2,r3⟩=>some (({ Name:=p0,Parts:=r0}:bE),r1,0)
theorem W86 {w:Nat} {p0:ByteArray} {p1:List dJ} {o:bE×(List (List Int))×Int} (h:aF) (m:M86 w p0 p1=some o):
 aM prog 86 [.sc (.string p0),.sl none 2 (map eL p1)] h (λr h'=>r= .tup [.agg (bI o.1),.sl none 1 (map iF o.2.1),nZ o.2.2]/\h'=h):=by
 refine fQ 106 [.cell 4 58,.tmp 5,.tmp 6] Tryz.func86 rfl rfl rfl rfl ?_
 unfold M86 at m
 refine v (ve λu=>bG ([.sc (.string empty),sZ]) u MW rfl rfl λk2 K3=>qk K3 rfl (v (vk NH EO m rfl rfl λ_ m=>v ?_)))
 apply vi m<;>intro c9 m
 refine v (bU (eJ ([.sc (.string empty),sZ]) VE rfl) (ve λu=>aL 0 ([.sc (.string empty),sZ]) u rfl rfl rfl rfl z7 rfl rfl λK0=>qk K0 rfl (v ?_)))
 cases m
 exact vr λu=>dW.of3 (.inl rfl) (sJ (.agg ([.sc (.string empty),sZ])) pW rfl (aW 0 u rfl) rfl) (gQ _ _ (.sc (.slice _ _ _)) rfl) (gQ _ _ (.sc (.int _ _)) rfl) (aU (nil_sublist _) u).1 (bD.agg (.cons (bD.refl _ _) (.cons (a9 _) .nil))) (a9 _) (bD.refl _ _) ⟨rfl,rfl⟩
 refine v (v (vk aIH aC1 m rfl rfl λ_ m=>v (v ?_)))
 apply vi m<;>intro c0 m
 refine v (bU (eJ ([.sc (.string empty),sZ]) VE rfl) (ve λu=>aL 0 ([.sc (.string empty),sZ]) u rfl rfl rfl rfl z7 rfl rfl λK1=>qk K1 rfl (v ?_)))
 cases m
 exact vr λu=>dW.of3 (.inl rfl) (sJ (.agg ([.sc (.string empty),sZ])) pW rfl (aW 0 u rfl) rfl) (gQ _ _ (.sc (.slice _ _ _)) rfl) (gQ _ _ (.sc (.int _ _)) rfl) (aU (nil_sublist _) u).1 (bD.agg (.cons (bD.refl _ _) (.cons (a9 _) .nil))) (a9 _) (bD.refl _ _) ⟨rfl,rfl⟩
 refine v (v (bU (eJ ([.sc (.string p0),sZ]) VE rfl) (ve λu=>bG ([.sc (.string empty),sZ]) u MW rfl rfl λk21 K2=>qk K2 rfl (ve λu=>aL 0 ([.sc (.string p0),sZ]) u rfl rfl rfl rfl z7 rfl rfl λK4=>qk K4 rfl (v (v (v (pM (z6 (.tok 41 1 (([]:List (List Int)).length*1)) 10 (ow none 1 (map iF [])) (gD _ _)) (pM (ZV (.tok 70 3 (([]:List cT).length*3)) 2 ([.sc (.string p0),ow none 3 (map bX [])]) rfl (.cons (bD.refl _ _) (.cons (gD (c:=bX) _ 3) .nil))) (nU m (σ:=(List cT)×(List (List Int))×(List bH)×Int) (τ:=Option bT×Option bT) (λg s=>[(g.1,.tok 70 3 ((s.1:List cT).length*3)),(g.2,.tok 41 1 ((s.2.1:List (List Int)).length*1)),(some k21,.obj 58 ([.sc (.string p0),ow g.1 3 (map bX s.1)])),(some k2,.obj 58 ([.sc (.string empty),sZ]))]) (λg s=>(g.1=none->s.1= [])/\(g.2=none->s.2.1= [])) (λg s=>.c 1 (.sl none 2 (map eL p1)) (.c 4 (.ptr k2 0) (.c 8 (.ptr k21 0) (.c 9 (.sl none 32 (map bC s.2.2.1)) (.c 10 (ow g.2 1 (map iF s.2.1)) (.c 11 (nZ s.2.2.2) .nil)))))) (none,none) (⟨(λ_=>rfl),(λ_=>rfl)⟩) (lx (.k3 (.cons (a9 _) (.k2 .nil)))) ?_ ?_))))))))))
 rintro⟨tg0,tg1⟩ ⟨q0,q1,q2,q3⟩ x ⟨t0,t1⟩ m
 replace m:C9 w p1 q0 q1 q2 q3=some x:=m
 unfold C9 at m
 refine v (cU z8 rfl (v ?_))
 apply vi m<;>intro c1 m
 refine v (v (v (vz [] mixed (λu=>trivial) λu=>zC 0 rfl (fJ (.sl _ _ _) rfl) (zI 1 rfl rfl ?_))))
 obtain⟨x0,X0,m⟩:=aD m
 refine zC 2 rfl (lV X0 pI rfl rfl) (zC 3 rfl (m9 M1 rfl rfl) (zC 4 rfl (l8 (.sc (.string x0.Path)) IC rfl rfl) (zC 5 rfl (fJ (.sl _ _ _) rfl) (zI 6 rfl rfl ?_))))
 obtain⟨x1,X1,m⟩:=aD m
 refine zC 7 rfl (lV X1 pI rfl rfl) (zC 8 rfl (m9 M2 rfl rfl) (zC 9 rfl (l8 (.sl none 1 (map f9 x1.Data)) n6 rfl rfl) (zC 10 rfl (xN nR rfl) (zC 11 rfl (eJ ([.sc (.string x0.Path),nZ (x1.Data.length:Int),sZ]) aFJ rfl) (zE 12 rfl (bG (YU) u J6 rfl rfl λk2233 K5=>⟨trivial, ?_⟩))))))
 refine zE 13 rfl (aL 0 ([.sc (.string x0.Path),nZ (x1.Data.length:Int),sZ]) K5 rfl rfl rfl rfl MX rfl rfl λK6=>⟨trivial, ?_⟩)
 refine zX (qk (f:=.c 12 _ (MH 49 _ _ _ _ _ _ _ _ _ _ _ _ _)) K6 rfl (v (vx m pI rfl rfl λ_ _ m=>vk aIJ aC3 m rfl rfl λy0 m=>v (pM (ZV (.tok 36 32 (([]:List bH).length*32)) 1 ([.sc (.string x0.Path),nZ (x1.Data.length:Int),ow none 32 (map bC [])]) rfl (.k2 (.cons (gD (c:=bC) _ 32) .nil))) (nU m (σ:=(List bH)×(List (List Int))×(List bH)×Int) (τ:=Option bT×Option bT) (λg s=>[(g.1,.tok 36 32 ((s.1:List bH).length*32)),(some k2233,.obj 70 ([.sc (.string x0.Path),nZ (x1.Data.length:Int),ow g.1 32 (map bC s.1)])),(tg0,.tok 70 3 ((q0:List cT).length*3)),(g.2,.tok 41 1 ((s.2.1:List (List Int)).length*1)),(some k21,.obj 58 ([.sc (.string p0),ow tg0 3 (map bX q0)])),(some k2,.obj 58 ([.sc (.string empty),sZ]))]) (λg s=>(g.1=none->s.1= [])/\(g.2=none->s.2.1= [])) (λg s=>.c 1 (.sl none 2 (map eL p1)) (.c 4 (.ptr k2 0) (.c 8 (.ptr k21 0) (.c 9 (.sl none 32 (map bC s.2.2.1)) (.c 10 (ow g.2 1 (map iF s.2.1)) (.c 11 (nZ q3) (.c 12 (.ptr k2233 0) (.c 13 (.sl none 1 (map iF y0)) (.c 14 (nZ s.2.2.2) .nil))))))))) (none,tg1) (⟨(λ_=>rfl),t1⟩) (lx (.k9 .nil)) ?_ ?_)))))
 rintro⟨tg2,tg3⟩ ⟨q4,q5,q6,q7⟩ x ⟨t2,t3⟩ m
 replace m:C8 w y0 q4 q5 q6 q7=some x:=m
 unfold C8 at m
 refine v (cU TS rfl (v ?_))
 apply vi m<;>intro c2 m
 refine v (v (v (vx m A3 rfl rfl λ_ _ m=>vk W87 aC0 m rfl rfl λy1 m=>ve λu=>bG (bC gY) u MQ rfl rfl λk2604 K7=>qk K7 rfl (ve λu=>aL 0 (bC y1) u rfl rfl rfl rfl MP rfl rfl λK8=>qk K8 rfl (v (vl 2 (ow tg2 32 (map bC q4)) yC rfl rfl rfl (vl 0 (.agg (bC y1)) fA rfl rfl rfl (bU (dX (map bC ([y1]:List bH)) CI rfl rfl rfl rfl) ?_))))))))
 obtain⟨z0,Z0,m⟩:=aD m
 refine ve λu=>fC (c:=bC) 1 Z0 CI rfl rfl rfl t2 u rfl λtg4 t4 K9=>qk K9 rfl (ve λu=>aL 2 ([.sc (.string x0.Path),nZ (x1.Data.length:Int),ow tg4 32 (map bC z0)]) u rfl rfl (jN rfl) (pQ _ _ _) VO rfl rfl λK10=>qk K10 rfl (v (vl 0 (.agg (bC y1)) fA rfl rfl rfl (vk aA2 T2 m rfl rfl λy2 m=>v (oI m (σ:=(List (List Int))) (τ:=Option bT) (λg s=>[(some k2604,.obj 36 (bC y1)),(tg4,.tok 36 32 ((z0:List bH).length*32)),(some k2233,.obj 70 ([.sc (.string x0.Path),nZ (x1.Data.length:Int),ow tg4 32 (map bC z0)])),(tg0,.tok 70 3 ((q0:List cT).length*3)),(g,.tok 41 1 ((s:List (List Int)).length*1)),(some k21,.obj 58 ([.sc (.string p0),ow tg0 3 (map bX q0)])),(some k2,.obj 58 ([.sc (.string empty),sZ]))]) (λg s=>(g=none->s= [])) (λg s=>.c 1 (.sl none 2 (map eL p1)) (.c 4 (.ptr k2 0) (.c 8 (.ptr k21 0) (.c 10 (ow g 1 (map iF s)) (.c 11 (nZ q3) (.c 12 (.ptr k2233 0) (.c 13 (.sl none 1 (map iF y0)) (.c 14 (nZ q7) (.c 16 (.sl none 32 (map bC y2.1)) .nil))))))))) (λx m=> ?_) ?_)))))
 refine v ?_
 apply vi m<;>intro c3 m
 refine v (v (vz [] mixed (λu=>trivial) λu=>zC 0 rfl (fJ (.sc (.slice _ _ _)) rfl) (zC 1 rfl (fJ (ow _ _ _) rfl) (zI 2 rfl rfl ?_))))
 obtain⟨_,X2,m⟩:=aD m
 refine zC 3 rfl (B9 X2 A3 rfl t3 rfl rfl rfl) (zC 5 rfl (fJ (.sl _ _ _) rfl) (zI 6 rfl rfl ?_))
 obtain⟨x2,X3,m⟩:=aD m
 refine zC 7 rfl (lV X3 A3 rfl rfl) (zC 8 rfl (l8 (.sl none 1 (map f9 x2)) n6 rfl rfl) (zC 9 rfl (dX (map iF ([x2]:List (List Int))) A4 rfl rfl rfl rfl) ?_))
 obtain⟨z1,Z1,m⟩:=aD m
 refine zE 4 rfl (oM (c:=iF) Z1 A4 rfl rfl u nofun (qJ (sN X2 t3)) λtg5 t5 K12=>⟨trivial, ?_⟩)
 obtain⟨z2,Z2,m⟩:=aD m
 refine zE 10 rfl (fC (c:=iF) 0 Z2 A4 rfl rfl rfl t5 K12 rfl λtg6 t6 K13=>⟨trivial, ?_⟩)
 refine zC 11 rfl (iC (ow _ _ _) rfl) (zX (qk (f:=.c 19 _ (.c 91 _ (.c 85 _ (fq5 90 _ _ _ _ _ (TP 84 _ _ _ _ _))))) K13 rfl (v ?_)))
 obtain⟨_,X4,m⟩:=aD m
 refine bU (B9 X4 A3 rfl t3 rfl rfl rfl) ?_
 obtain⟨z3,Z3,m⟩:=aD m
 exact ve λu=>fC (c:=iF) 0 Z3 A4 rfl rfl rfl t6 u (qJ (sN X4 t3)) λtg7 t7 K14=>qk K14 rfl (eG m tg7 t7 (mK [1,2,3,4,0,6,7] rfl rfl (.k9 .nil)))
 exact v (eG m tg3 t3 (lx (.k9 .nil)))
 rintro tg8 j0 t8 m
 exact v (v (eG m (tg4,tg8) ⟨t4,t8⟩ (mK [1,2,3,4,5,6] rfl rfl (.k9 .nil))))
 exact v (lR m (tg2,tg3) ⟨t2,t3⟩ (lx (.k9 .nil)))
 rintro⟨tg9,tg10⟩ ⟨r0,r1,r2,r3⟩ ⟨t9,t10⟩ m
 refine v (vl 4 (ow tg0 3 (map bX q0)) oO rfl rfl rfl (vl 1 (.agg ([.sc (.string x0.Path),nZ (x1.Data.length:Int),ow tg9 32 (map bC r0)])) EL rfl rfl rfl (ve λu=>CD (t:=100) (.agg (bX ({ Path:=x0.Path,Size:=(x1.Data.length:Int),Ids:=r0}:cT))) (aU (.cons _ (.refl _)) u).1 (bD.agg (.k2 (.cons (nY _ 0 t9 u rfl (.refl _)) .nil))) (ZW (dX (map bX ([({ Path:=x0.Path,Size:=(x1.Data.length:Int),Ids:=r0}:cT)]:List cT)) J5 rfl rfl rfl rfl) (qk ((aU (.cons _ (.refl _)) u).2) rfl ?_)))))
 obtain⟨z4,Z4,m⟩:=aD m
 exact ve λu=>fC (c:=bX) 1 Z4 J5 rfl rfl rfl t0 u rfl λtg11 t11 K15=>qk K15 rfl (ve λu=>aL 3 ([.sc (.string p0),ow tg11 3 (map bX z4)]) u rfl rfl (jN rfl) (pQ _ _ _) VA rfl rfl λK16=>qk K16 rfl (v (eG m (tg11,tg10) ⟨t11,t10⟩ (mK [1,2,3,4] rfl rfl (.k6 .nil)))))
 exact v (lR m (tg0,tg1) ⟨t0,t1⟩ (lx (.k6 .nil)))
 rintro⟨tg12,tg13⟩ ⟨r4,r5,r6,r7⟩ ⟨t12,t13⟩ m
 refine v (vl 2 (.agg ([.sc (.string p0),ow tg12 3 (map bX r4)])) pW rfl rfl rfl (ve λu=>aL 3 ([.sc (.string p0),ow tg12 3 (map bX r4)]) u rfl rfl rfl (by repeat (first | exact rfl | refine cG (jO _ _ _) ?_ | refine cG (cC _ _ _) ?_ | refine cG (gK _ _ _ _) ?_ | refine cG rfl ?_)) z7 rfl rfl λK17=>qk K17 rfl ?_))
 refine v ?_
 cases m
 exact vr λu=>dW.of3 (.inl rfl) (sJ (.agg ([.sc (.string p0),ow tg12 3 (map bX r4)])) pW rfl (aW 3 u rfl) rfl) (gQ _ _ (ow _ _ _) rfl) (gQ _ _ (.sc (.int _ _)) rfl) (aU (nil_sublist _) u).1 (bD.agg (.cons (bD.refl _ _) (.cons ((dU _ 0 t12 u rfl)) .nil))) ((dU _ 1 t13 u rfl)) (bD.refl _ _) ⟨rfl,rfl⟩
theorem aIK:aP prog 86=true:=by kernel_rfl
def DA (m:Nat) (p0:aA) (y0:bE×(List (List Int))×Int) (q0:List aB) (q1:Int):Option (Lp ((List aB)×Int) (aV×Bool)):=
 if decide (q1 < (y0.2.1.length:Int)) then ((ix y0.2.1 q1).bind λx0=>(YM m x0).bind λy1=>(LI m p0 y1).bind λy2=>after (if decide (y2 < 0) then ((ix y0.2.1 q1).bind λx1=>(app q0 ([({ Id:=y1,Staged:=true,Data:=x1,Locs:=[]}:aB)]:List aB)).bind λz0=>Bk z0) else Bk q0:Option (Lp ((List aB)) (Lp ((List aB)×Int) (aV×Bool)))) λj0=>Gk (j0,wrap .i64 (q1+1))) else Bk (q0,q1)
def DB (m:Nat) (p0:aA) (p1:iV) (q0:List aE) (q1:Int) (q2:Int):Option (Lp ((List aE)×Int×Int) (aV×Bool)):=
 after (if (decide (q2 < (wrap .i64 ((wrap .i64 ((p0.Chunks.length:Int)+(p0.Snaps.length:Int)))+(p0.Exps.length:Int)))))then (Bk (decide ((q0.length:Int) < 64))) else Bk false:Option (Lp (Bool) (Lp ((List aE)×Int×Int) (aV×Bool)))) λj0=>if j0 then (after (after (if decide (q2 < (p1.Pick.length:Int)) then ((ix p1.Pick q2).bind λx0=>Bk (!x0)) else Bk false:Option (Lp (Bool) (Lp ((List aE)×Int) (Lp ((List aE)×Int×Int) (aV×Bool))))) λj1=>if j1 then (Bk (q0,q1)) else after (if decide (q2 < (p0.Chunks.length:Int)) then ((ix p0.Chunks q2).bind λx1=>Bk { { ({ Kind:=0,Id:=gY,Seq:=0,Of:=0,Off:=q1,Len:=20}:aE) with Kind:=1} with Id:=x1.Id}) else after (if (decide (q2 < (wrap .i64 ((p0.Chunks.length:Int)+(p0.Snaps.length:Int)))))then ((ix p0.Snaps (wrap .i64 (q2 - (p0.Chunks.length:Int)))).bind λx2=>Bk { { ({ Kind:=0,Id:=gY,Seq:=0,Of:=0,Off:=q1,Len:=20}:aE) with Kind:=2} with Seq:=x2.Seq}) else (ix p0.Exps (wrap .i64 ((wrap .i64 (q2 - (p0.Chunks.length:Int))) - (p0.Snaps.length:Int)))).bind λx3=>Bk { { { ({ Kind:=0,Id:=gY,Seq:=0,Of:=0,Off:=q1,Len:=20}:aE) with Kind:=3} with Seq:=x3.Seq} with Of:=x3.Of}:Option (Lp (aE) (Lp (aE) (Lp ((List aE)×Int) (Lp ((List aE)×Int×Int) (aV×Bool)))))) λj2=>Bk j2:Option (Lp (aE) (Lp ((List aE)×Int) (Lp ((List aE)×Int×Int) (aV×Bool))))) λj3=>(app q0 ([j3]:List aE)).bind λz0=>Bk (z0,wrap .i64 (q1+20)):Option (Lp ((List aE)×Int) (Lp ((List aE)×Int×Int) (aV×Bool)))) λ⟨j4,j5⟩=>Gk (j4,j5,wrap .i64 (q2+1))) else Bk (q0,q1,q2)
def M35 (m:Nat) (p0:aA) (p1:iV):Option (aV×Bool):=
 (MF ([wrap .u8 (wrap .u64 (97+((wrap .u64 p1.N).tmod 5)))]:List Int)).bind λst0=>grd (decide ((ByteArray.mk #[110]).size+st0.size<=9223372036854775807)) <| after (if decide (0 < (p0.Vols.length:Int)) then (grd ((wrap .u64 (p0.Vols.length:Int)) !=0) <| Bk (wrap .i64 ((wrap .u64 p1.Vol).tmod (wrap .u64 (p0.Vols.length:Int))))) else Bk 0:Option (Lp (Int) (aV×Bool))) λj0=>after (if (((wrap .u64 p1.Do).tmod 8)==0)then (Bk (((wrap .u64 p1.Do).tmod 8)==0)) else Bk (((wrap .u64 p1.Do).tmod 8)==1):Option (Lp (Bool) (aV×Bool))) λj1=>if j1 then ((M85 m p1.Tree).bind λy0=>if (y0.2 !=0)then (some (({ Kind:=0,Snap:=({ Seq:=0,Man:=({ Name:=empty,Parts:=[]}:bE),Locs:=[]}:aH),Chunks:=[],Seq:=0,Vol:=0,Items:=[]}:aV),false)) else (M86 m ((ByteArray.mk #[110])++st0) y0.1).bind λy1=>after (aR (λs=>DA m p0 y1 s.1 s.2) m ([],0)) λ⟨r0,r1⟩=>some (({ Kind:=1,Snap:=({ Seq:=p0.Seq,Man:=y1.1,Locs:=[]}:aH),Chunks:=r0,Seq:=0,Vol:=0,Items:=[]}:aV),true)) else after (if (((wrap .u64 p1.Do).tmod 8)==2)then (Bk (((wrap .u64 p1.Do).tmod 8)==2)) else Bk (((wrap .u64 p1.Do).tmod 8)==5):Option (Lp (Bool) (aV×Bool))) λj2=>if j2 then (if ((p0.Snaps.length:Int)==0)then (some (({ Kind:=0,Snap:=({ Seq:=0,Man:=({ Name:=empty,Parts:=[]}:bE),Locs:=[]}:aH),Chunks:=[],Seq:=0,Vol:=0,Items:=[]}:aV),false)) else grd ((wrap .u64 (p0.Snaps.length:Int)) !=0) <| (ix p0.Snaps (wrap .i64 ((wrap .u64 p1.N).tmod (wrap .u64 (p0.Snaps.length:Int))))).bind λx0=>if (((wrap .u64 p1.Do).tmod 8)==2)then (some (({ Kind:=2,Snap:=({ Seq:=0,Man:=({ Name:=empty,Parts:=[]}:bE),Locs:=[]}:aH),Chunks:=[],Seq:=x0.Seq,Vol:=0,Items:=[]}:aV),true)) else some (({ Kind:=3,Snap:=({ Seq:=0,Man:=({ Name:=empty,Parts:=[]}:bE),Locs:=[]}:aH),Chunks:=[],Seq:=0,Vol:=j0,Items:=([({ Kind:=3,Id:=gY,Seq:=p0.Seq,Of:=x0.Seq,Off:=13,Len:=17}:aE)]:List aE)}:aV),true)) else after (if (((wrap .u64 p1.Do).tmod 8)==3)then (Bk (((wrap .u64 p1.Do).tmod 8)==3)) else Bk (((wrap .u64 p1.Do).tmod 8)==4):Option (Lp (Bool) (aV×Bool))) λj3=>if j3 then (after (aR (λs=>DB m p0 p1 s.1 s.2.1 s.2.2) m ([],13,0)) λ⟨r2,r3,r4⟩=>some (({ Kind:=3,Snap:=({ Seq:=0,Man:=({ Name:=empty,Parts:=[]}:bE),Locs:=[]}:aH),Chunks:=[],Seq:=0,Vol:=j0,Items:=r2}:aV),decide (0 < (r2.length:Int)))) else if (((wrap .u64 p1.Do).tmod 8)==6)then (some (({ Kind:=4,Snap:=({ Seq:=0,Man:=({ Name:=empty,Parts:=[]}:bE),Locs:=[]}:aH),Chunks:=[],Seq:=0,Vol:=j0,Items:=[]}:aV),true)) else some (({ Kind:=5,Snap:=({ Seq:=0,Man:=({ Name:=empty,Parts:=[]}:bE),Locs:=[]}:aH),Chunks:=[],Seq:=0,Vol:=j0,Items:=[]}:aV),true)
theorem W35 {w:Nat} {p0:aA} {p1:iV} {o:aV×Bool} (h:aF) (m:M35 w p0 p1=some o):
 aM prog 35 [.agg (aC p0),.agg (eF p1)] h (λr h'=>r= .tup [.agg (aJ o.1),.sc (.bool o.2)]/\h'=h):=by
 refine fQ 248 [.cell 4 62,.tmp 5] Tryz.func35 rfl rfl rfl rfl ?_
 unfold M35 at m
 refine v (gZ rfl rfl λk2 K3=>gZ rfl rfl λk5 K6=>ve λu=>bG (zS) u RG rfl rfl λk8 K9=>qk K9 rfl (v (vl 1 _ cB rfl rfl rfl (bU (dX (map f9 ([wrap .u8 (wrap .u64 (97+((wrap .u64 p1.N).tmod 5)))]:List Int)) xW rfl rfl rfl rfl) ?_))))
 obtain⟨st0,hs0,m⟩:=aD m
 refine bU (UZ (c:=f9) hs0 (λ_=>rfl) u41 u5 u9 rfl) ?_
 obtain⟨Z0,m⟩:=pP m
 refine bU (GC rfl rfl rfl (of_decide_eq_true Z0)) (v (v (vl 2 _ i9 rfl rfl rfl (cU rF rfl (fO m (σ:=Int) (λs=>[(some k8,.obj 62 (zS)),(some k5,.obj 67 (eF p1)),(some k2,.obj 30 (aC p0))]) (λs=>.c 2 (.ptr k2 0) (.c 3 (.ptr k5 0) (.c 4 (.ptr k8 0) (.c 6 (.sc (.string ((ByteArray.mk #[110])++st0))) (.c 7 (nZ s) .nil))))) (λx m=> ?_) ?_)))))
 refine v ?_
 apply vi m<;>intro c0 m
 exact v (vl 1 _ cB rfl rfl rfl (vl 2 _ i9 rfl rfl rfl (cU rF rfl (YD m λ_ m=>kN m))))
 exact v (kN m)
 rintro _ j0 m
 refine v (vl 1 _ cB rfl rfl rfl (v (v (fO m (σ:=Bool) (λs=>[(some k8,.obj 62 (zS)),(some k5,.obj 67 (eF p1)),(some k2,.obj 30 (aC p0))]) (λs=>.c 2 (.ptr k2 0) (.c 3 (.ptr k5 0) (.c 4 (.ptr k8 0) (.c 6 (.sc (.string ((ByteArray.mk #[110])++st0))) (.c 7 (nZ j0) (.c 47 (.sc (.int .u64 ((wrap .u64 p1.Do).tmod 8))) (.c 48 (.sc (.bool s)) .nil))))))) (λx m=> ?_) ?_))))
 refine v ?_
 apply vi m<;>intro c1 m
 exact v (zV m)
 exact v (zV m)
 rintro _ j1 m
 refine v ?_
 apply vi m<;>intro c2 m
 refine v (vl 1 _ aFH rfl rfl rfl (vk W85 aIE m rfl rfl λ_ m=>v (v ?_)))
 apply vi m<;>intro c3 m
 refine v (bU (eJ (zS) CH rfl) (ve λu=>aL 0 (zS) u rfl rfl rfl rfl yA rfl rfl λK0=>qk K0 rfl (v ?_)))
 cases m
 exact vr λu=>dW.of2 (.inl rfl) (sJ (.agg (zS)) sS rfl (aW 0 u rfl) rfl) (gQ _ _ (.sc (.bool _)) rfl) (aU (nil_sublist _) u).1 (bD.agg (.k3 (.cons (a9 _) (.cons (a9 _) (.cons (a9 _) (.k2 (.cons (a9 _) .nil))))))) (bD.refl _ _) ⟨rfl,rfl⟩
 refine v (v (vk W86 aIK m rfl rfl λy0 m=>ve λu=>bG ([.sc (.string empty),sZ]) u MW rfl rfl λk44 K1=>qk K1 rfl (ve λu=>aL 0 (bI y0.1) u rfl rfl rfl rfl z7 rfl rfl λK2=>qk K2 rfl (v (vl 3 _ cB rfl rfl rfl (vl 0 (.agg (bI y0.1)) pW rfl rfl rfl (bU (eJ (([nZ p0.Seq]:List AV)++bI y0.1++([sZ]:List AV)) aFG rfl) (bU (eJ (([nZ 1,nZ p0.Seq]:List AV)++bI y0.1++(zq6:List AV)) CH rfl) (ve λu=>bG (zS) u RG rfl rfl λk49 K4=>qk K4 rfl (ve λu=>aL 0 (([nZ 1,nZ p0.Seq]:List AV)++bI y0.1++(zq6:List AV)) u rfl rfl rfl rfl yA rfl rfl λK5=>qk K5 rfl (v (pM (ZV (.tok 44 35 (([]:List aB).length*35)) 1 (([nZ 1,nZ p0.Seq]:List AV)++bI y0.1++([sZ,ow none 35 (map aK []),nZ 0,nZ 0,sZ]:List AV)) rfl (.k2 (cS.app 2 rfl (.cons (bD.refl _ _) (.cons (gD (c:=aK) _ 35) (.k3 .nil)))))) (nU m (σ:=(List aB)×Int) (τ:=Option bT) (λg s=>[(g,.tok 44 35 ((s.1:List aB).length*35)),(some k49,.obj 62 (([nZ 1,nZ p0.Seq]:List AV)++bI y0.1++([sZ,ow g 35 (map aK s.1),nZ 0,nZ 0,sZ]:List AV))),(some k44,.obj 58 (bI y0.1)),(some k8,.obj 62 (zS)),(some k5,.obj 67 (eF p1)),(some k2,.obj 30 (aC p0))]) (λg s=>(g=none->s.1= [])) (λg s=>.c 2 (.ptr k2 0) (.c 4 (.ptr k8 0) (.c 11 (.sl none 1 (map iF y0.2.1)) (.c 13 (.ptr k49 0) (.c 14 (nZ s.2) .nil))))) none (λ_=>rfl) (lx (.k5 .nil)) ?_ ?_)))))))))))))
 rintro tg0 ⟨q0,q1⟩ x t0 m
 replace m:DA w p0 y0 q0 q1=some x:=m
 unfold DA at m
 refine v (cU TS rfl (v ?_))
 apply vi m<;>intro c4 m
 refine v (v (v (vx m A3 rfl rfl λ_ _ m=>vk W87 aC0 m rfl rfl λy1 m=>ve λu=>bG (bC gY) u MQ rfl rfl λk255 K7=>qk K7 rfl (ve λu=>aL 0 (bC y1) u rfl rfl rfl rfl MP rfl rfl λK8=>qk K8 rfl (v (vl 6 (.agg (aC p0)) dC rfl rfl rfl (vl 0 (.agg (bC y1)) fA rfl rfl rfl (vk W88 RM m rfl rfl λ_ m=>oI m (σ:=(List aB)) (τ:=Option bT) (λg s=>[(some k255,.obj 36 (bC y1)),(g,.tok 44 35 ((s:List aB).length*35)),(some k49,.obj 62 (([nZ 1,nZ p0.Seq]:List AV)++bI y0.1++([sZ,ow g 35 (map aK s),nZ 0,nZ 0,sZ]:List AV))),(some k44,.obj 58 (bI y0.1)),(some k8,.obj 62 (zS)),(some k5,.obj 67 (eF p1)),(some k2,.obj 30 (aC p0))]) (λg s=>(g=none->s= [])) (λg s=>.c 2 (.ptr k2 0) (.c 4 (.ptr k8 0) (.c 11 (.sl none 1 (map iF y0.2.1)) (.c 13 (.ptr k49 0) (.c 14 (nZ q1) .nil))))) (λx m=> ?_) ?_))))))))
 refine v ?_
 apply vi m<;>intro c5 m
 refine v (vz [(11,some k49,.obj 62 (([nZ 1,nZ p0.Seq]:List AV)++bI y0.1++([sZ,ow tg0 35 (map aK q0),nZ 0,nZ 0,sZ]:List AV))),(1000000,some k255,.obj 36 (bC y1))] mixed (λu=>⟨λ_=>aO 2 u rfl,λ_=>aO 0 u rfl,trivial⟩) λu=>zF 0 rfl oP rfl (zL 1 0 (ow tg0 35 (map aK q0)) rfl fE rfl rfl rfl (zL 2 1 (.agg (bC y1)) rfl fA rfl rfl rfl (zC 3 rfl (fJ (.sl _ _ _) rfl) (zI 4 rfl rfl ?_)))))
 obtain⟨x0,X0,m⟩:=aD m
 refine zC 5 rfl (lV X0 A3 rfl rfl) (zC 6 rfl (l8 (.sl none 1 (map f9 x0)) n6 rfl rfl) (zC 7 rfl (iR (y:=.agg (aK ({ Id:=y1,Staged:=true,Data:=x0,Locs:=[]}:aB))) (eJ (bC y1++([.sc (.bool true),.sl none 1 (map f9 x0),sZ]:List AV)) aFC rfl) (bD.agg (cS.app 32 rfl (.k2 (.cons (a9 _) .nil))))) (zC 8 rfl (dX (map aK ([({ Id:=y1,Staged:=true,Data:=x0,Locs:=[]}:aB)]:List aB)) pE rfl rfl rfl rfl) ?_)))
 obtain⟨z0,Z1,m⟩:=aD m
 refine zE 9 rfl (fC (c:=aK) 1 Z1 pE rfl rfl rfl t0 u rfl λtg1 t1 K10=>⟨⟨λ_=>aO 2 K10 rfl,λ_=>aO 0 K10 rfl,trivial⟩, ?_⟩)
 refine zF 10 rfl oP rfl (zE 11 rfl (aL 2 (([nZ 1,nZ p0.Seq]:List AV)++bI y0.1++([sZ,ow tg1 35 (map aK z0),nZ 0,nZ 0,sZ]:List AV)) K10 rfl rfl (jN rfl) (pQ _ _ _) EH rfl rfl λK11=>⟨⟨λe=>absurd e (by decide),λ_=>aO 0 K11 rfl,trivial⟩, ?_⟩))
 exact zX (qk (f:=U5 97 _ _ _ _ _ _ _ _ _ _ _ _) K11 rfl (eG m tg1 t1 (lx (.k5 .nil))))
 exact v (eG m tg0 t0 (lx (.k5 .nil)))
 rintro tg2 j2 t2 m
 exact v (eG m tg2 t2 (mK [1,2,3,4,5,6] rfl rfl (.k5 .nil)))
 exact v (lR m tg0 t0 (lx (.k5 .nil)))
 rintro tg3 ⟨r0,r1⟩ t3 m
 refine v (vl 1 (.agg (([nZ 1,nZ p0.Seq]:List AV)++bI y0.1++([sZ,ow tg3 35 (map aK r0),nZ 0,nZ 0,sZ]:List AV))) sS rfl rfl rfl (ve λu=>aL 3 (([nZ 1,nZ p0.Seq]:List AV)++bI y0.1++([sZ,ow tg3 35 (map aK r0),nZ 0,nZ 0,sZ]:List AV)) u rfl rfl rfl (by repeat (first | exact rfl | refine cG (jO _ _ _) ?_ | refine cG (cC _ _ _) ?_ | refine cG (gK _ _ _ _) ?_ | refine cG rfl ?_)) yA rfl rfl λK12=>qk K12 rfl ?_))
 refine v ?_
 cases m
 exact vr λu=>dW.of2 (.inl rfl) (sJ (.agg (([nZ 1,nZ p0.Seq]:List AV)++bI y0.1++([sZ,ow tg3 35 (map aK r0),nZ 0,nZ 0,sZ]:List AV))) sS rfl (aW 3 u rfl) rfl) (gQ _ _ (.sc (.bool _)) rfl) (aU (nil_sublist _) u).1 (bD.agg (.k2 (cS.app 2 rfl (.cons (a9 _) (.cons ((dU _ 0 t3 u rfl)) (.k2 (.cons (a9 _) .nil))))))) (bD.refl _ _) ⟨rfl,rfl⟩
 refine v (fO m (σ:=Bool) (λs=>[(some k8,.obj 62 (zS)),(some k5,.obj 67 (eF p1)),(some k2,.obj 30 (aC p0))]) (λs=>.c 2 (.ptr k2 0) (.c 3 (.ptr k5 0) (.c 4 (.ptr k8 0) (.c 7 (nZ j0) (.c 47 (.sc (.int .u64 ((wrap .u64 p1.Do).tmod 8))) (.c 99 (.sc (.bool s)) .nil)))))) (λx m=> ?_) ?_)
 refine v ?_
 apply vi m<;>intro c6 m
 exact v (mX m)
 exact v (mX m)
 rintro _ j3 m
 refine v ?_
 apply vi m<;>intro c7 m
 refine v (vl 2 _ fD rfl rfl rfl (cU lA rfl (v ?_)))
 apply vi m<;>intro c8 m
 refine v (bU (eJ (zS) CH rfl) (ve λu=>aL 0 (zS) u rfl rfl rfl rfl yA rfl rfl λK13=>qk K13 rfl (v ?_)))
 cases m
 exact vr λu=>dW.of2 (.inl rfl) (sJ (.agg (zS)) sS rfl (aW 0 u rfl) rfl) (gQ _ _ (.sc (.bool _)) rfl) (aU (nil_sublist _) u).1 (bD.agg (.k3 (.cons (a9 _) (.cons (a9 _) (.cons (a9 _) (.k2 (.cons (a9 _) .nil))))))) (bD.refl _ _) ⟨rfl,rfl⟩
 refine v (v (vz [(1000000,some k2,.obj 30 (aC p0)),(1000000,some k5,.obj 67 (eF p1))] mixed (λu=>⟨λ_=>aO 2 u rfl,λ_=>aO 1 u rfl,trivial⟩) λu=>zF 0 rfl eM rfl (zL 1 0 (.sl none 4 (map bJ p0.Snaps)) rfl fD rfl rfl rfl (zF 2 rfl VI rfl (zL 3 1 (nZ p1.N) rfl cB rfl rfl rfl (zC 4 rfl (QV ti3 VG rfl) (zF 5 rfl eM rfl (zL 6 0 (.sl none 4 (map bJ p0.Snaps)) rfl fD rfl rfl rfl (zC 7 rfl (xN lA rfl) (zC 8 rfl (QV ti3 VG rfl) ?_))))))))))
 obtain⟨Z2,m⟩:=pP m
 refine zC 9 rfl (mU rfl rfl rfl (ZG Z2)) (zC 10 rfl (QV VG ti3 rfl) ?_)
 obtain⟨x1,X1,m⟩:=aD m
 refine zC 11 rfl (lV X1 iW rfl rfl) (zC 12 rfl (l8 (.agg (bJ x1)) sR rfl rfl) (zE 13 rfl (bG (XZ) u xZ rfl rfl λk329 K14=>⟨⟨λ_=>aO 3 K14 rfl,λ_=>aO 2 K14 rfl,trivial⟩, ?_⟩)))
 refine zE 14 rfl (aL 0 (bJ x1) K14 rfl rfl rfl rfl GZ rfl rfl λK15=>⟨⟨λ_=>aO 3 K15 rfl,λ_=>aO 2 K15 rfl,trivial⟩, ?_⟩)
 refine zX (qk (f:=.c 16 _ (ZU 119 _ _ _ _ _ _ _ _ _ _ _ _ _ _)) K15 rfl (v (vl 2 _ cB rfl rfl rfl (v ?_))))
 apply vi m<;>intro c9 m
 refine v (vl 0 _ cB rfl rfl rfl (bU (eJ ([nZ 2,nZ 0,.sc (.string empty),sZ,sZ,sZ,nZ x1.Seq,nZ 0,sZ]) CH rfl) (ve λu=>aL 1 ([nZ 2,nZ 0,.sc (.string empty),sZ,sZ,sZ,nZ x1.Seq,nZ 0,sZ]) u rfl rfl rfl rfl yA rfl rfl λK16=>qk K16 rfl (v ?_))))
 cases m
 exact vr λu=>dW.of2 (.inl rfl) (sJ (.agg ([nZ 2,nZ 0,.sc (.string empty),sZ,sZ,sZ,nZ x1.Seq,nZ 0,sZ])) sS rfl (aW 1 u rfl) rfl) (gQ _ _ (.sc (.bool _)) rfl) (aU (nil_sublist _) u).1 (bD.agg (.k3 (.cons (a9 _) (.cons (a9 _) (.cons (a9 _) (.k2 (.cons (a9 _) .nil))))))) (bD.refl _ _) ⟨rfl,rfl⟩
 refine v (v (vl 3 _ cB rfl rfl rfl (vl 0 _ cB rfl rfl rfl (bU (eJ (aI ({ Kind:=3,Id:=gY,Seq:=p0.Seq,Of:=x1.Seq,Off:=13,Len:=17}:aE)) sQ rfl) (bU (dX (map aI ([({ Kind:=3,Id:=gY,Seq:=p0.Seq,Of:=x1.Seq,Off:=13,Len:=17}:aE)]:List aE)) lI rfl rfl rfl rfl) (bU (eJ ([nZ 3,nZ 0,.sc (.string empty),sZ,sZ,sZ,nZ 0,nZ j0,.sl none 37 (map aI ([({ Kind:=3,Id:=gY,Seq:=p0.Seq,Of:=x1.Seq,Off:=13,Len:=17}:aE)]:List aE))]) CH rfl) (ve λu=>aL 1 ([nZ 3,nZ 0,.sc (.string empty),sZ,sZ,sZ,nZ 0,nZ j0,.sl none 37 (map aI ([({ Kind:=3,Id:=gY,Seq:=p0.Seq,Of:=x1.Seq,Off:=13,Len:=17}:aE)]:List aE))]) u rfl rfl rfl rfl yA rfl rfl λK17=>qk K17 rfl (v ?_))))))))
 cases m
 exact vr λu=>dW.of2 (.inl rfl) (sJ (.agg ([nZ 3,nZ 0,.sc (.string empty),sZ,sZ,sZ,nZ 0,nZ j0,.sl none 37 (map aI ([({ Kind:=3,Id:=gY,Seq:=p0.Seq,Of:=x1.Seq,Off:=13,Len:=17}:aE)]:List aE))])) sS rfl (aW 1 u rfl) rfl) (gQ _ _ (.sc (.bool _)) rfl) (aU (nil_sublist _) u).1 (bD.agg (.k3 (.cons (a9 _) (.cons (a9 _) (.cons (a9 _) (.k3 .nil)))))) (bD.refl _ _) ⟨rfl,rfl⟩
 refine v (fO m (σ:=Bool) (λs=>[(some k8,.obj 62 (zS)),(some k5,.obj 67 (eF p1)),(some k2,.obj 30 (aC p0))]) (λs=>.c 2 (.ptr k2 0) (.c 3 (.ptr k5 0) (.c 4 (.ptr k8 0) (.c 7 (nZ j0) (.c 47 (.sc (.int .u64 ((wrap .u64 p1.Do).tmod 8))) (.c 136 (.sc (.bool s)) .nil)))))) (λx m=> ?_) ?_)
 refine v ?_
 apply vi m<;>intro c10 m
 exact v (mX m)
 exact v (mX m)
 rintro _ j4 m
 refine v ?_
 apply vi m<;>intro c11 m
 refine v (v (v (pM (z6 (.tok 38 37 (([]:List aE).length*37)) 17 (ow none 37 (map aI [])) (gD _ _)) (nU m (σ:=(List aE)×Int×Int) (τ:=Option bT) (λg s=>[(g,.tok 38 37 ((s.1:List aE).length*37)),(some k8,.obj 62 (zS)),(some k5,.obj 67 (eF p1)),(some k2,.obj 30 (aC p0))]) (λg s=>(g=none->s.1= [])) (λg s=>.c 2 (.ptr k2 0) (.c 3 (.ptr k5 0) (.c 4 (.ptr k8 0) (.c 7 (nZ j0) (.c 17 (ow g 37 (map aI s.1)) (.c 18 (nZ s.2.1) (.c 19 (nZ s.2.2) .nil))))))) none (λ_=>rfl) (lx (.k7 .nil)) ?_ ?_))))
 rintro tg4 ⟨q2,q3,q4⟩ x t4 m
 replace m:DB w p0 p1 q2 q3 q4=some x:=m
 unfold DB at m
 refine vs (vs (fO m (σ:=Bool) (λs=>[(tg4,.tok 38 37 ((q2:List aE).length*37)),(some k8,.obj 62 (zS)),(some k5,.obj 67 (eF p1)),(some k2,.obj 30 (aC p0))]) (λs=>.c 2 (.ptr k2 0) (.c 3 (.ptr k5 0) (.c 4 (.ptr k8 0) (.c 7 (nZ j0) (.c 17 (ow tg4 37 (map aI q2)) (.c 18 (nZ q3) (.c 19 (nZ q4) (.c 156 (.sc (.bool s)) .nil)))))))) (λx m=> ?_) ?_))
 refine v (vl 3 _ fE rfl rfl rfl (cU lH rfl (vl 3 _ fD rfl rfl rfl (cU lA rfl (vl 3 _ iL rfl rfl rfl (cU pT rfl ?_))))))
 apply vi m<;>intro b0 m
 rw[b0]
 exact bU (u0 mC t4 rfl) (MI m)
 rw[b0]
 exact MI m
 rintro _ j5 m
 refine v ?_
 apply vi m<;>intro c12 m
 refine v (vs (oI m (σ:=(List aE)×Int) (τ:=Option bT) (λg s=>[(g,.tok 38 37 ((s.1:List aE).length*37)),(some k8,.obj 62 (zS)),(some k5,.obj 67 (eF p1)),(some k2,.obj 30 (aC p0))]) (λg s=>(g=none->s.1= [])) (λg s=>.c 2 (.ptr k2 0) (.c 3 (.ptr k5 0) (.c 4 (.ptr k8 0) (.c 7 (nZ j0) (.c 17 (ow g 37 (map aI s.1)) (.c 18 (nZ s.2) (.c 19 (nZ q4) .nil))))))) (λx m=> ?_) ?_))
 refine v (vs (vs (fO m (σ:=Bool) (λs=>[(tg4,.tok 38 37 ((q2:List aE).length*37)),(some k8,.obj 62 (zS)),(some k5,.obj 67 (eF p1)),(some k2,.obj 30 (aC p0))]) (λs=>.c 2 (.ptr k2 0) (.c 3 (.ptr k5 0) (.c 4 (.ptr k8 0) (.c 7 (nZ j0) (.c 17 (ow tg4 37 (map aI q2)) (.c 18 (nZ q3) (.c 19 (nZ q4) (.c 171 (.sc (.bool s)) .nil)))))))) (λx m=> ?_) ?_)))
 refine v (vl 2 _ aAB rfl rfl rfl (cU aAA rfl ?_))
 apply vi m<;>intro b1 m
 rw[b1]
 exact vl 2 _ aAB rfl rfl rfl (vx m aFI rfl rfl λ_ _ m=>MI m)
 rw[b1]
 exact MI m
 rintro _ j6 m
 refine v ?_
 apply vi m<;>intro c13 m
 exact v (eG m tg4 t4 (lx (.k7 .nil)))
 refine v (v (bU (eJ (aI ({ Kind:=0,Id:=gY,Seq:=0,Of:=0,Off:=q3,Len:=20}:aE)) sQ rfl) (ve λu=>bG (([nZ 0]:List AV)++bC gY++(JO:List AV)) u GY rfl rfl λk1523 K18=>qk K18 rfl (ve λu=>aL 0 (aI ({ Kind:=0,Id:=gY,Seq:=0,Of:=0,Off:=q3,Len:=20}:aE)) u rfl rfl rfl rfl GX rfl rfl λK19=>qk K19 rfl (v (v (vl 4 _ fE rfl rfl rfl (cU lH rfl (fO m (σ:=aE) (λs=>[(some k1523,.obj 38 (aI s)),(tg4,.tok 38 37 ((q2:List aE).length*37)),(some k8,.obj 62 (zS)),(some k5,.obj 67 (eF p1)),(some k2,.obj 30 (aC p0))]) (λs=>.c 2 (.ptr k2 0) (.c 3 (.ptr k5 0) (.c 4 (.ptr k8 0) (.c 7 (nZ j0) (.c 17 (ow tg4 37 (map aI q2)) (.c 18 (nZ q3) (.c 19 (nZ q4) (.c 20 (.ptr k1523 0) .nil)))))))) (λx m=> ?_) ?_)))))))))
 refine v ?_
 apply vi m<;>intro c14 m
 refine v (vz [(1000000,some k2,.obj 30 (aC p0)),(7,some k1523,.obj 38 (aI ({ Kind:=0,Id:=gY,Seq:=0,Of:=0,Off:=q3,Len:=20}:aE)))] mixed (λu=>⟨λ_=>aO 4 u rfl,λ_=>aO 0 u rfl,trivial⟩) λu=>zF 0 rfl fF rfl (zL 1 0 (.sl none 35 (map aK p0.Chunks)) rfl fE rfl rfl rfl (zI 2 rfl rfl ?_)))
 obtain⟨x2,X2,m⟩:=aD m
 refine zC 3 rfl (lV X2 hX rfl rfl) (zC 4 rfl (m9 rH rfl rfl) (zC 5 rfl (l8 (.agg (bC x2.Id)) fA rfl rfl) (zF 6 rfl mY rfl (zE 7 rfl (aL 0 (aI { ({ Kind:=0,Id:=gY,Seq:=0,Of:=0,Off:=q3,Len:=20}:aE) with Kind:=1}) u rfl rfl rfl rfl A2 rfl rfl λK20=>⟨⟨λ_=>aO 4 K20 rfl,λe=>absurd e (by decide),trivial⟩, ?_⟩)))))
 refine zF 8 rfl xU rfl (zE 9 rfl (aL 0 (aI { { ({ Kind:=0,Id:=gY,Seq:=0,Of:=0,Off:=q3,Len:=20}:aE) with Kind:=1} with Id:=x2.Id}) K20 rfl rfl rfl rfl MP rfl rfl λK21=>⟨⟨λ_=>aO 4 K21 rfl,λe=>absurd e (by decide),trivial⟩, ?_⟩))
 exact zX (qk (f:=Q8 207 _ _ _ _ _ _ _ _ _) K21 rfl (MI m))
 refine v (vl 4 _ fE rfl rfl rfl (cU lH rfl (vl 4 _ fD rfl rfl rfl (cU lA rfl (fO m (σ:=aE) (λs=>[(some k1523,.obj 38 (aI s)),(tg4,.tok 38 37 ((q2:List aE).length*37)),(some k8,.obj 62 (zS)),(some k5,.obj 67 (eF p1)),(some k2,.obj 30 (aC p0))]) (λs=>.c 2 (.ptr k2 0) (.c 3 (.ptr k5 0) (.c 4 (.ptr k8 0) (.c 7 (nZ j0) (.c 17 (ow tg4 37 (map aI q2)) (.c 18 (nZ q3) (.c 19 (nZ q4) (.c 20 (.ptr k1523 0) .nil)))))))) (λx m=> ?_) ?_)))))
 refine v ?_
 apply vi m<;>intro c15 m
 refine v (vz [(1000000,some k2,.obj 30 (aC p0)),(11,some k1523,.obj 38 (aI ({ Kind:=0,Id:=gY,Seq:=0,Of:=0,Off:=q3,Len:=20}:aE)))] mixed (λu=>⟨λ_=>aO 4 u rfl,λ_=>aO 0 u rfl,trivial⟩) λu=>zF 0 rfl eM rfl (zL 1 0 (.sl none 4 (map bJ p0.Snaps)) rfl fD rfl rfl rfl (zI 2 rfl rfl (zF 3 rfl fF rfl (zL 4 0 (.sl none 35 (map aK p0.Chunks)) rfl fE rfl rfl rfl (zC 5 rfl (xN lH rfl) (zC 6 rfl (mU rfl rfl rfl trivial) ?_)))))))
 obtain⟨x3,X3,m⟩:=aD m
 refine zC 7 rfl (lV X3 iW rfl rfl) (zC 8 rfl (m9 CF rfl rfl) (zC 9 rfl (l8 (nZ x3.Seq) cB rfl rfl) (zF 10 rfl mY rfl (zE 11 rfl (aL 0 (aI { ({ Kind:=0,Id:=gY,Seq:=0,Of:=0,Off:=q3,Len:=20}:aE) with Kind:=2}) u rfl rfl rfl rfl A2 rfl rfl λK22=>⟨⟨λ_=>aO 4 K22 rfl,λe=>absurd e (by decide),trivial⟩, ?_⟩)))))
 refine zF 12 rfl lX rfl (zE 13 rfl (aL 0 (aI { { ({ Kind:=0,Id:=gY,Seq:=0,Of:=0,Off:=q3,Len:=20}:aE) with Kind:=2} with Seq:=x3.Seq}) K22 rfl rfl rfl rfl A2 rfl rfl λK23=>⟨⟨λ_=>aO 4 K23 rfl,λe=>absurd e (by decide),trivial⟩, ?_⟩))
 exact zX (qk (f:=MH 229 _ _ _ _ _ _ _ _ _ _ _ _ _) K23 rfl (MI m))
 refine v (vl 4 _ iL rfl rfl rfl (vl 4 _ fE rfl rfl rfl (cU lH rfl (vl 4 _ fD rfl rfl rfl (cU lA rfl (vx m iX rfl rfl λx4 _ m=>va (.agg (cH x4)) z9 rfl rfl (ve λu=>bG ([nZ 0,nZ 0,sZ]) u sV rfl rfl λk1631 K24=>qk K24 rfl (ve λu=>aL 0 (cH x4) u rfl rfl rfl rfl J7 rfl rfl λK25=>qk K25 rfl (v (vz [(1000000,some k1631,.obj 99 (cH x4)),(5,some k1523,.obj 38 (aI ({ Kind:=0,Id:=gY,Seq:=0,Of:=0,Off:=q3,Len:=20}:aE)))] mixed (λu=>⟨λ_=>aO 0 u rfl,λ_=>aO 1 u rfl,trivial⟩) λu=>zF 0 rfl yD rfl (zL 1 0 (nZ x4.Seq) rfl cB rfl rfl rfl (zF 2 rfl G0 rfl (zL 3 0 (nZ x4.Of) rfl cB rfl rfl rfl (zF 4 rfl mY rfl (zE 5 rfl (aL 1 (aI { ({ Kind:=0,Id:=gY,Seq:=0,Of:=0,Off:=q3,Len:=20}:aE) with Kind:=3}) u rfl rfl rfl rfl A2 rfl rfl λK26=>⟨⟨λ_=>aO 0 K26 rfl,λe=>absurd e (by decide),trivial⟩, ?_⟩))))))))))))))))
 refine zF 6 rfl lX rfl (zE 7 rfl (aL 1 (aI { { ({ Kind:=0,Id:=gY,Seq:=0,Of:=0,Off:=q3,Len:=20}:aE) with Kind:=3} with Seq:=x4.Seq}) K26 rfl rfl rfl rfl A2 rfl rfl λK27=>⟨⟨λ_=>aO 0 K27 rfl,λe=>absurd e (by decide),trivial⟩, ?_⟩))
 refine zF 8 rfl xV rfl (zE 9 rfl (aL 1 (aI { { { ({ Kind:=0,Id:=gY,Seq:=0,Of:=0,Off:=q3,Len:=20}:aE) with Kind:=3} with Seq:=x4.Seq} with Of:=x4.Of}) K27 rfl rfl rfl rfl A2 rfl rfl λK28=>⟨⟨λ_=>aO 0 K28 rfl,λe=>absurd e (by decide),trivial⟩, ?_⟩))
 exact zX (qk (f:=fq7 193 _ _ _ _ _ _ _ _) K28 rfl (zU m (mK [1,2,3,4,5] rfl rfl (.k8 .nil))))
 rintro _ j7 m
 exact MI m
 rintro _ j8 m
 refine v (vl 0 (.agg (aI j8)) CE rfl rfl rfl (bU (dX (map aI ([j8]:List aE)) lI rfl rfl rfl rfl) ?_))
 obtain⟨z1,Z3,m⟩:=aD m
 exact ve λu=>fC (c:=aI) 1 Z3 lI rfl rfl rfl t4 u rfl λtg5 t5 K29=>qk K29 rfl (eG m tg5 t5 (mK [1,2,3,4] rfl rfl (.k7 .nil)))
 rintro tg6 ⟨j9,j10⟩ t6 m
 exact v (eG m tg6 t6 (lx (.k7 .nil)))
 exact v (lR m tg4 t4 (lx (.k7 .nil)))
 rintro tg7 ⟨r2,r3,r4⟩ t7 m
 refine v (bU (eJ ([nZ 3,nZ 0,.sc (.string empty),sZ,sZ,sZ,nZ 0,nZ j0,ow tg7 37 (map aI r2)]) CH (by cases tg7<;>rfl)) (bU (u0 mC t7 rfl) (ve λu=>aL 1 ([nZ 3,nZ 0,.sc (.string empty),sZ,sZ,sZ,nZ 0,nZ j0,ow tg7 37 (map aI r2)]) u rfl rfl rfl (by repeat (first | exact rfl | refine cG (jO _ _ _) ?_ | refine cG (cC _ _ _) ?_ | refine cG (gK _ _ _ _) ?_ | refine cG rfl ?_)) yA rfl rfl λK30=>qk K30 rfl ?_)))
 refine v ?_
 cases m
 exact vr λu=>dW.of2 (.inl rfl) (sJ (.agg ([nZ 3,nZ 0,.sc (.string empty),sZ,sZ,sZ,nZ 0,nZ j0,ow tg7 37 (map aI r2)])) sS rfl (aW 1 u rfl) rfl) (gQ _ _ (.sc (.bool _)) rfl) (aU (nil_sublist _) u).1 (bD.agg (.k3 (.cons (a9 _) (.cons (a9 _) (.cons (a9 _) (.k2 (.cons ((dU _ 0 t7 u rfl)) .nil))))))) (bD.refl _ _) ⟨rfl,rfl⟩
 refine v (v ?_)
 apply vi m<;>intro c16 m
 refine v (bU (eJ ([nZ 4,nZ 0,.sc (.string empty),sZ,sZ,sZ,nZ 0,nZ j0,sZ]) CH rfl) (ve λu=>aL 0 ([nZ 4,nZ 0,.sc (.string empty),sZ,sZ,sZ,nZ 0,nZ j0,sZ]) u rfl rfl rfl rfl yA rfl rfl λK31=>qk K31 rfl (v ?_)))
 cases m
 exact vr λu=>dW.of2 (.inl rfl) (sJ (.agg ([nZ 4,nZ 0,.sc (.string empty),sZ,sZ,sZ,nZ 0,nZ j0,sZ])) sS rfl (aW 0 u rfl) rfl) (gQ _ _ (.sc (.bool _)) rfl) (aU (nil_sublist _) u).1 (bD.agg (.k3 (.cons (a9 _) (.cons (a9 _) (.cons (a9 _) (.k2 (.cons (a9 _) .nil))))))) (bD.refl _ _) ⟨rfl,rfl⟩
 refine v (v (bU (eJ ([nZ 5,nZ 0,.sc (.string empty),sZ,sZ,sZ,nZ 0,nZ j0,sZ]) CH rfl) (ve λu=>aL 0 ([nZ 5,nZ 0,.sc (.string empty),sZ,sZ,sZ,nZ 0,nZ j0,sZ]) u rfl rfl rfl rfl yA rfl rfl λK32=>qk K32 rfl (v ?_))))
 cases m
 exact vr λu=>dW.of2 (.inl rfl) (sJ (.agg ([nZ 5,nZ 0,.sc (.string empty),sZ,sZ,sZ,nZ 0,nZ j0,sZ])) sS rfl (aW 0 u rfl) rfl) (gQ _ _ (.sc (.bool _)) rfl) (aU (nil_sublist _) u).1 (bD.agg (.k3 (.cons (a9 _) (.cons (a9 _) (.cons (a9 _) (.k2 (.cons (a9 _) .nil))))))) (bD.refl _ _) ⟨rfl,rfl⟩
theorem aIL:aP prog 35=true:=by kernel_rfl
end Go.Proofs.YtbbifdfldpfphaaGreat
