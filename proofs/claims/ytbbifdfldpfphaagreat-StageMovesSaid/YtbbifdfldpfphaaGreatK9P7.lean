import Derived.Test.YtbbifdfldpfphaaGreatK9P4
import Derived.Test.YtbbifdfldpfphaaGreatK9P5
import Derived.Test.YtbbifdfldpfphaaGreatK9P6
import Derived.Test.YtbbifdfldpfphaaGreatK9P3
set_option linter.unusedSimpArgs false
set_option linter.unusedVariables false
set_option maxHeartbeats 4000000
set_option maxRecDepth 100000
open Bool(false_eq_true)
open ByteArray(empty)
open Go.Instr(findKey findNow)
open Int(ofNat_lt toNat_natCast)
open Go.IntKind(wrap)
open List(getElem?_eq_getElem getElem_drop getElem_of_mem length_drop map map_cons map_nil mem_filter nil_append nil_sublist replicate set_set)
open Nat(le_refl)
open Go.Oper(wp)
open Option(bind_some)
open Go.Result(andThen_ok)
open Go.Sem(run run_bind)
open Go.Proofs.Tryz(prog)
namespace Go.Proofs.YtbbifdfldpfphaaGreat
open Go.Vm
def uG (m:Nat) (p0:List aB) (p1:aB->Option Bool) (q0:Int):Option (Lp (Int) (Int)):=
 if decide (q0 < (p0.length:Int)) then ((ix p0 q0).bind λx0=>(p1 x0).bind λy0=>if y0 then Rk q0 else Gk (wrap .i64 (q0+1))) else Bk q0
def OT (m:Nat) (p0:List aB) (p1:aB->Option Bool):Option (Int):=
 after (aT (λs=>uG m p0 p1 s) m 0) λr0=>some (-1)
theorem aIO {w:Nat} {p0:List aB} {p1:aB->Option Bool} {o:Int} (h:aF) {g_p0:cY} (ok_p0:bJ g_p0 35 p0.length) (K0:bT h [(cD g_p0 p0)]) {p1F:Nat} {p1C:List AV} (p1B:aP prog p1F=true) (p1H:∀x0 o h0,iG h h0->p1 x0=some o->aM prog p1F ([.agg (aK x0)]++p1C) h0 (λr h'=>r= .sc (.bool o)/\h'=h0)) (m:OT w p0 p1=some o):
 aM prog 53 [aZ g_p0,.fn (.func p1F) p1C] (hp h [(cD g_p0 p0)]) (λr h'=>r=nZ o/\h'=hp h [(cD g_p0 p0)]):=by
 refine z9 K0 19 [.tmp 4] Tryz.func53 rfl rfl rfl rfl ?_
 unfold OT at m
 refine vs (v0 (vs (vs (v0 (bV (eC kY ok_p0 rfl) ?_)))))
 refine jT m (σ:=Int) (λs=>[(cD g_p0 p0)]) (λs=>.c 0 (aZ g_p0) (.c 1 (.fn (.func p1F) p1C) (.c 7 (nZ (p0.length:Int)) (.c 8 (nZ s) .nil)))) (lx (.k4 .nil)) ?_ ?_
 rintro _ q0 x m
 replace m:uG w p0 p1 q0=some x:=m
 unfold uG at m
 refine vs (v0 (vs (v0 ?_)))
 apply vi m<;>intro c0 m
 refine v0 (vs (v0 (vs (v0 (vs (v0 ?_))))))
 obtain⟨x1,X0,m⟩:=aC m
 refine bV (cQ X0 fZ ok_p0 rfl rfl) (vn (λu=>dX (fo:=0) (.agg (aK x1)) X0 cX ok_p0 nL rfl (aN 0 u rfl) (λ_=>rfl)) ?_)
 obtain⟨_,Y0,m⟩:=aC m
 refine vn (λu=>bW (p1H _ _ _ (aU (nil_sublist _) u).1 Y0) rfl p1B rfl) (v0 ?_)
 apply vi m<;>intro c1 m
 refine vs (v0 (v0 ?_))
 refine gM m λm=> ?_
 obtain rfl:=eT m
 exact vr λu=>dW.of1 (.inl rfl) (gK _ _ (.sc (.int _ _)) rfl) (bR u [0] rfl).2 (bD.refl _ _) ⟨rfl,rfl⟩
 refine v0 (v0 ?_)
 exact fV m
 refine v0 ?_
 exact u0 m
 rintro _ r0 m
 refine vs (v0 (v0 ?_))
 cases m
 exact vr λu=>dW.of1 (.inl rfl) (gK _ _ (.sc (.int _ _)) rfl) (bR u [0] rfl).2 (bD.refl _ _) ⟨rfl,rfl⟩
def qG (m:Nat) (p0:List aQ) (p1:aQ->Option Bool) (q0:Int):Option (Lp (Int) (Int)):=
 if decide (q0 < (p0.length:Int)) then ((ix p0 q0).bind λx0=>(p1 x0).bind λy0=>if y0 then Rk q0 else Gk (wrap .i64 (q0+1))) else Bk q0
def FP (m:Nat) (p0:List aQ) (p1:aQ->Option Bool):Option (Int):=
 after (aT (λs=>qG m p0 p1 s) m 0) λr0=>some (-1)
theorem aCV {w:Nat} {p0:List aQ} {p1:aQ->Option Bool} {o:Int} (h:aF) {g_p0:cY} (ok_p0:bJ g_p0 3 p0.length) (K0:bT h [(eW g_p0 p0)]) {p1F:Nat} {p1C:List AV} (p1B:aP prog p1F=true) (p1H:∀x0 o h0,iG h h0->p1 x0=some o->aM prog p1F ([.agg (cE x0)]++p1C) h0 (λr h'=>r= .sc (.bool o)/\h'=h0)) (m:FP w p0 p1=some o):
 aM prog 181 [aZ g_p0,.fn (.func p1F) p1C] (hp h [(eW g_p0 p0)]) (λr h'=>r=nZ o/\h'=hp h [(eW g_p0 p0)]):=by
 refine z9 K0 19 [.tmp 4] Tryz.func181 rfl rfl rfl rfl ?_
 unfold FP at m
 refine vs (v0 (vs (vs (v0 (bV (eC nK ok_p0 rfl) ?_)))))
 refine jT m (σ:=Int) (λs=>[(eW g_p0 p0)]) (λs=>.c 0 (aZ g_p0) (.c 1 (.fn (.func p1F) p1C) (.c 7 (nZ (p0.length:Int)) (.c 8 (nZ s) .nil)))) (lx (.k4 .nil)) ?_ ?_
 rintro _ q0 x m
 replace m:qG w p0 p1 q0=some x:=m
 unfold qG at m
 refine vs (v0 (vs (v0 ?_)))
 apply vi m<;>intro c0 m
 refine v0 (vs (v0 (vs (v0 (vs (v0 ?_))))))
 obtain⟨x1,X0,m⟩:=aC m
 refine bV (cQ X0 gU ok_p0 rfl rfl) (vn (λu=>dX (fo:=0) (.agg (cE x1)) X0 fN ok_p0 tD rfl (aN 0 u rfl) (λ_=>rfl)) ?_)
 obtain⟨_,Y0,m⟩:=aC m
 refine vn (λu=>bW (p1H _ _ _ (aU (nil_sublist _) u).1 Y0) rfl p1B rfl) (v0 ?_)
 apply vi m<;>intro c1 m
 refine vs (v0 (v0 ?_))
 refine gM m λm=> ?_
 obtain rfl:=eT m
 exact vr λu=>dW.of1 (.inl rfl) (gK _ _ (.sc (.int _ _)) rfl) (bR u [0] rfl).2 (bD.refl _ _) ⟨rfl,rfl⟩
 refine v0 (v0 ?_)
 exact fV m
 refine v0 ?_
 exact u0 m
 rintro _ r0 m
 refine vs (v0 (v0 ?_))
 cases m
 exact vr λu=>dW.of1 (.inl rfl) (gK _ _ (.sc (.int _ _)) rfl) (bR u [0] rfl).2 (bD.refl _ _) ⟨rfl,rfl⟩
theorem aCW:aP prog 181=true:=by kernel_rfl
def SO (m:Nat) (p0:aS) (c0:aW):Option (Bool):=
 some (p0.Vol==c0.Vol)
theorem aIP {w:Nat} {p0:aS} {c0:aW} {o:Bool} (h:aF) {c0K:bX} (c0H:h c0K=some (.obj 62 (aH c0))) (m:SO w p0 c0=some o):
 aM prog 127 [.agg (aO p0),.ptr c0K 0] h (λr h'=>r= .sc (.bool o)/\h'=h):=by
 refine fM 9 [.tmp 3] Tryz.func127 rfl rfl rfl rfl ?_
 unfold SO at m
 refine v ?_
 refine gX rfl rfl λk2 K3=> ?_
 refine v (vl 0 _ cG rfl rfl rfl (vn (λu=>gO (nZ c0.Vol) cG rfl (fX u c0H) rfl) (v ?_)))
 cases m
 exact eI rfl
theorem aCX:aP prog 127=true:=by kernel_rfl
def zG (m:Nat) (p0:List aS) (c0:aW):Option ((List aS)):=
 (KY m p0 (λx0=>SO m x0 c0)).bind λy3=>some y3
theorem OU {w:Nat} {p0:List aS} {c0:aW} {o:(List aS)} (h:aF) {g_p0:cY} (ok_p0:bJ g_p0 4 p0.length) (K0:bT h [fG g_p0 p0]) {c0K:bX} (c0H:h c0K=some (.obj 62 (aH c0))) (m:zG w p0 c0=some o):
 aM prog 126 [aZ g_p0,.ptr c0K 0] (hp h [fG g_p0 p0]) (λr h'=>∃g:cY,bJ g 4 o.length/\bT h [(g.t,.obj 81 (fl aO o g.sp))]/\r=aZ g/\h'=hp h [(g.t,.obj 81 (fl aO o g.sp))]):=by
 refine z9 K0 7 [.tmp 3] Tryz.func126 rfl rfl rfl rfl ?_
 unfold zG at m
 refine vs (v0 (vs (v0 ?_)))
 obtain⟨y3,Y4,m⟩:=aC m
 refine ve λu=>eA ((bB u [0] rfl rfl).1.trans (cM h [fG g_p0 p0] []).symm) (dD (aCA (hp h []) ok_p0 (cJ [fG g_p0 p0] [] (bB u [0] rfl rfl).2).2 aCX (λ_ o h0 hs ho=>aIP _ (hs _ _ (fX (cJ [fG g_p0 p0] [] (bB u [0] rfl rfl).2).1 c0H)) ho) Y4) rfl aCB rfl ?_)
 rintro x h' ⟨ag5,O6,K7,rfl,rfl⟩
 have K8:=bB (L':=[fG ag5 y3]) (cZ (cJ [fG g_p0 p0] [] (bB u [0] rfl rfl).2).1 K7) [0] rfl rfl
 refine qk K8.2 ((cM h [fG ag5 y3] []).trans K8.1) ?_
 refine v0 ?_
 obtain rfl:=eT m
 exact vr λu=>dW.one (.inl rfl) (aU (h0:=h) (L':=[fG ag5 y3]) (.refl _) u).1 (bD.refl _ _) ⟨ag5,O6,(aU (h0:=h) (L':=[fG ag5 y3]) (.refl _) u).2,rfl,rfl⟩
theorem OV:aP prog 126=true:=by kernel_rfl
def OW (m:Nat) (p0:aB):Option (Bool):=
 after (if (!p0.Staged)then (Bk ((p0.Locs.length:Int)==0)) else Bk false:Option (Lp (Bool) (Bool))) λj7=>some j7
theorem aIQ {u:Nat} {p0:aB} {o:Bool} (h:aF) (m:OW u p0=some o):
 aM prog 129 [.agg (aK p0)] h (λr h'=>r= .sc (.bool o)/\h'=h):=by
 refine fM 12 [.tmp 2] Tryz.func129 rfl rfl rfl rfl ?_
 unfold OW at m
 refine v ?_
 refine gX rfl rfl λk2 K3=> ?_
 refine vs ?_
 refine fP m (σ:=Bool) (λs=>[(some k2,.obj 44 (aK p0))]) (λs=>.c 2 (.sc (.bool s)) .nil) (λx m=> ?_) ?_
 refine v (vl 0 _ GH rfl rfl rfl ?_)
 apply vi m<;>intro b8 m
 rw[b8]
 refine vl 0 _ fO rfl rfl rfl (dI kC rfl ?_)
 exact nI m
 rw[b8]
 exact nI m
 rintro _ j7 m
 refine v ?_
 obtain rfl:=eT m
 exact eI rfl
theorem aCY:aP prog 129=true:=by kernel_rfl
def oJ (m:Nat) (p1:aB->Option Bool) (q0:List aB) (q1:Int) (q2:Int):Option (Lp ((List aB)×Int×Int) ((List aB))):=
 if decide (q2 < (q0.length:Int)) then ((ix q0 q2).bind λx0=>(p1 x0).bind λy0=>after (if (!y0)then ((ix q0 q1).bind λ_=>Bk (q0.set q1.toNat (x0),wrap .i64 (q1+1))) else Bk (q0,q1):Option (Lp ((List aB)×Int) (Lp ((List aB)×Int×Int) ((List aB))))) λ⟨j0,j1⟩=>Gk (j0,j1,wrap .i64 (q2+1))) else Bk (q0,q1,q2)
def FQ (m:Nat) (p0:List aB) (p1:aB->Option Bool):Option ((List aB)):=
 (OT m p0 p1).bind λy3=>if (y3==(-1))then (some p0) else after (aT (λs=>oJ m p1 s.1 s.2.1 s.2.2) m (p0,y3,wrap .i64 (y3+1))) λ⟨r0,r1,r2⟩=>grd (decide (0<=r1) && decide (r1 < (r0.length:Int))) <| grd (decide (0<=r1) && decide (r1<=(r0.length:Int))) <| some (r0.take r1.toNat)
theorem aCZ {w:Nat} {p0:List aB} {p1:aB->Option Bool} {o:(List aB)} (h:aF) {g_p0:cY} (ok_p0:bJ g_p0 35 p0.length) (K0:bT h [(cD g_p0 p0)]) {p1F:Nat} {p1C:List AV} (p1B:aP prog p1F=true) (p1H:∀x0 o h0,iG h h0->p1 x0=some o->aM prog p1F ([.agg (aK x0)]++p1C) h0 (λr h'=>r= .sc (.bool o)/\h'=h0)) (m:FQ w p0 p1=some o):
 aM prog 128 [aZ g_p0,.fn (.func p1F) p1C] (hp h [(cD g_p0 p0)]) (λr h'=>∃g:cY,bJ g 35 o.length/\bT h [(g.t,.obj 44 (fl aK o g.sp))]/\r=aZ g/\h'=hp h [(g.t,.obj 44 (fl aK o g.sp))]):=by
 refine z9 K0 42 [.tmp 4] Tryz.func128 rfl rfl rfl rfl ?_
 unfold FQ at m
 refine vs (v0 (vs (v0 ?_)))
 obtain⟨_,Y4,m⟩:=aC m
 refine ve λu=>eA ((bB u [0] rfl rfl).1.trans (cM h [(cD g_p0 p0)] []).symm) (dD (aIO (hp h []) ok_p0 (cJ [(cD g_p0 p0)] [] (bB u [0] rfl rfl).2).2 p1B (λx0 o h0 hs ho=>p1H x0 o h0 ((aU (nil_sublist _) (cJ [(cD g_p0 p0)] [] (bB u [0] rfl rfl).2).1).1.trans hs) ho) Y4) rfl aBS rfl ?_)
 rintro x h' ⟨rfl,rfl⟩
 refine qk u ((cM h [(cD g_p0 p0)] []).trans (bB u [0] rfl rfl).1.symm) ?_
 refine vs (vs (v0 (v0 ?_)))
 apply vi m<;>intro c7 m
 refine vs (v0 (v0 ?_))
 obtain rfl:=eT m
 exact vr λu=>dW.one (.inl rfl) (aU (h0:=h) (L':=[(cD g_p0 p0)]) (.refl _) u).1 (bD.refl _ _) ⟨g_p0,ok_p0,(aU (h0:=h) (L':=[(cD g_p0 p0)]) (.refl _) u).2,rfl,rfl⟩
 refine v0 (vs (vs (v0 ?_)))
 refine nE m (σ:=(List aB)×Int×Int) (τ:=cY) (λg s=>[(cD g s.1)]) (λg s=>bJ g 35 (s.1:List aB).length) (λg s=>.c 0 (aZ g) (.c 1 (.fn (.func p1F) p1C) (.c 5 (nZ s.2.1) (.c 6 (nZ s.2.2) .nil)))) g_p0 ok_p0 (lx (.k4 .nil)) ?_ ?_
 rintro ag0 ⟨q0,q1,q2⟩ x O0 m
 replace m:oJ w p1 q0 q1 q2=some x:=m
 unfold oJ at m
 refine vs (vs (v0 (bV (eC kY O0 rfl) (v0 ?_))))
 apply vi m<;>intro c0 m
 refine v0 (vs (v0 (vs (v0 ?_))))
 obtain⟨x1,X0,m⟩:=aC m
 refine bV (cQ X0 fZ O0 rfl rfl) (vn (λu=>dX (fo:=0) (.agg (aK x1)) X0 cX O0 nL rfl (aN 0 u rfl) (λ_=>rfl)) ?_)
 refine ve λu=>bE (bF iC++(Q4:List AV)) u pO rfl rfl λk86 K1=>qk K1 rfl ?_
 refine ve λu=>aL 0 (aK x1) u rfl rfl rfl rfl AF rfl rfl λK2=>qk K2 rfl ?_
 refine vs (v0 (vl 0 (.agg (aK x1)) nL rfl rfl rfl ?_))
 obtain⟨_,Y0,m⟩:=aC m
 refine vn (λu=>bW (p1H _ _ _ (aU (nil_sublist _) u).1 Y0) rfl p1B rfl) ?_
 refine oA m (σ:=(List aB)×Int) (τ:=cY) (λg s=>[(some k86,.obj 44 (aK x1)),(cD g s.1)]) (λg s=>bJ g 35 (s.1:List aB).length) (λg s=>.c 0 (aZ g) (.c 1 (.fn (.func p1F) p1C) (.c 5 (nZ s.2) (.c 6 (nZ q2) .nil)))) (λx m=> ?_) ?_
 refine v0 ?_
 apply vi m<;>intro c1 m
 refine vs (v0 (vl 0 (.agg (aK x1)) nL rfl rfl rfl ?_))
 obtain⟨_,X1,m⟩:=aC m
 refine bV (cQ X1 fZ O0 rfl rfl) ?_
 refine ve λu=>cO (fo:=0) (x1:aB) 1 u X1 cX O0 rfl rfl rfl rfl (cW.refl _ _) AF rfl rfl λK3=>qk K3 rfl ?_
 refine v0 ?_
 exact eF m ag0 (bJ.set O0) (lx (.k4 .nil))
 refine v0 ?_
 exact eF m ag0 O0 (lx (.k4 .nil))
 rintro ag1 ⟨j0,j1⟩ O1 m
 refine v0 ?_
 exact eF m ag1 O1 (mG [1] rfl rfl (.k4 .nil))
 refine v0 ?_
 exact lF m ag0 O0 (lx (.k4 .nil))
 rintro ag2 ⟨r0,r1,r2⟩ t0 m
 refine vs (v0 ?_)
 obtain⟨Z0,m⟩:=l6 m
 refine bV (CS Z0 fZ t0 rfl rfl) ?_
 refine ve λu=>IS 0 u Z0 cX t0 u26 pO rfl rfl rfl rfl λsp0 O2 K4=>qk K4 rfl ?_
 refine vs (v0 ?_)
 obtain⟨Z1,m⟩:=l6 m
 refine bV (CT Z1 t0 fZ rfl rfl) (v0 ?_)
 cases m
 exact vr λu=>dW.one (.inl rfl) (aU (h0:=h) (L':=[((⟨ag2.t,r1.toNat,ag2.cap,sp0⟩:cY).t,.obj 44 (fl aK (r0.take r1.toNat:List aB) (⟨ag2.t,r1.toNat,ag2.cap,sp0⟩:cY).sp))]) (.refl _) u).1 (bD.refl _ _) ⟨(⟨ag2.t,r1.toNat,ag2.cap,sp0⟩:cY),O2,(aU (h0:=h) (L':=[((⟨ag2.t,r1.toNat,ag2.cap,sp0⟩:cY).t,.obj 44 (fl aK (r0.take r1.toNat:List aB) (⟨ag2.t,r1.toNat,ag2.cap,sp0⟩:cY).sp))]) (.refl _) u).2,rfl,rfl⟩
theorem aC0:aP prog 128=true:=by kernel_rfl
def SP (m:Nat) (p0:aQ):Option (Bool):=
 some ((p0.Locs.length:Int)==0)
theorem aIR {u:Nat} {p0:aQ} {o:Bool} (h:aF) (m:SP u p0=some o):
 aM prog 131 [.agg (cE p0)] h (λr h'=>r= .sc (.bool o)/\h'=h):=by
 refine fM 7 [.tmp 2] Tryz.func131 rfl rfl rfl rfl ?_
 unfold SP at m
 refine v ?_
 refine gX rfl rfl λk2 K3=> ?_
 refine v (vl 0 _ fO rfl rfl rfl (dI kC rfl (v ?_)))
 cases m
 exact eI rfl
theorem aC1:aP prog 131=true:=by kernel_rfl
def oK (m:Nat) (p1:aQ->Option Bool) (q0:List aQ) (q1:Int) (q2:Int):Option (Lp ((List aQ)×Int×Int) ((List aQ))):=
 if decide (q2 < (q0.length:Int)) then ((ix q0 q2).bind λx0=>(p1 x0).bind λy0=>after (if (!y0)then ((ix q0 q1).bind λ_=>Bk (q0.set q1.toNat (x0),wrap .i64 (q1+1))) else Bk (q0,q1):Option (Lp ((List aQ)×Int) (Lp ((List aQ)×Int×Int) ((List aQ))))) λ⟨j0,j1⟩=>Gk (j0,j1,wrap .i64 (q2+1))) else Bk (q0,q1,q2)
def Fq (m:Nat) (p0:List aQ) (p1:aQ->Option Bool):Option ((List aQ)):=
 (FP m p0 p1).bind λy3=>if (y3==(-1))then (some p0) else after (aT (λs=>oK m p1 s.1 s.2.1 s.2.2) m (p0,y3,wrap .i64 (y3+1))) λ⟨r0,r1,r2⟩=>grd (decide (0<=r1) && decide (r1 < (r0.length:Int))) <| grd (decide (0<=r1) && decide (r1<=(r0.length:Int))) <| some (r0.take r1.toNat)
theorem aC2 {w:Nat} {p0:List aQ} {p1:aQ->Option Bool} {o:(List aQ)} (h:aF) {g_p0:cY} (ok_p0:bJ g_p0 3 p0.length) (K0:bT h [(eW g_p0 p0)]) {p1F:Nat} {p1C:List AV} (p1B:aP prog p1F=true) (p1H:∀x0 o h0,iG h h0->p1 x0=some o->aM prog p1F ([.agg (cE x0)]++p1C) h0 (λr h'=>r= .sc (.bool o)/\h'=h0)) (m:Fq w p0 p1=some o):
 aM prog 130 [aZ g_p0,.fn (.func p1F) p1C] (hp h [(eW g_p0 p0)]) (λr h'=>∃g:cY,bJ g 3 o.length/\bT h [(g.t,.obj 99 (fl cE o g.sp))]/\r=aZ g/\h'=hp h [(g.t,.obj 99 (fl cE o g.sp))]):=by
 refine z9 K0 42 [.tmp 4] Tryz.func130 rfl rfl rfl rfl ?_
 unfold Fq at m
 refine vs (v0 (vs (v0 ?_)))
 obtain⟨_,Y4,m⟩:=aC m
 refine ve λu=>eA ((bB u [0] rfl rfl).1.trans (cM h [(eW g_p0 p0)] []).symm) (dD (aCV (hp h []) ok_p0 (cJ [(eW g_p0 p0)] [] (bB u [0] rfl rfl).2).2 p1B (λx0 o h0 hs ho=>p1H x0 o h0 ((aU (nil_sublist _) (cJ [(eW g_p0 p0)] [] (bB u [0] rfl rfl).2).1).1.trans hs) ho) Y4) rfl aCW rfl ?_)
 rintro x h' ⟨rfl,rfl⟩
 refine qk u ((cM h [(eW g_p0 p0)] []).trans (bB u [0] rfl rfl).1.symm) ?_
 refine vs (vs (v0 (v0 ?_)))
 apply vi m<;>intro c7 m
 refine vs (v0 (v0 ?_))
 obtain rfl:=eT m
 exact vr λu=>dW.one (.inl rfl) (aU (h0:=h) (L':=[(eW g_p0 p0)]) (.refl _) u).1 (bD.refl _ _) ⟨g_p0,ok_p0,(aU (h0:=h) (L':=[(eW g_p0 p0)]) (.refl _) u).2,rfl,rfl⟩
 refine v0 (vs (vs (v0 ?_)))
 refine nE m (σ:=(List aQ)×Int×Int) (τ:=cY) (λg s=>[(eW g s.1)]) (λg s=>bJ g 3 (s.1:List aQ).length) (λg s=>.c 0 (aZ g) (.c 1 (.fn (.func p1F) p1C) (.c 5 (nZ s.2.1) (.c 6 (nZ s.2.2) .nil)))) g_p0 ok_p0 (lx (.k4 .nil)) ?_ ?_
 rintro ag0 ⟨q0,q1,q2⟩ x O0 m
 replace m:oK w p1 q0 q1 q2=some x:=m
 unfold oK at m
 refine vs (vs (v0 (bV (eC nK O0 rfl) (v0 ?_))))
 apply vi m<;>intro c0 m
 refine v0 (vs (v0 (vs (v0 ?_))))
 obtain⟨x1,X0,m⟩:=aC m
 refine bV (cQ X0 gU O0 rfl rfl) (vn (λu=>dX (fo:=0) (.agg (cE x1)) X0 fN O0 tD rfl (aN 0 u rfl) (λ_=>rfl)) ?_)
 refine ve λu=>bE ([nZ 0,nZ 0,sZ]) u qW rfl rfl λk86 K1=>qk K1 rfl ?_
 refine ve λu=>aL 0 (cE x1) u rfl rfl rfl rfl EY rfl rfl λK2=>qk K2 rfl ?_
 refine vs (v0 (vl 0 (.agg (cE x1)) tD rfl rfl rfl ?_))
 obtain⟨_,Y0,m⟩:=aC m
 refine vn (λu=>bW (p1H _ _ _ (aU (nil_sublist _) u).1 Y0) rfl p1B rfl) ?_
 refine oA m (σ:=(List aQ)×Int) (τ:=cY) (λg s=>[(some k86,.obj 99 (cE x1)),(eW g s.1)]) (λg s=>bJ g 3 (s.1:List aQ).length) (λg s=>.c 0 (aZ g) (.c 1 (.fn (.func p1F) p1C) (.c 5 (nZ s.2) (.c 6 (nZ q2) .nil)))) (λx m=> ?_) ?_
 refine v0 ?_
 apply vi m<;>intro c1 m
 refine vs (v0 (vl 0 (.agg (cE x1)) tD rfl rfl rfl ?_))
 obtain⟨_,X1,m⟩:=aC m
 refine bV (cQ X1 gU O0 rfl rfl) ?_
 refine ve λu=>cO (fo:=0) (x1:aQ) 1 u X1 fN O0 rfl rfl rfl rfl (cW.refl _ _) EY rfl rfl λK3=>qk K3 rfl ?_
 refine v0 ?_
 exact eF m ag0 (bJ.set O0) (lx (.k4 .nil))
 refine v0 ?_
 exact eF m ag0 O0 (lx (.k4 .nil))
 rintro ag1 ⟨j0,j1⟩ O1 m
 refine v0 ?_
 exact eF m ag1 O1 (mG [1] rfl rfl (.k4 .nil))
 refine v0 ?_
 exact lF m ag0 O0 (lx (.k4 .nil))
 rintro ag2 ⟨r0,r1,r2⟩ t0 m
 refine vs (v0 ?_)
 obtain⟨Z0,m⟩:=l6 m
 refine bV (CS Z0 gU t0 rfl rfl) ?_
 refine ve λu=>IS 0 u Z0 fN t0 u27 qW rfl rfl rfl rfl λsp0 O2 K4=>qk K4 rfl ?_
 refine vs (v0 ?_)
 obtain⟨Z1,m⟩:=l6 m
 refine bV (CT Z1 t0 gU rfl rfl) (v0 ?_)
 cases m
 exact vr λu=>dW.one (.inl rfl) (aU (h0:=h) (L':=[((⟨ag2.t,r1.toNat,ag2.cap,sp0⟩:cY).t,.obj 99 (fl cE (r0.take r1.toNat:List aQ) (⟨ag2.t,r1.toNat,ag2.cap,sp0⟩:cY).sp))]) (.refl _) u).1 (bD.refl _ _) ⟨(⟨ag2.t,r1.toNat,ag2.cap,sp0⟩:cY),O2,(aU (h0:=h) (L':=[((⟨ag2.t,r1.toNat,ag2.cap,sp0⟩:cY).t,.obj 99 (fl cE (r0.take r1.toNat:List aQ) (⟨ag2.t,r1.toNat,ag2.cap,sp0⟩:cY).sp))]) (.refl _) u).2,rfl,rfl⟩
theorem aC3:aP prog 130=true:=by kernel_rfl
def zH (m:Nat) (p0:aA) (p1:aW) (q0:List aI) (q1:Int):Option (Lp ((List aI)×Int) (Int×fD)):=
 if decide (q1 < (p0.Snaps.length:Int)) then ((ix q0 q1).bind λx0=>(zG m x0.Locs p1).bind λy0=>(ix q0 q1).bind λx1=>Gk (q0.set q1.toNat ({ x1 with Locs:=y0}),wrap .i64 (q1+1))) else Bk (q0,q1)
def zJ (m:Nat) (p0:aA) (p1:aW) (q0:List aB) (q1:Int):Option (Lp ((List aB)×Int) (Int×fD)):=
 if decide (q1 < (p0.Chunks.length:Int)) then ((ix q0 q1).bind λx0=>(zG m x0.Locs p1).bind λy0=>(ix q0 q1).bind λx1=>Gk (q0.set q1.toNat ({ x1 with Locs:=y0}),wrap .i64 (q1+1))) else Bk (q0,q1)
def zK (m:Nat) (p0:aA) (p1:aW) (q0:List aQ) (q1:Int):Option (Lp ((List aQ)×Int) (Int×fD)):=
 if decide (q1 < (p0.Exps.length:Int)) then ((ix q0 q1).bind λx0=>(zG m x0.Locs p1).bind λy0=>(ix q0 q1).bind λx1=>Gk (q0.set q1.toNat ({ x1 with Locs:=y0}),wrap .i64 (q1+1))) else Bk (q0,q1)
def ZB (m:Nat) (p0:aA) (p1:aW):Option (Int×fD):=
 after (if decide (p1.Vol < 0) then Bk true else if decide ((p0.Vols.length:Int)<=p1.Vol) then Bk true else (ix p0.Vols p1.Vol).bind λx1=>Bk (x1.State !=2):Option (Lp (Bool) (Int×fD))) λj0=>if j0 then (some (1,p0.Snaps,p0.Chunks,p0.Exps,p0.Vols)) else (ix p0.Vols p1.Vol).bind λx2=>(ix (p0.Vols.set p1.Vol.toNat ({ x2 with State:=3})) p1.Vol).bind λx3=>after (aT (λs=>zH m p0 p1 s.1 s.2) m (p0.Snaps,0)) λ⟨r0,r1⟩=>after (aT (λs=>zJ m p0 p1 s.1 s.2) m (p0.Chunks,0)) λ⟨r2,r3⟩=>after (aT (λs=>zK m p0 p1 s.1 s.2) m (p0.Exps,0)) λ⟨r4,r5⟩=>(FQ m r2 (λx0=>OW m x0)).bind λy0=>(Fq m r4 (λx0=>SP m x0)).bind λy1=>some (0,r0,y0,y1,(p0.Vols.set p1.Vol.toNat ({ x2 with State:=3})).set p1.Vol.toNat ({ x3 with Files:=0}))
theorem W75 {w:Nat} {p0:aA} {p1:aW} {o:Int×fD} (h:aF) {p0K:bX} {gS:dC} (ok_Snaps:mH aI.Locs 4 4 gS (p0.Snaps:List aI)) {gC:dC} (oC:mH aB.Locs 35 4 gC (p0.Chunks:List aB)) {gE:dC} (oE:mH aQ.Locs 3 4 gE (p0.Exps:List aQ)) {gV:cY} (oV:bJ gV 4 p0.Vols.length) (K0:bT h ([OC p0K p0.Seq gS.a gC.a gE.a gV,bH gS p0.Snaps,aX gC p0.Chunks,bM gE p0.Exps,aV gV p0.Vols]++((bL gS p0.Snaps)++((aY gC p0.Chunks)++(bN gE p0.Exps))))) (m:ZB w p0 p1=some o):
 aM prog 75 [.ptr p0K 0,.agg (aH p1)] (hp h ([OC p0K p0.Seq gS.a gC.a gE.a gV,bH gS p0.Snaps,aX gC p0.Chunks,bM gE p0.Exps,aV gV p0.Vols]++((bL gS p0.Snaps)++((aY gC p0.Chunks)++(bN gE p0.Exps))))) (λr h'=>∃g_Snaps':cY,bJ g_Snaps' 4 (o.2.1:List aI).length/\∃g_Chunks':cY,bJ g_Chunks' 35 (o.2.2.1:List aB).length/\∃g_Exps':cY,bJ g_Exps' 3 (o.2.2.2.1:List aQ).length/\∃g_Vols':cY,bJ g_Vols' 4 (o.2.2.2.2:List aR).length/\bT h [OC p0K p0.Seq g_Snaps' g_Chunks' g_Exps' g_Vols',bU g_Snaps' o.2.1,bO g_Chunks' o.2.2.1,dE g_Exps' o.2.2.2.1,aV g_Vols' o.2.2.2.2]/\r=nZ o.1/\h'=hp h [OC p0K p0.Seq g_Snaps' g_Chunks' g_Exps' g_Vols',bU g_Snaps' o.2.1,bO g_Chunks' o.2.2.1,dE g_Exps' o.2.2.2.1,aV g_Vols' o.2.2.2.2]):=by
 refine z9 K0 145 [.tmp 4] Tryz.func75 rfl rfl rfl rfl ?_
 unfold ZB at m
 refine vs (v0 ?_)
 refine gX rfl rfl λk2 K3=> ?_
 refine vs (vs ?_)
 refine fP m (σ:=Bool) (λs=>([(some k2,.obj 62 (aH p1)),OC p0K p0.Seq gS.a gC.a gE.a gV,bH gS p0.Snaps,aX gC p0.Chunks,bM gE p0.Exps,aV gV p0.Vols]++((bL gS p0.Snaps)++((aY gC p0.Chunks)++(bN gE p0.Exps))))) (λs=>.c 0 (.ptr p0K 0) (.c 3 (.ptr k2 0) (.c 33 (.sc (.bool s)) .nil))) (λx m=> ?_) ?_
 refine v0 (BL (by kernel_rfl) (dY gJ rfl rfl (vl 0 _ cG rfl rfl rfl ?_)))
 apply vi m<;>intro b0 m
 rw[b0]
 exact hX m
 rw[b0]
 refine dY gJ rfl rfl (vl 0 _ cG rfl rfl rfl (kX rfl (dY gW rfl rfl (vl 1 (aZ gV) gH rfl rfl rfl (bV (eC pM oV rfl) ?_)))))
 apply vi m<;>intro b1 m
 rw[b1]
 exact hX m
 rw[b1]
 refine kX rfl (dY gW rfl rfl (vl 1 (aZ gV) gH rfl rfl rfl (dY gJ rfl rfl (vl 0 _ cG rfl rfl rfl ?_))))
 obtain⟨x1,X0,m⟩:=aC m
 refine bV (cQ X0 kZ oV rfl rfl) (bV (cV (bJ.ne oV X0) oU rfl rfl) (vn (λu=>dX (fo:=2) (nZ x1.State) X0 eR oV cG rfl (aN 5 u rfl) (λ_=>rfl)) ?_))
 exact hX m
 rintro _ j0 m
 refine v0 ?_
 apply vi m<;>intro c0 m
 refine vs (v0 (v0 ?_))
 cases m
 refine C5 (D4 (L':=([(some k2,.obj 62 (aH p1)),OC p0K p0.Seq gS.a gC.a gE.a gV,bU gS.a p0.Snaps,aX gC p0.Chunks,bM gE p0.Exps,aV gV p0.Vols]++((aY gC p0.Chunks)++(bN gE p0.Exps)))) [[_],[_],[_],[_],[_],[_],_,_,_] rfl 2 6 eL qU ok_Snaps.k rfl rfl (by decide) rfl) ?_
 refine C5 (D4 (L':=([(some k2,.obj 62 (aH p1)),OC p0K p0.Seq gS.a gC.a gE.a gV,bU gS.a p0.Snaps,bO gC.a p0.Chunks,bM gE p0.Exps,aV gV p0.Vols]++(bN gE p0.Exps))) [[_],[_],[_],[_],[_],[_],_,_] rfl 3 6 eL oH oC.k rfl rfl (by decide) rfl) ?_
 refine C5 (D4 (L':=[(some k2,.obj 62 (aH p1)),OC p0K p0.Seq gS.a gC.a gE.a gV,bU gS.a p0.Snaps,bO gC.a p0.Chunks,dE gE.a p0.Exps,aV gV p0.Vols]) [[_],[_],[_],[_],[_],[_],_] rfl 4 6 eL wA oE.k rfl rfl (by decide) rfl) ?_
 exact vr λu=>dW.of1 (.inl rfl) (gK _ _ (.sc (.int _ _)) rfl) (bR u [1,2,3,4,5] rfl).2 (bD.refl _ _) ⟨gS.a,ok_Snaps.k.a,gC.a,oC.k.a,gE.a,oE.k.a,gV,oV,(bR u [1,2,3,4,5] rfl).1,rfl,rfl⟩
 refine v0 (vs (v0 ?_))
 refine vz [(1000000,some p0K,.obj 30 ([nZ p0.Seq,aZ gS.a,aZ gC.a,aZ gE.a,aZ gV])),(1000000,some k2,.obj 62 (aH p1))] mixed (λu=>⟨λ_=>aN 1 u rfl,λ_=>aN 0 u rfl,trivial⟩) λu=> ?_
 refine zP 0 rfl rfl ?_
 refine zN 1 rfl rfl ?_
 refine zF 2 rfl gW rfl ?_
 refine zL 3 0 (aZ gV) rfl gH rfl rfl rfl ?_
 refine zF 4 rfl gJ rfl ?_
 refine zL 5 1 (nZ p1.Vol) rfl cG rfl rfl rfl ?_
 refine zP 6 rfl rfl ?_
 refine zN 7 rfl rfl ?_
 refine zF 8 rfl gW rfl ?_
 refine zL 9 0 (aZ gV) rfl gH rfl rfl rfl ?_
 refine zF 10 rfl gJ rfl ?_
 refine zL 11 1 (nZ p1.Vol) rfl cG rfl rfl rfl ?_
 obtain⟨x2,X1,m⟩:=aC m
 refine zC 12 rfl (cQ X1 kZ oV rfl rfl) ?_
 refine zC 13 rfl (cV (bJ.ne oV X1) oU rfl rfl) ?_
 refine zE 14 rfl (cO (fo:=2) ({ x2 with State:=3}:aR) 5 u X1 eR oV rfl rfl rfl rfl (cW.refl _ _) AA rfl rfl λK1=>⟨⟨λ_=>aN 1 K1 rfl,λ_=>aN 0 K1 rfl,trivial⟩, ?_⟩)
 obtain⟨x3,X2,m⟩:=aC m
 refine zC 15 rfl (cQ X2 kZ (bJ.set oV) rfl rfl) ?_
 refine zC 16 rfl (cV (bJ.ne (bJ.set oV) X2) p4 rfl rfl) ?_
 refine zE 17 rfl (cO (fo:=3) ({ x3 with Files:=0}:aR) 5 K1 X2 eR (bJ.set oV) rfl rfl rfl rfl (cW.refl _ _) AA rfl rfl λK2=>⟨⟨λ_=>aN 1 K2 rfl,λ_=>aN 0 K2 rfl,trivial⟩, ?_⟩)
 refine zX (qk (f:=MX 49 _ _ _ _ _ _ _ _ _ _ _ _ _ _ _ _ _) K2 rfl ?_)
 refine vs (v0 (vs (vs (v0 (kX rfl (dY eG rfl rfl (vl 1 (aZ gS.a) fE rfl rfl rfl (bV (eC kN ok_Snaps.k.a rfl) ?_))))))))
 refine nE m (σ:=(List aI)×Int) (τ:=dC) (λg s=>([(some k2,.obj 62 (aH p1)),OC p0K p0.Seq g.a gC.a gE.a gV,bH g s.1,aX gC p0.Chunks,bM gE p0.Exps,aV gV ((p0.Vols.set p1.Vol.toNat ({ x2 with State:=3})).set p1.Vol.toNat ({ x3 with Files:=0}))]++((bL g s.1)++((aY gC p0.Chunks)++(bN gE p0.Exps))))) (λg s=>mH aI.Locs 4 4 g (s.1:List aI)) (λg s=>.c 0 (.ptr p0K 0) (.c 5 (.fn (.func 126) [.ptr k2 0]) (.c 55 (nZ (p0.Snaps.length:Int)) (.c 56 (nZ s.2) .nil)))) gS ok_Snaps (lx (.k4 .nil)) ?_ ?_
 rintro ng0 ⟨q0,q1⟩ x O0 m
 replace m:zH w p0 p1 q0 q1=some x:=m
 unfold zH at m
 refine vs (v0 (vs (v0 ?_)))
 apply vi m<;>intro c1 m
 refine v0 (vs (v0 (vs (v0 (v0 ?_)))))
 refine vz [(1000000,some p0K,.obj 30 ([nZ p0.Seq,aZ ng0.a,aZ gC.a,aZ gE.a,aZ gV])),(17,ng0.a.t,.obj 60 (fl lA (zg (q0:List aI) ng0.gs) ng0.a.sp))] mixed (λu=>⟨λ_=>aN 1 u rfl,λ_=>aN 2 u rfl,trivial⟩) λu=> ?_
 refine zP 0 rfl rfl ?_
 refine zN 1 rfl rfl ?_
 refine zF 2 rfl eG rfl ?_
 refine zL 3 0 (aZ ng0.a) rfl fE rfl rfl rfl ?_
 refine zI 4 rfl rfl ?_
 refine zC 5 rfl (fC (.fn _ _) rfl) ?_
 refine zP 6 rfl rfl ?_
 refine zN 7 rfl rfl ?_
 refine zF 8 rfl eG rfl ?_
 refine zL 9 0 (aZ ng0.a) rfl fE rfl rfl rfl ?_
 refine zI 10 rfl rfl ?_
 obtain⟨x4,X3,m⟩:=aC m
 refine zC 11 rfl (cQ (O0.k.ix X3) jG O0.k.z rfl rfl) ?_
 refine zC 12 rfl (cV (bJ.ne O0.k.z (O0.k.ix X3)) kJ rfl rfl) ?_
 obtain⟨gv0,hg0,ga0,gn0⟩:=O0.gx X3
 refine w6 13 rfl (λ_ _ hi hB=>gR (dX (fo:=3) (awO aO 4 (gx ng0.gs q1.toNat) x4.Locs) (O0.k.ix X3) lB O0.k.z fO rfl (fS.get 1 hi rfl (hB 17 (by kernel_rfl))) (λ_=>rfl)) (bD.of_eq (congrArg (λz=>awO aO 4 z x4.Locs) hg0))) ?_
 obtain⟨y0,Y0,m⟩:=aC m
 refine zE 14 rfl ?_
 have ho0:=qT (R:=([(some k2,.obj 62 (aH p1)),OC p0K p0.Seq ng0.a gC.a gE.a gV,bH ng0 q0,aX gC p0.Chunks,bM gE p0.Exps,aV gV ((p0.Vols.set p1.Vol.toNat ({ x2 with State:=3})).set p1.Vol.toNat ({ x3 with Files:=0}))]++((kP 81 aO ((nl aI.Locs (zg (q0:List aI) ng0.gs)).eraseIdx q1.toNat))++((aY gC p0.Chunks)++(bN gE p0.Exps))))) u [[_],[_],[_],[_],[_],[_],_,_,_] rfl 6 rfl gn0 rfl
 have ho1:=cJ [(dO gv0 x4.Locs)] _ ho0.2
 refine eA (ho0.1.trans (cM h [(dO gv0 x4.Locs)] _).symm) (dD (OU _ ga0 ho1.2 (a9 0 ho1.1 rfl) Y0) rfl OV rfl ?_)
 rintro x h' ⟨ag0,O1,K4,rfl,rfl⟩
 refine nH (cM h [fG ag0 y0] _) ?_
 refine⟨⟨λ_=>aN 2 (cZ ho1.1 K4) rfl,λ_=>aN 3 (cZ ho1.1 K4) rfl,trivial⟩, ?_⟩
 obtain⟨x5,X4,m⟩:=aC m
 refine zC 15 rfl (cQ (O0.k.ix X4) jG O0.k.z rfl rfl) ?_
 refine zC 16 rfl (cV (bJ.ne O0.k.z (O0.k.ix X4)) kJ rfl rfl) ?_
 refine zE 17 rfl (cO (fo:=3) (x':=(({ x5 with Locs:=y0}:aI),some ag0)) 3 (cZ ho1.1 K4) (O0.k.ix X4) lB O0.k.z rfl rfl (cH rfl) (cI (bZ _ _ _) rfl) (cW.refl _ _) oD rfl rfl ?_)
 intro K5
 have O2:=O0.setL (x':=({ x5 with Locs:=y0}:aI)) X4 ag0 O1
 have hr0:=uA (L':=(dO ag0 y0)::(([(some k2,.obj 62 (aH p1)),OC p0K p0.Seq ng0.a gC.a gE.a gV,(ng0.a.t,.obj 60 (fl lA (((zg (q0:List aI) ng0.gs)).set q1.toNat (({ x5 with Locs:=y0}:aI),some ag0)) ng0.a.sp)),aX gC p0.Chunks,bM gE p0.Exps,aV gV ((p0.Vols.set p1.Vol.toNat ({ x2 with State:=3})).set p1.Vol.toNat ({ x3 with Files:=0}))]:HL)++((kP 81 aO ((nl aI.Locs (zg (q0:List aI) ng0.gs)).eraseIdx q1.toNat))++((aY gC p0.Chunks)++(bN gE p0.Exps))))) K5 [[_],[_],[_],[_],[_],[_],[_],_,_,_] rfl [0,1,2,3,4,5,6,7,8,9] rfl rfl
 have hj0:=o7 (L':=([(some k2,.obj 62 (aH p1)),OC p0K p0.Seq ((⟨ng0.a,ng0.gs.set q1.toNat (some ag0)⟩:dC).a) gC.a gE.a gV,bH (⟨ng0.a,ng0.gs.set q1.toNat (some ag0)⟩:dC) (q0.set q1.toNat ({ x5 with Locs:=y0})),aX gC p0.Chunks,bM gE p0.Exps,aV gV ((p0.Vols.set p1.Vol.toNat ({ x2 with State:=3})).set p1.Vol.toNat ({ x3 with Files:=0}))]++((bL (⟨ng0.a,ng0.gs.set q1.toNat (some ag0)⟩:dC) (q0.set q1.toNat ({ x5 with Locs:=y0})))++((aY gC p0.Chunks)++(bN gE p0.Exps))))) [[_],[_],[_],[_],[_],[_],_,_,_] rfl 6 (zs:=nl aI.Locs (zg (q0:List aI) ng0.gs)) (j:=q1.toNat) (aI.Locs ({ x5 with Locs:=y0}:aI),some ag0) (jX (O0.k.nlat X4)) rfl hr0.2 (by rw[<- (O0.k.setL (x':=({ x5 with Locs:=y0}:aI)) X4 ag0 O1).2.2,(O0.k.setL (x':=({ x5 with Locs:=y0}:aI)) X4 ag0 O1).2.1]; rfl)
 refine nH (hr0.1.trans hj0.1) ?_
 refine⟨⟨λ_=>aN 1 hj0.2 rfl,λe=>absurd e (by decide),trivial⟩, ?_⟩
 refine zX (qk (f:=AE 75 _ _ _ _ _ _ _ _ _ _ _ _ _ _ _ _ _ _) hj0.2 rfl ?_)
 refine v0 ?_
 exact eF m (⟨ng0.a,ng0.gs.set q1.toNat (some ag0)⟩:dC) O2 (lx (.k4 .nil))
 refine v0 ?_
 exact lF m ng0 O0 (lx (.k4 .nil))
 rintro ng1 ⟨r0,r1⟩ t0 m
 refine vs (vs (v0 (kX rfl (dY eM rfl rfl (vl 1 (aZ gC.a) fA rfl rfl rfl (bV (eC kY oC.k.a rfl) ?_))))))
 refine nE m (σ:=(List aB)×Int) (τ:=dC) (λg s=>([(some k2,.obj 62 (aH p1)),OC p0K p0.Seq ng1.a g.a gE.a gV,bH ng1 r0,aX g s.1,bM gE p0.Exps,aV gV ((p0.Vols.set p1.Vol.toNat ({ x2 with State:=3})).set p1.Vol.toNat ({ x3 with Files:=0}))]++((bL ng1 r0)++((aY g s.1)++(bN gE p0.Exps))))) (λg s=>mH aB.Locs 35 4 g (s.1:List aB)) (λg s=>.c 0 (.ptr p0K 0) (.c 5 (.fn (.func 126) [.ptr k2 0]) (.c 81 (nZ (p0.Chunks.length:Int)) (.c 82 (nZ s.2) .nil)))) gC oC (lx (.k4 .nil)) ?_ ?_
 rintro ng2 ⟨q2,q3⟩ x O3 m
 replace m:zJ w p0 p1 q2 q3=some x:=m
 unfold zJ at m
 refine vs (v0 (vs (v0 ?_)))
 apply vi m<;>intro c2 m
 refine v0 (vs (v0 (vs (v0 (v0 ?_)))))
 refine vz [(1000000,some p0K,.obj 30 ([nZ p0.Seq,aZ ng1.a,aZ ng2.a,aZ gE.a,aZ gV])),(17,ng2.a.t,.obj 44 (fl jR (zg (q2:List aB) ng2.gs) ng2.a.sp))] mixed (λu=>⟨λ_=>aN 1 u rfl,λ_=>aN 3 u rfl,trivial⟩) λu=> ?_
 refine zP 0 rfl rfl ?_
 refine zN 1 rfl rfl ?_
 refine zF 2 rfl eM rfl ?_
 refine zL 3 0 (aZ ng2.a) rfl fA rfl rfl rfl ?_
 refine zI 4 rfl rfl ?_
 refine zC 5 rfl (fC (.fn _ _) rfl) ?_
 refine zP 6 rfl rfl ?_
 refine zN 7 rfl rfl ?_
 refine zF 8 rfl eM rfl ?_
 refine zL 9 0 (aZ ng2.a) rfl fA rfl rfl rfl ?_
 refine zI 10 rfl rfl ?_
 obtain⟨x6,X5,m⟩:=aC m
 refine zC 11 rfl (cQ (O3.k.ix X5) fZ O3.k.z rfl rfl) ?_
 refine zC 12 rfl (cV (bJ.ne O3.k.z (O3.k.ix X5)) jA rfl rfl) ?_
 obtain⟨gv1,hg1,ga1,gn1⟩:=O3.gx X5
 refine w6 13 rfl (λ_ _ hi hB=>gR (dX (fo:=34) (awO aO 4 (gx ng2.gs q3.toNat) x6.Locs) (O3.k.ix X5) i8 O3.k.z fO rfl (fS.get 1 hi rfl (hB 17 (by kernel_rfl))) (λ_=>rfl)) (bD.of_eq (congrArg (λz=>awO aO 4 z x6.Locs) hg1))) ?_
 obtain⟨y1,Y1,m⟩:=aC m
 refine zE 14 rfl ?_
 have ho2:=qT (R:=([(some k2,.obj 62 (aH p1)),OC p0K p0.Seq ng1.a ng2.a gE.a gV,bH ng1 r0,aX ng2 q2,bM gE p0.Exps,aV gV ((p0.Vols.set p1.Vol.toNat ({ x2 with State:=3})).set p1.Vol.toNat ({ x3 with Files:=0}))]++((bL ng1 r0)++((kP 81 aO ((nl aB.Locs (zg (q2:List aB) ng2.gs)).eraseIdx q3.toNat))++(bN gE p0.Exps))))) u [[_],[_],[_],[_],[_],[_],_,_,_] rfl 7 rfl gn1 rfl
 have ho3:=cJ [(dO gv1 x6.Locs)] _ ho2.2
 refine eA (ho2.1.trans (cM h [(dO gv1 x6.Locs)] _).symm) (dD (OU _ ga1 ho3.2 (a9 0 ho3.1 rfl) Y1) rfl OV rfl ?_)
 rintro x h' ⟨ag1,O4,K6,rfl,rfl⟩
 refine nH (cM h [fG ag1 y1] _) ?_
 refine⟨⟨λ_=>aN 2 (cZ ho3.1 K6) rfl,λ_=>aN 4 (cZ ho3.1 K6) rfl,trivial⟩, ?_⟩
 obtain⟨x7,X6,m⟩:=aC m
 refine zC 15 rfl (cQ (O3.k.ix X6) fZ O3.k.z rfl rfl) ?_
 refine zC 16 rfl (cV (bJ.ne O3.k.z (O3.k.ix X6)) jA rfl rfl) ?_
 refine zE 17 rfl (cO (fo:=34) (x':=(({ x7 with Locs:=y1}:aB),some ag1)) 4 (cZ ho3.1 K6) (O3.k.ix X6) i8 O3.k.z rfl rfl (cH rfl) (cI (bZ _ _ _) rfl) (cW.refl _ _) oD rfl rfl ?_)
 intro K7
 have O5:=O3.setL (x':=({ x7 with Locs:=y1}:aB)) X6 ag1 O4
 have hr1:=uA (L':=(dO ag1 y1)::(([(some k2,.obj 62 (aH p1)),OC p0K p0.Seq ng1.a ng2.a gE.a gV,bH ng1 r0,(ng2.a.t,.obj 44 (fl jR (((zg (q2:List aB) ng2.gs)).set q3.toNat (({ x7 with Locs:=y1}:aB),some ag1)) ng2.a.sp)),bM gE p0.Exps,aV gV ((p0.Vols.set p1.Vol.toNat ({ x2 with State:=3})).set p1.Vol.toNat ({ x3 with Files:=0}))]:HL)++((bL ng1 r0)++((kP 81 aO ((nl aB.Locs (zg (q2:List aB) ng2.gs)).eraseIdx q3.toNat))++(bN gE p0.Exps))))) K7 [[_],[_],[_],[_],[_],[_],[_],_,_,_] rfl [0,1,2,3,4,5,6,7,8,9] rfl rfl
 have hj1:=o7 (L':=([(some k2,.obj 62 (aH p1)),OC p0K p0.Seq ng1.a ((⟨ng2.a,ng2.gs.set q3.toNat (some ag1)⟩:dC).a) gE.a gV,bH ng1 r0,aX (⟨ng2.a,ng2.gs.set q3.toNat (some ag1)⟩:dC) (q2.set q3.toNat ({ x7 with Locs:=y1})),bM gE p0.Exps,aV gV ((p0.Vols.set p1.Vol.toNat ({ x2 with State:=3})).set p1.Vol.toNat ({ x3 with Files:=0}))]++((bL ng1 r0)++((aY (⟨ng2.a,ng2.gs.set q3.toNat (some ag1)⟩:dC) (q2.set q3.toNat ({ x7 with Locs:=y1})))++(bN gE p0.Exps))))) [[_],[_],[_],[_],[_],[_],_,_,_] rfl 7 (zs:=nl aB.Locs (zg (q2:List aB) ng2.gs)) (j:=q3.toNat) (aB.Locs ({ x7 with Locs:=y1}:aB),some ag1) (jX (O3.k.nlat X6)) rfl hr1.2 (by rw[<- (O3.k.setL (x':=({ x7 with Locs:=y1}:aB)) X6 ag1 O4).2.2,(O3.k.setL (x':=({ x7 with Locs:=y1}:aB)) X6 ag1 O4).2.1]; rfl)
 refine nH (hr1.1.trans hj1.1) ?_
 refine⟨⟨λ_=>aN 1 hj1.2 rfl,λe=>absurd e (by decide),trivial⟩, ?_⟩
 refine zX (qk (f:=AE 101 _ _ _ _ _ _ _ _ _ _ _ _ _ _ _ _ _ _) hj1.2 rfl ?_)
 refine v0 ?_
 exact eF m (⟨ng2.a,ng2.gs.set q3.toNat (some ag1)⟩:dC) O5 (lx (.k4 .nil))
 refine v0 ?_
 exact lF m ng2 O3 (lx (.k4 .nil))
 rintro ng3 ⟨r2,r3⟩ t1 m
 refine vs (vs (v0 (kX rfl (dY eH rfl rfl (vl 1 (aZ gE.a) gN rfl rfl rfl (bV (eC nK oE.k.a rfl) ?_))))))
 refine nE m (σ:=(List aQ)×Int) (τ:=dC) (λg s=>([(some k2,.obj 62 (aH p1)),OC p0K p0.Seq ng1.a ng3.a g.a gV,bH ng1 r0,aX ng3 r2,bM g s.1,aV gV ((p0.Vols.set p1.Vol.toNat ({ x2 with State:=3})).set p1.Vol.toNat ({ x3 with Files:=0}))]++((bL ng1 r0)++((aY ng3 r2)++(bN g s.1))))) (λg s=>mH aQ.Locs 3 4 g (s.1:List aQ)) (λg s=>.c 0 (.ptr p0K 0) (.c 5 (.fn (.func 126) [.ptr k2 0]) (.c 107 (nZ (p0.Exps.length:Int)) (.c 108 (nZ s.2) .nil)))) gE oE (lx (.k4 .nil)) ?_ ?_
 rintro ng4 ⟨q4,q5⟩ x O6 m
 replace m:zK w p0 p1 q4 q5=some x:=m
 unfold zK at m
 refine vs (v0 (vs (v0 ?_)))
 apply vi m<;>intro c3 m
 refine v0 (vs (v0 (vs (v0 (v0 ?_)))))
 refine vz [(1000000,some p0K,.obj 30 ([nZ p0.Seq,aZ ng1.a,aZ ng3.a,aZ ng4.a,aZ gV])),(17,ng4.a.t,.obj 99 (fl lP (zg (q4:List aQ) ng4.gs) ng4.a.sp))] mixed (λu=>⟨λ_=>aN 1 u rfl,λ_=>aN 4 u rfl,trivial⟩) λu=> ?_
 refine zP 0 rfl rfl ?_
 refine zN 1 rfl rfl ?_
 refine zF 2 rfl eH rfl ?_
 refine zL 3 0 (aZ ng4.a) rfl gN rfl rfl rfl ?_
 refine zI 4 rfl rfl ?_
 refine zC 5 rfl (fC (.fn _ _) rfl) ?_
 refine zP 6 rfl rfl ?_
 refine zN 7 rfl rfl ?_
 refine zF 8 rfl eH rfl ?_
 refine zL 9 0 (aZ ng4.a) rfl gN rfl rfl rfl ?_
 refine zI 10 rfl rfl ?_
 obtain⟨x8,X7,m⟩:=aC m
 refine zC 11 rfl (cQ (O6.k.ix X7) gU O6.k.z rfl rfl) ?_
 refine zC 12 rfl (cV (bJ.ne O6.k.z (O6.k.ix X7)) lN rfl rfl) ?_
 obtain⟨gv2,hg2,ga2,gn2⟩:=O6.gx X7
 refine w6 13 rfl (λ_ _ hi hB=>gR (dX (fo:=2) (awO aO 4 (gx ng4.gs q5.toNat) x8.Locs) (O6.k.ix X7) o8 O6.k.z fO rfl (fS.get 1 hi rfl (hB 17 (by kernel_rfl))) (λ_=>rfl)) (bD.of_eq (congrArg (λz=>awO aO 4 z x8.Locs) hg2))) ?_
 obtain⟨y2,Y2,m⟩:=aC m
 refine zE 14 rfl ?_
 have ho4:=qT (R:=([(some k2,.obj 62 (aH p1)),OC p0K p0.Seq ng1.a ng3.a ng4.a gV,bH ng1 r0,aX ng3 r2,bM ng4 q4,aV gV ((p0.Vols.set p1.Vol.toNat ({ x2 with State:=3})).set p1.Vol.toNat ({ x3 with Files:=0}))]++((bL ng1 r0)++((aY ng3 r2)++(kP 81 aO ((nl aQ.Locs (zg (q4:List aQ) ng4.gs)).eraseIdx q5.toNat)))))) u [[_],[_],[_],[_],[_],[_],_,_,_] rfl 8 rfl gn2 rfl
 have ho5:=cJ [(dO gv2 x8.Locs)] _ ho4.2
 refine eA (ho4.1.trans (cM h [(dO gv2 x8.Locs)] _).symm) (dD (OU _ ga2 ho5.2 (a9 0 ho5.1 rfl) Y2) rfl OV rfl ?_)
 rintro x h' ⟨ag2,O7,K8,rfl,rfl⟩
 refine nH (cM h [fG ag2 y2] _) ?_
 refine⟨⟨λ_=>aN 2 (cZ ho5.1 K8) rfl,λ_=>aN 5 (cZ ho5.1 K8) rfl,trivial⟩, ?_⟩
 obtain⟨x9,X8,m⟩:=aC m
 refine zC 15 rfl (cQ (O6.k.ix X8) gU O6.k.z rfl rfl) ?_
 refine zC 16 rfl (cV (bJ.ne O6.k.z (O6.k.ix X8)) lN rfl rfl) ?_
 refine zE 17 rfl (cO (fo:=2) (x':=(({ x9 with Locs:=y2}:aQ),some ag2)) 5 (cZ ho5.1 K8) (O6.k.ix X8) o8 O6.k.z rfl rfl (cH rfl) (cI (bZ _ _ _) rfl) (cW.refl _ _) oD rfl rfl ?_)
 intro K9
 have O8:=O6.setL (x':=({ x9 with Locs:=y2}:aQ)) X8 ag2 O7
 have hr2:=uA (L':=(dO ag2 y2)::(([(some k2,.obj 62 (aH p1)),OC p0K p0.Seq ng1.a ng3.a ng4.a gV,bH ng1 r0,aX ng3 r2,(ng4.a.t,.obj 99 (fl lP (((zg (q4:List aQ) ng4.gs)).set q5.toNat (({ x9 with Locs:=y2}:aQ),some ag2)) ng4.a.sp)),aV gV ((p0.Vols.set p1.Vol.toNat ({ x2 with State:=3})).set p1.Vol.toNat ({ x3 with Files:=0}))]:HL)++((bL ng1 r0)++((aY ng3 r2)++(kP 81 aO ((nl aQ.Locs (zg (q4:List aQ) ng4.gs)).eraseIdx q5.toNat)))))) K9 [[_],[_],[_],[_],[_],[_],[_],_,_,_] rfl [0,1,2,3,4,5,6,7,8,9] rfl rfl
 have hj2:=o7 (L':=([(some k2,.obj 62 (aH p1)),OC p0K p0.Seq ng1.a ng3.a ((⟨ng4.a,ng4.gs.set q5.toNat (some ag2)⟩:dC).a) gV,bH ng1 r0,aX ng3 r2,bM (⟨ng4.a,ng4.gs.set q5.toNat (some ag2)⟩:dC) (q4.set q5.toNat ({ x9 with Locs:=y2})),aV gV ((p0.Vols.set p1.Vol.toNat ({ x2 with State:=3})).set p1.Vol.toNat ({ x3 with Files:=0}))]++((bL ng1 r0)++((aY ng3 r2)++(bN (⟨ng4.a,ng4.gs.set q5.toNat (some ag2)⟩:dC) (q4.set q5.toNat ({ x9 with Locs:=y2}))))))) [[_],[_],[_],[_],[_],[_],_,_,_] rfl 8 (zs:=nl aQ.Locs (zg (q4:List aQ) ng4.gs)) (j:=q5.toNat) (aQ.Locs ({ x9 with Locs:=y2}:aQ),some ag2) (jX (O6.k.nlat X8)) rfl hr2.2 (by rw[<- (O6.k.setL (x':=({ x9 with Locs:=y2}:aQ)) X8 ag2 O7).2.2,(O6.k.setL (x':=({ x9 with Locs:=y2}:aQ)) X8 ag2 O7).2.1]; rfl)
 refine nH (hr2.1.trans hj2.1) ?_
 refine⟨⟨λ_=>aN 1 hj2.2 rfl,λe=>absurd e (by decide),trivial⟩, ?_⟩
 refine zX (qk (f:=AE 127 _ _ _ _ _ _ _ _ _ _ _ _ _ _ _ _ _ _) hj2.2 rfl ?_)
 refine v0 ?_
 exact eF m (⟨ng4.a,ng4.gs.set q5.toNat (some ag2)⟩:dC) O8 (lx (.k4 .nil))
 refine v0 ?_
 exact lF m ng4 O6 (lx (.k4 .nil))
 rintro ng5 ⟨r4,r5⟩ t2 m
 refine vs (pJ (D4 (L':=([(some k2,.obj 62 (aH p1)),OC p0K p0.Seq ng1.a ng3.a ng5.a gV,bU ng1.a r0,aX ng3 r2,bM ng5 r4,aV gV ((p0.Vols.set p1.Vol.toNat ({ x2 with State:=3})).set p1.Vol.toNat ({ x3 with Files:=0}))]++((aY ng3 r2)++(bN ng5 r4)))) [[_],[_],[_],[_],[_],[_],_,_,_] rfl 2 6 eL qU t0.k rfl rfl (by decide) rfl) (pJ (D4 (L':=([(some k2,.obj 62 (aH p1)),OC p0K p0.Seq ng1.a ng3.a ng5.a gV,bU ng1.a r0,bO ng3.a r2,bM ng5 r4,aV gV ((p0.Vols.set p1.Vol.toNat ({ x2 with State:=3})).set p1.Vol.toNat ({ x3 with Files:=0}))]++(bN ng5 r4))) [[_],[_],[_],[_],[_],[_],_,_] rfl 3 6 eL oH t1.k rfl rfl (by decide) rfl) (pJ (D4 (L':=[(some k2,.obj 62 (aH p1)),OC p0K p0.Seq ng1.a ng3.a ng5.a gV,bU ng1.a r0,bO ng3.a r2,dE ng5.a r4,aV gV ((p0.Vols.set p1.Vol.toNat ({ x2 with State:=3})).set p1.Vol.toNat ({ x3 with Files:=0}))]) [[_],[_],[_],[_],[_],[_],_] rfl 4 6 eL wA t2.k rfl rfl (by decide) rfl) (v0 (kX rfl (dY eM rfl rfl (vl 1 (aZ ng3.a) fA rfl rfl rfl ?_)))))))
 obtain⟨y3,Y3,m⟩:=aC m
 refine ve λu=>eA ((bB u [3,0,1,2,4,5] rfl rfl).1.trans (cM h [bO ng3.a r2] [(some k2,.obj 62 (aH p1)),OC p0K p0.Seq ng1.a ng3.a ng5.a gV,bU ng1.a r0,dE ng5.a r4,aV gV ((p0.Vols.set p1.Vol.toNat ({ x2 with State:=3})).set p1.Vol.toNat ({ x3 with Files:=0}))]).symm) (dD (aCZ (hp h [(some k2,.obj 62 (aH p1)),OC p0K p0.Seq ng1.a ng3.a ng5.a gV,bU ng1.a r0,dE ng5.a r4,aV gV ((p0.Vols.set p1.Vol.toNat ({ x2 with State:=3})).set p1.Vol.toNat ({ x3 with Files:=0}))]) t1.k.a (cJ [bO ng3.a r2] [(some k2,.obj 62 (aH p1)),OC p0K p0.Seq ng1.a ng3.a ng5.a gV,bU ng1.a r0,dE ng5.a r4,aV gV ((p0.Vols.set p1.Vol.toNat ({ x2 with State:=3})).set p1.Vol.toNat ({ x3 with Files:=0}))] (bB u [3,0,1,2,4,5] rfl rfl).2).2 aCY (λx0 o h0 hs ho=>aIQ _ ho) Y3) rfl aC0 rfl ?_)
 rintro x h' ⟨ag3,O9,K10,rfl,rfl⟩
 have K11:=bB (L':=[(some k2,.obj 62 (aH p1)),(hO p0K p0.Seq ng1.a ng3.a ng5.a gV),bU ng1.a r0,bO ag3 y3,dE ng5.a r4,aV gV ((p0.Vols.set p1.Vol.toNat ({ x2 with State:=3})).set p1.Vol.toNat ({ x3 with Files:=0}))]) (cZ (cJ [bO ng3.a r2] [(some k2,.obj 62 (aH p1)),OC p0K p0.Seq ng1.a ng3.a ng5.a gV,bU ng1.a r0,dE ng5.a r4,aV gV ((p0.Vols.set p1.Vol.toNat ({ x2 with State:=3})).set p1.Vol.toNat ({ x3 with Files:=0}))] (bB u [3,0,1,2,4,5] rfl rfl).2).1 K10) [1,2,3,0,4,5] rfl rfl
 refine qk K11.2 ((cM h [bO ag3 y3] [(some k2,.obj 62 (aH p1)),OC p0K p0.Seq ng1.a ng3.a ng5.a gV,bU ng1.a r0,dE ng5.a r4,aV gV ((p0.Vols.set p1.Vol.toNat ({ x2 with State:=3})).set p1.Vol.toNat ({ x3 with Files:=0}))]).trans K11.1) ?_
 refine kX rfl (dY eM rfl rfl ?_)
 refine ve λu=>aL 1 ([nZ p0.Seq,aZ ng1.a,aZ ag3,aZ ng5.a,aZ gV]) u rfl rfl (cH rfl) (cI (bZ _ _ _) rfl) CU rfl rfl λK12=>qk K12 rfl ?_
 refine vs (v0 (kX rfl (dY eH rfl rfl (vl 1 (aZ ng5.a) gN rfl rfl rfl ?_))))
 obtain⟨y4,Y4,m⟩:=aC m
 refine ve λu=>eA ((bB u [4,0,1,2,3,5] rfl rfl).1.trans (cM h [dE ng5.a r4] [(some k2,.obj 62 (aH p1)),OC p0K p0.Seq ng1.a ag3 ng5.a gV,bU ng1.a r0,bO ag3 y3,aV gV ((p0.Vols.set p1.Vol.toNat ({ x2 with State:=3})).set p1.Vol.toNat ({ x3 with Files:=0}))]).symm) (dD (aC2 (hp h [(some k2,.obj 62 (aH p1)),OC p0K p0.Seq ng1.a ag3 ng5.a gV,bU ng1.a r0,bO ag3 y3,aV gV ((p0.Vols.set p1.Vol.toNat ({ x2 with State:=3})).set p1.Vol.toNat ({ x3 with Files:=0}))]) t2.k.a (cJ [dE ng5.a r4] [(some k2,.obj 62 (aH p1)),OC p0K p0.Seq ng1.a ag3 ng5.a gV,bU ng1.a r0,bO ag3 y3,aV gV ((p0.Vols.set p1.Vol.toNat ({ x2 with State:=3})).set p1.Vol.toNat ({ x3 with Files:=0}))] (bB u [4,0,1,2,3,5] rfl rfl).2).2 aC1 (λx0 o h0 hs ho=>aIR _ ho) Y4) rfl aC3 rfl ?_)
 rintro x h' ⟨ag4,O10,K13,rfl,rfl⟩
 have K14:=bB (L':=[(some k2,.obj 62 (aH p1)),(hO p0K p0.Seq ng1.a ag3 ng5.a gV),bU ng1.a r0,bO ag3 y3,dE ag4 y4,aV gV ((p0.Vols.set p1.Vol.toNat ({ x2 with State:=3})).set p1.Vol.toNat ({ x3 with Files:=0}))]) (cZ (cJ [dE ng5.a r4] [(some k2,.obj 62 (aH p1)),OC p0K p0.Seq ng1.a ag3 ng5.a gV,bU ng1.a r0,bO ag3 y3,aV gV ((p0.Vols.set p1.Vol.toNat ({ x2 with State:=3})).set p1.Vol.toNat ({ x3 with Files:=0}))] (bB u [4,0,1,2,3,5] rfl rfl).2).1 K13) [1,2,3,4,0,5] rfl rfl
 refine qk K14.2 ((cM h [dE ag4 y4] [(some k2,.obj 62 (aH p1)),OC p0K p0.Seq ng1.a ag3 ng5.a gV,bU ng1.a r0,bO ag3 y3,aV gV ((p0.Vols.set p1.Vol.toNat ({ x2 with State:=3})).set p1.Vol.toNat ({ x3 with Files:=0}))]).trans K14.1) ?_
 refine kX rfl (dY eH rfl rfl ?_)
 refine ve λu=>aL 1 ([nZ p0.Seq,aZ ng1.a,aZ ag3,aZ ag4,aZ gV]) u rfl rfl (cH rfl) (cI (bZ _ _ _) rfl) KH rfl rfl λK15=>qk K15 rfl ?_
 refine vs (v0 (v0 ?_))
 cases m
 exact vr λu=>dW.of1 (.inl rfl) (gK _ _ (.sc (.int _ _)) rfl) (bR u [1,2,3,4,5] rfl).2 (bD.refl _ _) ⟨ng1.a,t0.k.a,ag3,O9,ag4,O10,gV,(bJ.set (bJ.set oV)),(bR u [1,2,3,4,5] rfl).1,rfl,rfl⟩
theorem aIS:aP prog 75=true:=by kernel_rfl
def SQ (m:Nat) (p0:List bK):Option (List bK):=app [] p0
theorem aIT {w:Nat} {p0:List bK} {o:List bK} (h:aF) (m:SQ w p0=some o):
 aM prog 170 [.sl none 32 (map bF p0)] h (λr h'=>∃t,(t=none->o= [])/\bT h [(t,.tok 36 32 (o.length*32))]/\r=ow t 32 (map bF o)/\h'=hp h [(t,.tok 36 32 (o.length*32))]):=by
 refine iZ 8 [.tmp 2] Tryz.func170 rfl rfl rfl rfl ?_
 unfold SQ at m
 refine gA λK1 H1=>dV (qN (iJ (.sc (.slice _ _ _)) rfl) (e8 (H1 _ _ (gA λK1 H1=>gA λK2 H2=>dV (vE rfl (kU (jU rfl (by rw[AL]; rfl) (by rw[bI]; exact rfl) (.inl ⟨_,_,_,rfl,λb hb=> ?_⟩))))))))
 refine e8 (H2 _ _ (mV rfl (λhc=> ?_) (λhc=> ?_)))
 have h0:p0= []:=by
   cases p0 with
   | nil=>rfl
   | cons x l=>have:=hb (by simp); rw[this] at hc; cases hc
 subst h0
 obtain⟨rfl, -⟩:=jM m
 exact gA λK1 H1=>dV (qN (iJ (.sc (.slice _ _ _)) rfl) (e8 (H1 _ _ (iI (dW.one (.inl rfl) (iG.refl _) (iB _ _) ⟨none,λ_=>rfl,bT.none (bT.nil _),rfl,rfl⟩)))))
 exact lQ (H1 _ _ (gA λK1 H1=>dV (kU (GU (c:=bF) (bT.nil _) CY λu=>vE rfl (kU (fK (c:=bF) 0 m CY rfl rfl rfl (λ_=>rfl) u rfl λtg ot u=>qN (iJ (ow _ _ _) rfl) (e8 (H1 _ _ (iI (dW.one (.inl rfl) (iG.refl _) (bD.refl _ _) ⟨tg,ot,u,rfl,rfl⟩))))))))))
theorem aC4:aP prog 170=true:=by kernel_rfl
def I6 (m:Nat) (p0:List dF):Option (List dF):=app [] p0
theorem aC5 {w:Nat} {p0:List dF} {o:List dF} (h:aF) (m:I6 w p0=some o):
 aM prog 169 [.sl none 3 (map cC p0)] h (λr h'=>∃g:cY,bJ g 3 o.length/\bT h [(g.t,.obj 70 (fl cC o g.sp))]/\r=aZ g/\h'=hp h [(g.t,.obj 70 (fl cC o g.sp))]):=by
 refine iZ 8 [.tmp 2] Tryz.func169 rfl rfl rfl rfl ?_
 unfold I6 at m
 refine gA λK1 H1=>dV (qN (iJ (.sc (.slice _ _ _)) rfl) (e8 (H1 _ _ (gA λK1 H1=>gA λK2 H2=>dV (vE rfl (kU (jU rfl (by rw[tA]; rfl) (by rw[bI]; exact rfl) (.inl ⟨_,_,_,rfl,λb hb=> ?_⟩))))))))
 refine e8 (H2 _ _ (mV rfl (λhc=> ?_) (λhc=> ?_)))
 have h0:p0= []:=by
   cases p0 with
   | nil=>rfl
   | cons x l=>have:=hb (by simp); rw[this] at hc; cases hc
 subst h0
 obtain⟨rfl, -⟩:=jM m
 exact gA λK1 H1=>dV (qN (iJ (.sc (.slice _ _ _)) rfl) (e8 (H1 _ _ (iI (dW.one (.inl rfl) (iG.refl _) (fU _) ⟨g0,bJ.g0 _,bT.none (bT.nil _),rfl,rfl⟩)))))
 exact lQ (H1 _ _ (gA λK1 H1=>dV (kU (qP (c:=cC) (bT.nil _) KI λu=>vE rfl (kU (gQ (c:=cC) 0 m KI rfl KJ rfl w8 rfl rfl (bJ.g0 _) u rfl λg ok u=>qN (iJ (aw _ _ _) rfl) (e8 (H1 _ _ (iI (dW.one (.inl rfl) (iG.refl _) (bD.refl _ _) ⟨g,ok,u,rfl,rfl⟩))))))))))
theorem aC6:aP prog 169=true:=by kernel_rfl
def uH (m:Nat) (y9:(List dF)) (q0:List dF) (q1:Int):Option (Lp ((List dF)×Int) (bG)):=
 if decide (q1 < (y9.length:Int)) then ((ix q0 q1).bind λx0=>(SQ m x0.Ids).bind λy0=>(ix q0 q1).bind λx1=>Gk (q0.set q1.toNat ({ x1 with Ids:=y0}),wrap .i64 (q1+1))) else Bk (q0,q1)
def OX (m:Nat) (p0:bG):Option (bG):=
 (I6 m p0.Parts).bind λy9=>after (aT (λs=>uH m y9 s.1 s.2) m (y9,0)) λ⟨r0,r1⟩=>some ({ Name:=p0.Name,Parts:=r0}:bG)
theorem aIU {w:Nat} {p0:bG} {o:bG} (h:aF) (m:OX w p0=some o):
 aM prog 115 [.agg (bP p0)] h (λr h'=>r= .agg (bP o)/\h'=h):=by
 refine fM 28 [.cell 2 58] Tryz.func115 rfl rfl rfl rfl ?_
 unfold OX at m
 refine vs (v0 (gX rfl rfl λk2 K3=>ve λu=>bE ([.sc (.string empty),sZ]) u NB rfl rfl λk5 K6=>qk K6 rfl (vs (v0 (dY yI rfl rfl (vl 1 _ oW rfl rfl rfl ?_))))))
 obtain⟨y9,Y0,m⟩:=aC m
 refine ve λu=>dD (aC5 _ Y0) rfl aC6 rfl ?_
 rintro x h' ⟨ag0,O0,K0,rfl,rfl⟩
 refine qk (bT.co u K0) (kW _ _ _) (dY yI rfl rfl (ve λu=>aL 2 ([.sc (.string p0.Name),aZ ag0]) u rfl rfl (cH rfl) (cI (bZ _ _ _) rfl) VW rfl rfl λK1=>qk K1 rfl (vs (vs (v0 (dY yI rfl rfl (vl 2 (aZ ag0) oW rfl rfl rfl (bV (eC AH O0 rfl) (nE m (σ:=(List dF)×Int) (τ:=cY) (λg s=>[(g.t,.obj 70 (fl cC (s.1:List dF) g.sp)),(some k5,.obj 58 ([.sc (.string empty),sZ])),(some k2,.obj 58 ([.sc (.string p0.Name),aZ g]))]) (λg s=>bJ g 3 (s.1:List dF).length) (λg s=>.c 1 (.ptr k2 0) (.c 2 (.ptr k5 0) (.c 10 (nZ (y9.length:Int)) (.c 11 (nZ s.2) .nil)))) ag0 O0 (lx (.k4 .nil)) ?_ ?_)))))))))
 rintro ag1 ⟨q0,q1⟩ x O1 m
 replace m:uH w y9 q0 q1=some x:=m
 unfold uH at m
 refine vs (v0 (vs (v0 ?_)))
 apply vi m<;>intro c0 m
 refine v0 (vs (v0 (vs (v0 (v0 (vz [(1000000,some k2,.obj 58 ([.sc (.string p0.Name),aZ ag1])),(12,ag1.t,.obj 70 (fl cC (q0:List dF) ag1.sp))] mixed (λu=>⟨λ_=>aN 2 u rfl,λ_=>aN 0 u rfl,trivial⟩) λu=>zF 0 rfl yI rfl (zL 1 0 (aZ ag1) rfl oW rfl rfl rfl (zI 2 rfl rfl (zF 3 rfl yI rfl (zL 4 0 (aZ ag1) rfl oW rfl rfl rfl (zI 5 rfl rfl ?_)))))))))))
 obtain⟨x0,X0,m⟩:=aC m
 refine zC 6 rfl (cQ X0 tA O1 rfl rfl) (zC 7 rfl (cV (bJ.ne O1 X0) ND rfl rfl) (w6 8 rfl (λ_ _ hi hB=>dX (fo:=2) (.sl none 32 (map bF x0.Ids)) X0 w8 O1 yL rfl (fS.get 1 hi rfl (hB 12 (by kernel_rfl))) (λ_=>rfl)) ?_))
 obtain⟨y0,Y1,m⟩:=aC m
 refine zE 9 rfl (dD (aIT _ Y1) rfl aC4 rfl ?_)
 rintro x h' ⟨tg0,t0,K2,rfl,rfl⟩
 rw[kW]
 refine⟨⟨λ_=>aN 3 (bT.co u K2) rfl,λ_=>aN 1 (bT.co u K2) rfl,trivial⟩, ?_⟩
 obtain⟨x1,X1,m⟩:=aC m
 refine zC 10 rfl (cQ X1 tA O1 rfl rfl) (zC 11 rfl (cV (bJ.ne O1 X1) ND rfl rfl) (zE 12 rfl (G1 (s:=23) (.sl none 32 (map bF y0)) (aU (.cons _ (.refl _)) (bT.co u K2)).1 (Fz.ale (aU (.cons _ (.refl _)) (bT.co u K2)).1 (sP _ 0 t0 (bT.co u K2) rfl (.refl _))) (cO (fo:=2) ({ x1 with Ids:=y0}:dF) 0 ((aU (.cons _ (.refl _)) (bT.co u K2)).2) X1 w8 O1 rfl rfl rfl rfl (cW.refl _ _) V7 rfl rfl λK4=>⟨⟨λ_=>aN 2 K4 rfl,λe=>absurd e (by decide),trivial⟩, ?_⟩))))
 exact zX (qk (f:=MW 25 _ _ _ _ _ _ _ _ _ _ _ _ _) K4 rfl (v0 (eF m ag1 (bJ.set O1) (lx (.k4 .nil)))))
 exact v0 (lF m ag1 O1 (lx (.k4 .nil)))
 rintro ag2 ⟨r0,r1⟩ t1 m
 refine vs (v0 (vl 2 (.agg ([.sc (.string p0.Name),aZ ag2])) p5 rfl rfl rfl (ve λu=>aL 1 ([.sc (.string p0.Name),aZ ag2]) u rfl rfl rfl (by repeat (first | exact rfl | refine cI (jO _ _ _) ?_ | refine cI (bZ _ _ _) ?_ | refine cI (gY _ _ _ _) ?_ | refine cI rfl ?_)) AI rfl rfl λK5=>qk K5 rfl ?_)))
 refine v0 ?_
 cases m
 refine vrl λu=> ?_
 obtain⟨K7,le0⟩:=gP.fzO (n:=28) (f:=_) 0 0 ([.sc (.string p0.Name),.sl none 3 (map cC r0)]) u rfl (.cons (Fz.refl _ _ _) (.cons (Fz.aw 0 w8 t1 u rfl (.refl _)) .nil))
 exact QX.mk le0 (dW.of1 (.inl rfl) (sS (.agg (bP ({ Name:=p0.Name,Parts:=r0}:bG))) p5 rfl (a9 0 K7 rfl) rfl) (aU (nil_sublist _) K7).1 (bD.refl _ _) ⟨rfl,rfl⟩)
theorem aC7:aP prog 115=true:=by kernel_rfl
def I7 (m:Nat) (p0:List aI):Option (List aI):=app [] p0
theorem aC8 {w:Nat} {p0:List aI} {o:List aI} (h:aF) (m:I7 w p0=some o):
 aM prog 132 [.sl none 4 (map bQ p0)] h (λr h'=>∃g:cY,bJ g 4 o.length/\bT h [(g.t,.obj 60 (fl bQ o g.sp))]/\r=aZ g/\h'=hp h [(g.t,.obj 60 (fl bQ o g.sp))]):=by
 refine iZ 8 [.tmp 2] Tryz.func132 rfl rfl rfl rfl ?_
 unfold I7 at m
 refine gA λK1 H1=>dV (qN (iJ (.sc (.slice _ _ _)) rfl) (e8 (H1 _ _ (gA λK1 H1=>gA λK2 H2=>dV (vE rfl (kU (jU rfl (by rw[jG]; rfl) (by rw[bI]; exact rfl) (.inl ⟨_,_,_,rfl,λb hb=> ?_⟩))))))))
 refine e8 (H2 _ _ (mV rfl (λhc=> ?_) (λhc=> ?_)))
 have h0:p0= []:=by
   cases p0 with
   | nil=>rfl
   | cons x l=>have:=hb (by simp); rw[this] at hc; cases hc
 subst h0
 obtain⟨rfl, -⟩:=jM m
 exact gA λK1 H1=>dV (qN (iJ (.sc (.slice _ _ _)) rfl) (e8 (H1 _ _ (iI (dW.one (.inl rfl) (iG.refl _) (fU _) ⟨g0,bJ.g0 _,bT.none (bT.nil _),rfl,rfl⟩)))))
 exact lQ (H1 _ _ (gA λK1 H1=>dV (kU (qP (c:=bQ) (bT.nil _) ET λu=>vE rfl (kU (gQ (c:=bQ) 0 m ET rfl yJ rfl eV rfl rfl (bJ.g0 _) u rfl λg ok u=>qN (iJ (aw _ _ _) rfl) (e8 (H1 _ _ (iI (dW.one (.inl rfl) (iG.refl _) (bD.refl _ _) ⟨g,ok,u,rfl,rfl⟩))))))))))
theorem aC9:aP prog 132=true:=by kernel_rfl
def I8 (m:Nat) (p0:List aB):Option (List aB):=app [] p0
theorem aDA {w:Nat} {p0:List aB} {o:List aB} (h:aF) (m:I8 w p0=some o):
 aM prog 133 [.sl none 35 (map aK p0)] h (λr h'=>∃g:cY,bJ g 35 o.length/\bT h [(g.t,.obj 44 (fl aK o g.sp))]/\r=aZ g/\h'=hp h [(g.t,.obj 44 (fl aK o g.sp))]):=by
 refine iZ 8 [.tmp 2] Tryz.func133 rfl rfl rfl rfl ?_
 unfold I8 at m
 refine gA λK1 H1=>dV (qN (iJ (.sc (.slice _ _ _)) rfl) (e8 (H1 _ _ (gA λK1 H1=>gA λK2 H2=>dV (vE rfl (kU (jU rfl (by rw[fZ]; rfl) (by rw[bI]; exact rfl) (.inl ⟨_,_,_,rfl,λb hb=> ?_⟩))))))))
 refine e8 (H2 _ _ (mV rfl (λhc=> ?_) (λhc=> ?_)))
 have h0:p0= []:=by
   cases p0 with
   | nil=>rfl
   | cons x l=>have:=hb (by simp); rw[this] at hc; cases hc
 subst h0
 obtain⟨rfl, -⟩:=jM m
 exact gA λK1 H1=>dV (qN (iJ (.sc (.slice _ _ _)) rfl) (e8 (H1 _ _ (iI (dW.one (.inl rfl) (iG.refl _) (fU _) ⟨g0,bJ.g0 _,bT.none (bT.nil _),rfl,rfl⟩)))))
 exact lQ (H1 _ _ (gA λK1 H1=>dV (kU (qP (c:=aK) (bT.nil _) pK λu=>vE rfl (kU (gQ (c:=aK) 0 m pK rfl pO rfl cX rfl rfl (bJ.g0 _) u rfl λg ok u=>qN (iJ (aw _ _ _) rfl) (e8 (H1 _ _ (iI (dW.one (.inl rfl) (iG.refl _) (bD.refl _ _) ⟨g,ok,u,rfl,rfl⟩))))))))))
theorem aDB:aP prog 133=true:=by kernel_rfl
def I9 (m:Nat) (p0:List aQ):Option (List aQ):=app [] p0
theorem aDC {w:Nat} {p0:List aQ} {o:List aQ} (h:aF) (m:I9 w p0=some o):
 aM prog 134 [.sl none 3 (map cE p0)] h (λr h'=>∃g:cY,bJ g 3 o.length/\bT h [(g.t,.obj 99 (fl cE o g.sp))]/\r=aZ g/\h'=hp h [(g.t,.obj 99 (fl cE o g.sp))]):=by
 refine iZ 8 [.tmp 2] Tryz.func134 rfl rfl rfl rfl ?_
 unfold I9 at m
 refine gA λK1 H1=>dV (qN (iJ (.sc (.slice _ _ _)) rfl) (e8 (H1 _ _ (gA λK1 H1=>gA λK2 H2=>dV (vE rfl (kU (jU rfl (by rw[gU]; rfl) (by rw[bI]; exact rfl) (.inl ⟨_,_,_,rfl,λb hb=> ?_⟩))))))))
 refine e8 (H2 _ _ (mV rfl (λhc=> ?_) (λhc=> ?_)))
 have h0:p0= []:=by
   cases p0 with
   | nil=>rfl
   | cons x l=>have:=hb (by simp); rw[this] at hc; cases hc
 subst h0
 obtain⟨rfl, -⟩:=jM m
 exact gA λK1 H1=>dV (qN (iJ (.sc (.slice _ _ _)) rfl) (e8 (H1 _ _ (iI (dW.one (.inl rfl) (iG.refl _) (fU _) ⟨g0,bJ.g0 _,bT.none (bT.nil _),rfl,rfl⟩)))))
 exact lQ (H1 _ _ (gA λK1 H1=>dV (kU (qP (c:=cE) (bT.nil _) pL λu=>vE rfl (kU (gQ (c:=cE) 0 m pL rfl qW rfl fN rfl rfl (bJ.g0 _) u rfl λg ok u=>qN (iJ (aw _ _ _) rfl) (e8 (H1 _ _ (iI (dW.one (.inl rfl) (iG.refl _) (bD.refl _ _) ⟨g,ok,u,rfl,rfl⟩))))))))))
theorem aDD:aP prog 134=true:=by kernel_rfl
def JA (m:Nat) (p0:List aR):Option (List aR):=app [] p0
theorem aDE {w:Nat} {p0:List aR} {o:List aR} (h:aF) (m:JA w p0=some o):
 aM prog 135 [.sl none 4 (map dN p0)] h (λr h'=>∃g:cY,bJ g 4 o.length/\bT h [(g.t,.obj 49 (fl dN o g.sp))]/\r=aZ g/\h'=hp h [(g.t,.obj 49 (fl dN o g.sp))]):=by
 refine iZ 8 [.tmp 2] Tryz.func135 rfl rfl rfl rfl ?_
 unfold JA at m
 refine gA λK1 H1=>dV (qN (iJ (.sc (.slice _ _ _)) rfl) (e8 (H1 _ _ (gA λK1 H1=>gA λK2 H2=>dV (vE rfl (kU (jU rfl (by rw[kZ]; rfl) (by rw[bI]; exact rfl) (.inl ⟨_,_,_,rfl,λb hb=> ?_⟩))))))))
 refine e8 (H2 _ _ (mV rfl (λhc=> ?_) (λhc=> ?_)))
 have h0:p0= []:=by
   cases p0 with
   | nil=>rfl
   | cons x l=>have:=hb (by simp); rw[this] at hc; cases hc
 subst h0
 obtain⟨rfl, -⟩:=jM m
 exact gA λK1 H1=>dV (qN (iJ (.sc (.slice _ _ _)) rfl) (e8 (H1 _ _ (iI (dW.one (.inl rfl) (iG.refl _) (fU _) ⟨g0,bJ.g0 _,bT.none (bT.nil _),rfl,rfl⟩)))))
 exact lQ (H1 _ _ (gA λK1 H1=>dV (kU (qP (c:=dN) (bT.nil _) M1 λu=>vE rfl (kU (gQ (c:=dN) 0 m M1 rfl RS rfl eR rfl rfl (bJ.g0 _) u rfl λg ok u=>qN (iJ (aw _ _ _) rfl) (e8 (H1 _ _ (iI (dW.one (.inl rfl) (iG.refl _) (bD.refl _ _) ⟨g,ok,u,rfl,rfl⟩))))))))))
theorem aDF:aP prog 135=true:=by kernel_rfl
def uI (m:Nat) (y0:(List aI)) (q0:List aI) (q1:Int):Option (Lp ((List aI)×Int) (aA)):=
 if decide (q1 < (y0.length:Int)) then ((ix q0 q1).bind λx0=>(OX m x0.Man).bind λy1=>(AR m x0.Locs).bind λy2=>Gk ((q0.set q1.toNat ({ x0 with Man:=y1})).set q1.toNat ({ ({ x0 with Man:=y1}:aI) with Locs:=y2}),wrap .i64 (q1+1))) else Bk (q0,q1)
def uJ (m:Nat) (y0:(List aB)) (q0:List aB) (q1:Int):Option (Lp ((List aB)×Int) (aA)):=
 if decide (q1 < (y0.length:Int)) then ((ix q0 q1).bind λx0=>(M96 m x0.Data).bind λy1=>(AR m x0.Locs).bind λy2=>Gk ((q0.set q1.toNat ({ x0 with Data:=y1})).set q1.toNat ({ ({ x0 with Data:=y1}:aB) with Locs:=y2}),wrap .i64 (q1+1))) else Bk (q0,q1)
def uK (m:Nat) (y0:(List aQ)) (q0:List aQ) (q1:Int):Option (Lp ((List aQ)×Int) (aA)):=
 if decide (q1 < (y0.length:Int)) then ((ix q0 q1).bind λx0=>(AR m x0.Locs).bind λy1=>(ix q0 q1).bind λx1=>Gk (q0.set q1.toNat ({ x1 with Locs:=y1}),wrap .i64 (q1+1))) else Bk (q0,q1)
def OY (m:Nat) (p0:aA):Option (aA):=
 (I7 m p0.Snaps).bind λy0=>(I8 m p0.Chunks).bind λy1=>(I9 m p0.Exps).bind λy2=>(JA m p0.Vols).bind λy3=>after (aT (λs=>uI m y0 s.1 s.2) m (y0,0)) λ⟨r0,r1⟩=>after (aT (λs=>uJ m y1 s.1 s.2) m (y1,0)) λ⟨r2,r3⟩=>after (aT (λs=>uK m y2 s.1 s.2) m (y2,0)) λ⟨r4,r5⟩=>some ({ Seq:=p0.Seq,Snaps:=r0,Chunks:=r2,Exps:=r4,Vols:=y3}:aA)
theorem aIV {w:Nat} {p0:aA} {o:aA} (h:aF) (m:OY w p0=some o):
 aM prog 77 [.agg (aD p0)] h (λr h'=>∃gS:dC,mH aI.Locs 4 4 gS (o.Snaps:List aI)/\∃gC:dC,mH aB.Locs 35 4 gC (o.Chunks:List aB)/\∃gE:dC,mH aQ.Locs 3 4 gE (o.Exps:List aQ)/\∃gV:cY,bJ gV 4 o.Vols.length/\bT h ([bH gS o.Snaps,aX gC o.Chunks,bM gE o.Exps,aV gV o.Vols]++((bL gS o.Snaps)++((aY gC o.Chunks)++(bN gE o.Exps))))/\r= .agg ([nZ o.Seq,aZ gS.a,aZ gC.a,aZ gE.a,aZ gV])/\h'=hp h ([bH gS o.Snaps,aX gC o.Chunks,bM gE o.Exps,aV gV o.Vols]++((bL gS o.Snaps)++((aY gC o.Chunks)++(bN gE o.Exps))))):=by
 refine fM 98 [.cell 2 30] Tryz.func77 rfl rfl rfl rfl ?_
 unfold OY at m
 refine vs (v0 (gX rfl rfl λk2 K3=>ve λu=>bE (jB) u rO rfl rfl λk5 K6=>qk K6 rfl (vs (v0 (vz [(13,some k2,.obj 30 (aD p0))] mixed (λu=>⟨λ_=>aN 1 u rfl,trivial⟩) λu=>zF 0 rfl eG rfl (zL 1 0 (.sl none 4 (map bQ p0.Snaps)) rfl fE rfl rfl rfl (zF 3 rfl eM rfl (zL 4 0 (.sl none 35 (map aK p0.Chunks)) rfl fA rfl rfl rfl (zF 6 rfl eH rfl (zL 7 0 (.sl none 3 (map cE p0.Exps)) rfl gN rfl rfl rfl (zF 9 rfl gW rfl (zL 10 0 (.sl none 4 (map dN p0.Vols)) rfl gH rfl rfl rfl ?_))))))))))))
 obtain⟨y0,Y0,m⟩:=aC m
 refine zE 2 rfl (dD (aC8 _ Y0) rfl aC9 rfl ?_)
 rintro x h' ⟨ag0,O0,K0,rfl,rfl⟩
 rw[kW]
 refine⟨⟨λ_=>aN 2 (bT.co u K0) rfl,trivial⟩, ?_⟩
 refine zF 12 rfl eG rfl ?_
 obtain⟨y1,Y1,m⟩:=aC m
 refine zE 5 rfl (dD (aDA _ Y1) rfl aDB rfl ?_)
 rintro x h' ⟨ag1,O1,K1,rfl,rfl⟩
 rw[kW]
 refine⟨⟨λ_=>aN 3 (bT.co (bT.co u K0) K1) rfl,trivial⟩, ?_⟩
 obtain⟨y2,Y2,m⟩:=aC m
 refine zE 8 rfl (dD (aDC _ Y2) rfl aDD rfl ?_)
 rintro x h' ⟨ag2,O2,K2,rfl,rfl⟩
 rw[kW]
 refine⟨⟨λ_=>aN 4 (bT.co (bT.co (bT.co u K0) K1) K2) rfl,trivial⟩, ?_⟩
 obtain⟨y3,Y3,m⟩:=aC m
 refine zE 11 rfl (dD (aDE _ Y3) rfl aDF rfl ?_)
 rintro x h' ⟨ag3,O3,K4,rfl,rfl⟩
 rw[kW]
 refine⟨⟨λ_=>aN 5 (bT.co (bT.co (bT.co (bT.co u K0) K1) K2) K4) rfl,trivial⟩, ?_⟩
 refine zE 13 rfl (aL 5 ([nZ p0.Seq,aZ ag0,.sl none 35 (map aK p0.Chunks),.sl none 3 (map cE p0.Exps),.sl none 4 (map dN p0.Vols)]) (bT.co (bT.co (bT.co (bT.co u K0) K1) K2) K4) rfl rfl (cH rfl) (cI (bZ _ _ _) rfl) M0 rfl rfl λK5=>⟨⟨λe=>absurd e (by decide),trivial⟩, ?_⟩)
 refine zF 14 rfl eM rfl (zE 15 rfl (aL 5 ([nZ p0.Seq,aZ ag0,aZ ag1,.sl none 3 (map cE p0.Exps),.sl none 4 (map dN p0.Vols)]) K5 rfl rfl (cH rfl) (cI (bZ _ _ _) rfl) CU rfl rfl λK7=>⟨⟨λe=>absurd e (by decide),trivial⟩, ?_⟩))
 refine zF 16 rfl eH rfl (zE 17 rfl (aL 5 ([nZ p0.Seq,aZ ag0,aZ ag1,aZ ag2,.sl none 4 (map dN p0.Vols)]) K7 rfl rfl (cH rfl) (cI (bZ _ _ _) rfl) KH rfl rfl λK8=>⟨⟨λe=>absurd e (by decide),trivial⟩, ?_⟩))
 refine zF 18 rfl gW rfl (zE 19 rfl (aL 5 ([nZ p0.Seq,aZ ag0,aZ ag1,aZ ag2,aZ ag3]) K8 rfl rfl (cH rfl) (cI (bZ _ _ _) rfl) VV rfl rfl λK9=>⟨⟨λe=>absurd e (by decide),trivial⟩, ?_⟩))
 refine zX (qk (f:=.c 23 _ (.c 22 _ (.c 21 _ (.c 19 _ (.c 16 _ (.c 13 _ (.c 20 _ (.c 10 _ (.c 18 _ (.c 17 _ (.c 15 _ (.c 14 _ (.c 12 _ (.c 11 _ (.c 9 _ (.c 8 _ _)))))))))))))))) K9 rfl (vs (vs (pJ (toN (L':=([aV ag3 y3,bM (⟨ag2,replicate (y2:List aQ).length none⟩:dC) y2,bO ag1 y1,bU ag0 y0,(some k5,.obj 30 (jB)),OC k2 p0.Seq ag0 ag1 ((⟨ag2,replicate (y2:List aQ).length none⟩:dC).a) ag3]++(bN (⟨ag2,replicate (y2:List aQ).length none⟩:dC) y2))) (λ_=>rfl) [[_],[_],[_],[_],[_],[_]] rfl 1 rfl rfl) (pJ (toN (L':=([aV ag3 y3,bM (⟨ag2,replicate (y2:List aQ).length none⟩:dC) y2,aX (⟨ag1,replicate (y1:List aB).length none⟩:dC) y1,bU ag0 y0,(some k5,.obj 30 (jB)),OC k2 p0.Seq ag0 ((⟨ag1,replicate (y1:List aB).length none⟩:dC).a) ((⟨ag2,replicate (y2:List aQ).length none⟩:dC).a) ag3]++((bN (⟨ag2,replicate (y2:List aQ).length none⟩:dC) y2)++(aY (⟨ag1,replicate (y1:List aB).length none⟩:dC) y1)))) (λ_=>rfl) [[_],[_],[_],[_],[_],[_],_] rfl 2 rfl rfl) (pJ (toN (L':=([aV ag3 y3,bM (⟨ag2,replicate (y2:List aQ).length none⟩:dC) y2,aX (⟨ag1,replicate (y1:List aB).length none⟩:dC) y1,bH (⟨ag0,replicate (y0:List aI).length none⟩:dC) y0,(some k5,.obj 30 (jB)),OC k2 p0.Seq ((⟨ag0,replicate (y0:List aI).length none⟩:dC).a) ((⟨ag1,replicate (y1:List aB).length none⟩:dC).a) ((⟨ag2,replicate (y2:List aQ).length none⟩:dC).a) ag3]++((bN (⟨ag2,replicate (y2:List aQ).length none⟩:dC) y2)++((aY (⟨ag1,replicate (y1:List aB).length none⟩:dC) y1)++(bL (⟨ag0,replicate (y0:List aI).length none⟩:dC) y0))))) (λ_=>rfl) [[_],[_],[_],[_],[_],[_],_,_] rfl 3 rfl rfl) (v0 (dY eG rfl rfl (vl 5 (aw (⟨ag0,replicate (y0:List aI).length none⟩:dC).a.t (⟨ag0,replicate (y0:List aI).length none⟩:dC).a.n (⟨ag0,replicate (y0:List aI).length none⟩:dC).a.cap) fE rfl rfl rfl (bV (eC kN ((C6.zero (l:=aI.Locs) (szi:=4) O0).k.a) rfl) ?_))))))))))
 refine XA m (σ:=(List aI)×Int) (τ:=dC) (λg s=>([aV ag3 y3,bM (⟨ag2,replicate (y2:List aQ).length none⟩:dC) y2,aX (⟨ag1,replicate (y1:List aB).length none⟩:dC) y1,bH g s.1,(some k5,.obj 30 (jB)),OC k2 p0.Seq g.a ((⟨ag1,replicate (y1:List aB).length none⟩:dC).a) ((⟨ag2,replicate (y2:List aQ).length none⟩:dC).a) ag3]++((bN (⟨ag2,replicate (y2:List aQ).length none⟩:dC) y2)++((aY (⟨ag1,replicate (y1:List aB).length none⟩:dC) y1)++(bL g s.1))))) (λg s=>C6 aI.Locs 4 4 g (s.1:List aI) s.2.toNat (y0:List aI).length) (λg s=>mH aI.Locs 4 4 g (s.1:List aI)) (λg s=>.c 1 (.ptr k2 0) (.c 2 (.ptr k5 0) (.c 26 (nZ (y0.length:Int)) (.c 27 (nZ s.2) .nil)))) (⟨ag0,replicate (y0:List aI).length none⟩:dC) (C6.zero (l:=aI.Locs) (szi:=4) O0) (lx (.k4 .nil)) ?_ ?_
 rintro ng0 ⟨q0,q1⟩ x O4 m
 replace m:uI w y0 q0 q1=some x:=m
 unfold uI at m
 refine vs (v0 (vs (v0 ?_)))
 apply vi m<;>intro c0 m
 refine v0 (vs (v0 (vs (v0 (vs (v0 (dY eG rfl rfl (vl 5 (aZ ng0.a) fE rfl rfl rfl ?_))))))))
 obtain⟨x0,X0,m⟩:=aC m
 refine bV (cQ (O4.k.ix X0) jG O4.k.z rfl rfl) (pJ (OD (L':=([aV ag3 y3,bM (⟨ag2,replicate (y2:List aQ).length none⟩:dC) y2,aX (⟨ag1,replicate (y1:List aB).length none⟩:dC) y1,bH ng0 q0,(some k5,.obj 30 (jB)),OC k2 p0.Seq ng0.a ((⟨ag1,replicate (y1:List aB).length none⟩:dC).a) ((⟨ag2,replicate (y2:List aQ).length none⟩:dC).a) ag3]++((bN (⟨ag2,replicate (y2:List aQ).length none⟩:dC) y2)++((aY (⟨ag1,replicate (y1:List aB).length none⟩:dC) y1)++(kP 81 aO ((nl aI.Locs (zg (q0:List aI) ng0.gs)).eraseIdx q1.toNat)))))) [[_],[_],[_],[_],[_],[_],_,_,_] rfl 8 (q1.toNat) rfl rfl) (v0 (vz [(14,ng0.a.t,.obj 60 (fl lA (zg (q0:List aI) ng0.gs) ng0.a.sp))] mixed (λu=>⟨λ_=>aN 3 u rfl,trivial⟩) λu=>zC 0 rfl (fC (wW _ _) rfl) (zC 1 rfl (fC (wW _ _) rfl) (zC 2 rfl (fC (wW _ _) rfl) (zC 3 rfl (i9 (bJ.ne O4.k.z (O4.k.ix X0)) rfl) (zC 4 rfl (cV (bJ.ne O4.k.z (O4.k.ix X0)) rQ rfl rfl) (w6 5 rfl (λ_ _ hi hB=>dX (fo:=1) (.agg (bP x0.Man)) (O4.k.ix X0) lB O4.k.z p5 rfl (fS.get 0 hi rfl (hB 14 (by kernel_rfl))) (λ_=>rfl)) ?_))))))))
 obtain⟨y4,Y4,m⟩:=aC m
 refine zC 6 rfl (bW (aIU _ Y4) rfl aC7 rfl) (zC 7 rfl (fC (wW _ _) rfl) (zC 8 rfl (i9 (bJ.ne O4.k.z (O4.k.ix X0)) rfl) (zC 9 rfl (cV (bJ.ne O4.k.z (O4.k.ix X0)) kJ rfl rfl) (w6 10 rfl (λ_ _ hi hB=>gR (dX (fo:=3) (awO aO 4 (gx ng0.gs q1.toNat) x0.Locs) (O4.k.ix X0) lB O4.k.z fO rfl (fS.get 0 hi rfl (hB 14 (by kernel_rfl))) (λ_=>rfl)) (bD.of_eq (congrArg (λz=>awO aO 4 z x0.Locs) (O4.post _ (le_refl _))))) ?_))))
 obtain⟨y5,Y5,m⟩:=aC m
 refine zE 11 rfl (dD (SD _ Y5) rfl SF rfl ?_)
 rintro x h' ⟨ag4,O5,K10,rfl,rfl⟩
 rw[kW]
 refine⟨⟨λ_=>aN 4 (bT.co u K10) rfl,trivial⟩, ?_⟩
 refine zC 12 rfl (i9 (bJ.ne O4.k.z (O4.k.ix X0)) rfl) (zC 13 rfl (cV (bJ.ne O4.k.z (O4.k.ix X0)) rQ rfl rfl) (zE 14 rfl (cO (fo:=1) (x':=(({ x0 with Man:=y4}:aI),(gx ng0.gs q1.toNat))) 4 (bT.co u K10) (O4.k.ix X0) lB O4.k.z rfl rfl rfl rfl (cW.refl _ _) AI rfl rfl ?_)))
 intro K11
 have hs0:tZ aI.Locs 4 4 ng0 (q0:List aI):=O4.k
 have hn0:hp h _=hp h ([fG ag4 y5,aV ag3 y3,bM (⟨ag2,replicate (y2:List aQ).length none⟩:dC) y2,aX (⟨ag1,replicate (y1:List aB).length none⟩:dC) y1,bH ng0 (q0.set q1.toNat ({ x0 with Man:=y4})),(some k5,.obj 30 (jB)),OC k2 p0.Seq ng0.a ((⟨ag1,replicate (y1:List aB).length none⟩:dC).a) ((⟨ag2,replicate (y2:List aQ).length none⟩:dC).a) ag3]++((bN (⟨ag2,replicate (y2:List aQ).length none⟩:dC) y2)++((aY (⟨ag1,replicate (y1:List aB).length none⟩:dC) y1)++(kP 81 aO ((nl aI.Locs (zg (q0.set q1.toNat ({ x0 with Man:=y4}):List aI) ng0.gs)).eraseIdx q1.toNat)))))/\bT h ([fG ag4 y5,aV ag3 y3,bM (⟨ag2,replicate (y2:List aQ).length none⟩:dC) y2,aX (⟨ag1,replicate (y1:List aB).length none⟩:dC) y1,bH ng0 (q0.set q1.toNat ({ x0 with Man:=y4})),(some k5,.obj 30 (jB)),OC k2 p0.Seq ng0.a ((⟨ag1,replicate (y1:List aB).length none⟩:dC).a) ((⟨ag2,replicate (y2:List aQ).length none⟩:dC).a) ag3]++((bN (⟨ag2,replicate (y2:List aQ).length none⟩:dC) y2)++((aY (⟨ag1,replicate (y1:List aB).length none⟩:dC) y1)++(kP 81 aO ((nl aI.Locs (zg (q0.set q1.toNat ({ x0 with Man:=y4}):List aI) ng0.gs)).eraseIdx q1.toNat))))):=eqN (L:=_) K11 (by unfold bH; (try unfold bL); rw[(hs0.set (x':=({ x0 with Man:=y4}:aI)) X0 rfl).2.2,<- (hs0.set (x':=({ x0 with Man:=y4}:aI)) X0 rfl).2.1]; first | done | rfl)
 refine nH hn0.1 (⟨⟨λe=>absurd e (by decide),trivial⟩, ?_⟩)
 refine zC 15 rfl (i9 (bJ.ne ((O4.set (x':=({ x0 with Man:=y4}:aI)) X0 rfl).k.z) ((O4.set (x':=({ x0 with Man:=y4}:aI)) X0 rfl).k.ix (dB (x':=({ x0 with Man:=y4}:aI)) X0))) rfl) (zC 16 rfl (cV (bJ.ne ((O4.set (x':=({ x0 with Man:=y4}:aI)) X0 rfl).k.z) ((O4.set (x':=({ x0 with Man:=y4}:aI)) X0 rfl).k.ix (dB (x':=({ x0 with Man:=y4}:aI)) X0))) kJ rfl rfl) (zE 17 rfl (cO (fo:=3) (x':=(({ ({ x0 with Man:=y4}:aI) with Locs:=y5}:aI),some ag4)) 4 hn0.2 ((O4.set (x':=({ x0 with Man:=y4}:aI)) X0 rfl).k.ix (dB (x':=({ x0 with Man:=y4}:aI)) X0)) lB ((O4.set (x':=({ x0 with Man:=y4}:aI)) X0 rfl).k.z) rfl rfl (cH rfl) (cI (bZ _ _ _) rfl) (cW.refl _ _) oD rfl rfl ?_)))
 intro K12
 have O6:=(O4.set (x':=({ x0 with Man:=y4}:aI)) X0 rfl).step (x':=({ ({ x0 with Man:=y4}:aI) with Locs:=y5}:aI)) (dB (x':=({ x0 with Man:=y4}:aI)) X0) ag4 O5
 have hr0:=uA (L':=(dO ag4 y5)::(([aV ag3 y3,bM (⟨ag2,replicate (y2:List aQ).length none⟩:dC) y2,aX (⟨ag1,replicate (y1:List aB).length none⟩:dC) y1,(ng0.a.t,.obj 60 (fl lA (((zg (q0.set q1.toNat ({ x0 with Man:=y4}):List aI) ng0.gs)).set q1.toNat (({ ({ x0 with Man:=y4}:aI) with Locs:=y5}:aI),some ag4)) ng0.a.sp)),(some k5,.obj 30 (jB)),OC k2 p0.Seq ng0.a ((⟨ag1,replicate (y1:List aB).length none⟩:dC).a) ((⟨ag2,replicate (y2:List aQ).length none⟩:dC).a) ag3]:HL)++((bN (⟨ag2,replicate (y2:List aQ).length none⟩:dC) y2)++((aY (⟨ag1,replicate (y1:List aB).length none⟩:dC) y1)++(kP 81 aO ((nl aI.Locs (zg (q0.set q1.toNat ({ x0 with Man:=y4}):List aI) ng0.gs)).eraseIdx q1.toNat)))))) K12 [[_],[_],[_],[_],[_],[_],[_],_,_,_] rfl [0,1,2,3,4,5,6,7,8,9] rfl rfl
 have hj0:=o7 (L':=([aV ag3 y3,bM (⟨ag2,replicate (y2:List aQ).length none⟩:dC) y2,aX (⟨ag1,replicate (y1:List aB).length none⟩:dC) y1,bH (⟨ng0.a,ng0.gs.set q1.toNat (some ag4)⟩:dC) ((q0.set q1.toNat ({ x0 with Man:=y4})).set q1.toNat ({ ({ x0 with Man:=y4}:aI) with Locs:=y5})),(some k5,.obj 30 (jB)),OC k2 p0.Seq ((⟨ng0.a,ng0.gs.set q1.toNat (some ag4)⟩:dC).a) ((⟨ag1,replicate (y1:List aB).length none⟩:dC).a) ((⟨ag2,replicate (y2:List aQ).length none⟩:dC).a) ag3]++((bN (⟨ag2,replicate (y2:List aQ).length none⟩:dC) y2)++((aY (⟨ag1,replicate (y1:List aB).length none⟩:dC) y1)++(bL (⟨ng0.a,ng0.gs.set q1.toNat (some ag4)⟩:dC) ((q0.set q1.toNat ({ x0 with Man:=y4})).set q1.toNat ({ ({ x0 with Man:=y4}:aI) with Locs:=y5}))))))) [[_],[_],[_],[_],[_],[_],_,_,_] rfl 8 (zs:=nl aI.Locs (zg (q0.set q1.toNat ({ x0 with Man:=y4}):List aI) ng0.gs)) (j:=q1.toNat) (aI.Locs ({ ({ x0 with Man:=y4}:aI) with Locs:=y5}:aI),some ag4) (jX ((O4.set (x':=({ x0 with Man:=y4}:aI)) X0 rfl).k.nlat (dB (x':=({ x0 with Man:=y4}:aI)) X0))) rfl hr0.2 (by rw[<- ((O4.set (x':=({ x0 with Man:=y4}:aI)) X0 rfl).k.setL (x':=({ ({ x0 with Man:=y4}:aI) with Locs:=y5}:aI)) (dB (x':=({ x0 with Man:=y4}:aI)) X0) ag4 O5).2.2,((O4.set (x':=({ x0 with Man:=y4}:aI)) X0 rfl).k.setL (x':=({ ({ x0 with Man:=y4}:aI) with Locs:=y5}:aI)) (dB (x':=({ x0 with Man:=y4}:aI)) X0) ag4 O5).2.1]; rfl)
 refine nH (hr0.1.trans hj0.1) (⟨⟨λe=>absurd e (by decide),trivial⟩, ?_⟩)
 exact zX (qk (f:=MX 49 _ _ _ _ _ _ _ _ _ _ _ _ _ _ _ _ _) hj0.2 rfl (v0 (eF m (⟨ng0.a,ng0.gs.set q1.toNat (some ag4)⟩:dC) O6 (lx (.k4 .nil)))))
 exact v0 (lF m ng0 (O4.all c0) (lx (.k4 .nil)))
 rintro ng1 ⟨r0,r1⟩ t0 m
 refine vs (vs (v0 (dY eM rfl rfl (vl 5 (aw (⟨ag1,replicate (y1:List aB).length none⟩:dC).a.t (⟨ag1,replicate (y1:List aB).length none⟩:dC).a.n (⟨ag1,replicate (y1:List aB).length none⟩:dC).a.cap) fA rfl rfl rfl (bV (eC kY ((C6.zero (l:=aB.Locs) (szi:=4) O1).k.a) rfl) (XA m (σ:=(List aB)×Int) (τ:=dC) (λg s=>([aV ag3 y3,bM (⟨ag2,replicate (y2:List aQ).length none⟩:dC) y2,aX g s.1,bH ng1 r0,(some k5,.obj 30 (jB)),OC k2 p0.Seq ng1.a g.a ((⟨ag2,replicate (y2:List aQ).length none⟩:dC).a) ag3]++((bN (⟨ag2,replicate (y2:List aQ).length none⟩:dC) y2)++((aY g s.1)++(bL ng1 r0))))) (λg s=>C6 aB.Locs 35 4 g (s.1:List aB) s.2.toNat (y1:List aB).length) (λg s=>mH aB.Locs 35 4 g (s.1:List aB)) (λg s=>.c 1 (.ptr k2 0) (.c 2 (.ptr k5 0) (.c 53 (nZ (y1.length:Int)) (.c 54 (nZ s.2) .nil)))) (⟨ag1,replicate (y1:List aB).length none⟩:dC) (C6.zero (l:=aB.Locs) (szi:=4) O1) (lx (.k4 .nil)) ?_ ?_))))))
 rintro ng2 ⟨q2,q3⟩ x O7 m
 replace m:uJ w y1 q2 q3=some x:=m
 unfold uJ at m
 refine vs (v0 (vs (v0 ?_)))
 apply vi m<;>intro c1 m
 refine v0 (vs (v0 (vs (v0 (vs (v0 (dY eM rfl rfl (vl 5 (aZ ng2.a) fA rfl rfl rfl ?_))))))))
 obtain⟨x1,X1,m⟩:=aC m
 refine bV (cQ (O7.k.ix X1) fZ O7.k.z rfl rfl) (pJ (OD (L':=([aV ag3 y3,bM (⟨ag2,replicate (y2:List aQ).length none⟩:dC) y2,aX ng2 q2,bH ng1 r0,(some k5,.obj 30 (jB)),OC k2 p0.Seq ng1.a ng2.a ((⟨ag2,replicate (y2:List aQ).length none⟩:dC).a) ag3]++((bN (⟨ag2,replicate (y2:List aQ).length none⟩:dC) y2)++((kP 81 aO ((nl aB.Locs (zg (q2:List aB) ng2.gs)).eraseIdx q3.toNat))++(bL ng1 r0))))) [[_],[_],[_],[_],[_],[_],_,_,_] rfl 7 (q3.toNat) rfl rfl) (v0 (vz [(14,ng2.a.t,.obj 44 (fl jR (zg (q2:List aB) ng2.gs) ng2.a.sp))] mixed (λu=>⟨λ_=>aN 2 u rfl,trivial⟩) λu=>zC 0 rfl (fC (wW _ _) rfl) (zC 1 rfl (fC (wW _ _) rfl) (zC 2 rfl (fC (wW _ _) rfl) (zC 3 rfl (i9 (bJ.ne O7.k.z (O7.k.ix X1)) rfl) (zC 4 rfl (cV (bJ.ne O7.k.z (O7.k.ix X1)) mC rfl rfl) (w6 5 rfl (λ_ _ hi hB=>dX (fo:=33) (.sl none 1 (map gG x1.Data)) (O7.k.ix X1) i8 O7.k.z oB rfl (fS.get 0 hi rfl (hB 14 (by kernel_rfl))) (λ_=>rfl)) (zC 7 rfl (fC (wW _ _) rfl) (zC 8 rfl (i9 (bJ.ne O7.k.z (O7.k.ix X1)) rfl) (zC 9 rfl (cV (bJ.ne O7.k.z (O7.k.ix X1)) jA rfl rfl) (w6 10 rfl (λ_ _ hi hB=>gR (dX (fo:=34) (awO aO 4 (gx ng2.gs q3.toNat) x1.Locs) (O7.k.ix X1) i8 O7.k.z fO rfl (fS.get 0 hi rfl (hB 14 (by kernel_rfl))) (λ_=>rfl)) (bD.of_eq (congrArg (λz=>awO aO 4 z x1.Locs) (O7.post _ (le_refl _))))) ?_))))))))))))
 obtain⟨y6,Y6,m⟩:=aC m
 refine zE 6 rfl (dD (W96 _ Y6) rfl aGL rfl ?_)
 rintro x h' ⟨tg0,t1,K13,rfl,rfl⟩
 rw[kW]
 refine⟨⟨λ_=>aN 3 (bT.co u K13) rfl,trivial⟩, ?_⟩
 obtain⟨y7,Y7,m⟩:=aC m
 refine zE 11 rfl (dD (SD _ Y7) rfl SF rfl ?_)
 rintro x h' ⟨ag5,O8,K14,rfl,rfl⟩
 rw[kW]
 refine⟨⟨λ_=>aN 4 (bT.co (bT.co u K13) K14) rfl,trivial⟩, ?_⟩
 refine zC 12 rfl (i9 (bJ.ne O7.k.z (O7.k.ix X1)) rfl) (zC 13 rfl (cV (bJ.ne O7.k.z (O7.k.ix X1)) mC rfl rfl) (zE 14 rfl (G1 (s:=67) (.sl none 1 (map gG y6)) (aU (.cons_cons _ (.cons _ (.refl _))) (bT.co (bT.co u K13) K14)).1 (Fz.ale (aU (.cons_cons _ (.cons _ (.refl _))) (bT.co (bT.co u K13) K14)).1 (sP _ 1 t1 (bT.co (bT.co u K13) K14) rfl (.refl _))) (cO (fo:=33) (x':=(({ x1 with Data:=y6}:aB),(gx ng2.gs q3.toNat))) 3 ((aU (.cons_cons _ (.cons _ (.refl _))) (bT.co (bT.co u K13) K14)).2) (O7.k.ix X1) i8 O7.k.z rfl rfl rfl rfl (cW.refl _ _) EV rfl rfl ?_))))
 intro K15
 have hs1:tZ aB.Locs 35 4 ng2 (q2:List aB):=O7.k
 have hn1:hp h _=hp h ([fG ag5 y7,aV ag3 y3,bM (⟨ag2,replicate (y2:List aQ).length none⟩:dC) y2,aX ng2 (q2.set q3.toNat ({ x1 with Data:=y6})),bH ng1 r0,(some k5,.obj 30 (jB)),OC k2 p0.Seq ng1.a ng2.a ((⟨ag2,replicate (y2:List aQ).length none⟩:dC).a) ag3]++((bN (⟨ag2,replicate (y2:List aQ).length none⟩:dC) y2)++((kP 81 aO ((nl aB.Locs (zg (q2.set q3.toNat ({ x1 with Data:=y6}):List aB) ng2.gs)).eraseIdx q3.toNat))++(bL ng1 r0))))/\bT h ([fG ag5 y7,aV ag3 y3,bM (⟨ag2,replicate (y2:List aQ).length none⟩:dC) y2,aX ng2 (q2.set q3.toNat ({ x1 with Data:=y6})),bH ng1 r0,(some k5,.obj 30 (jB)),OC k2 p0.Seq ng1.a ng2.a ((⟨ag2,replicate (y2:List aQ).length none⟩:dC).a) ag3]++((bN (⟨ag2,replicate (y2:List aQ).length none⟩:dC) y2)++((kP 81 aO ((nl aB.Locs (zg (q2.set q3.toNat ({ x1 with Data:=y6}):List aB) ng2.gs)).eraseIdx q3.toNat))++(bL ng1 r0)))):=eqN (L:=_) K15 (by unfold aX; (try unfold aY); rw[(hs1.set (x':=({ x1 with Data:=y6}:aB)) X1 rfl).2.2,<- (hs1.set (x':=({ x1 with Data:=y6}:aB)) X1 rfl).2.1]; first | done | rfl)
 refine nH hn1.1 (⟨⟨λe=>absurd e (by decide),trivial⟩, ?_⟩)
 refine zC 15 rfl (i9 (bJ.ne ((O7.set (x':=({ x1 with Data:=y6}:aB)) X1 rfl).k.z) ((O7.set (x':=({ x1 with Data:=y6}:aB)) X1 rfl).k.ix (dB (x':=({ x1 with Data:=y6}:aB)) X1))) rfl) (zC 16 rfl (cV (bJ.ne ((O7.set (x':=({ x1 with Data:=y6}:aB)) X1 rfl).k.z) ((O7.set (x':=({ x1 with Data:=y6}:aB)) X1 rfl).k.ix (dB (x':=({ x1 with Data:=y6}:aB)) X1))) jA rfl rfl) (zE 17 rfl (cO (fo:=34) (x':=(({ ({ x1 with Data:=y6}:aB) with Locs:=y7}:aB),some ag5)) 3 hn1.2 ((O7.set (x':=({ x1 with Data:=y6}:aB)) X1 rfl).k.ix (dB (x':=({ x1 with Data:=y6}:aB)) X1)) i8 ((O7.set (x':=({ x1 with Data:=y6}:aB)) X1 rfl).k.z) rfl rfl (cH rfl) (cI (bZ _ _ _) rfl) (cW.refl _ _) oD rfl rfl ?_)))
 intro K16
 have O9:=(O7.set (x':=({ x1 with Data:=y6}:aB)) X1 rfl).step (x':=({ ({ x1 with Data:=y6}:aB) with Locs:=y7}:aB)) (dB (x':=({ x1 with Data:=y6}:aB)) X1) ag5 O8
 have hr1:=uA (L':=(dO ag5 y7)::(([aV ag3 y3,bM (⟨ag2,replicate (y2:List aQ).length none⟩:dC) y2,(ng2.a.t,.obj 44 (fl jR (((zg (q2.set q3.toNat ({ x1 with Data:=y6}):List aB) ng2.gs)).set q3.toNat (({ ({ x1 with Data:=y6}:aB) with Locs:=y7}:aB),some ag5)) ng2.a.sp)),bH ng1 r0,(some k5,.obj 30 (jB)),OC k2 p0.Seq ng1.a ng2.a ((⟨ag2,replicate (y2:List aQ).length none⟩:dC).a) ag3]:HL)++((bN (⟨ag2,replicate (y2:List aQ).length none⟩:dC) y2)++((kP 81 aO ((nl aB.Locs (zg (q2.set q3.toNat ({ x1 with Data:=y6}):List aB) ng2.gs)).eraseIdx q3.toNat))++(bL ng1 r0))))) K16 [[_],[_],[_],[_],[_],[_],[_],_,_,_] rfl [0,1,2,3,4,5,6,7,8,9] rfl rfl
 have hj1:=o7 (L':=([aV ag3 y3,bM (⟨ag2,replicate (y2:List aQ).length none⟩:dC) y2,aX (⟨ng2.a,ng2.gs.set q3.toNat (some ag5)⟩:dC) ((q2.set q3.toNat ({ x1 with Data:=y6})).set q3.toNat ({ ({ x1 with Data:=y6}:aB) with Locs:=y7})),bH ng1 r0,(some k5,.obj 30 (jB)),OC k2 p0.Seq ng1.a ((⟨ng2.a,ng2.gs.set q3.toNat (some ag5)⟩:dC).a) ((⟨ag2,replicate (y2:List aQ).length none⟩:dC).a) ag3]++((bN (⟨ag2,replicate (y2:List aQ).length none⟩:dC) y2)++((aY (⟨ng2.a,ng2.gs.set q3.toNat (some ag5)⟩:dC) ((q2.set q3.toNat ({ x1 with Data:=y6})).set q3.toNat ({ ({ x1 with Data:=y6}:aB) with Locs:=y7})))++(bL ng1 r0))))) [[_],[_],[_],[_],[_],[_],_,_,_] rfl 7 (zs:=nl aB.Locs (zg (q2.set q3.toNat ({ x1 with Data:=y6}):List aB) ng2.gs)) (j:=q3.toNat) (aB.Locs ({ ({ x1 with Data:=y6}:aB) with Locs:=y7}:aB),some ag5) (jX ((O7.set (x':=({ x1 with Data:=y6}:aB)) X1 rfl).k.nlat (dB (x':=({ x1 with Data:=y6}:aB)) X1))) rfl hr1.2 (by rw[<- ((O7.set (x':=({ x1 with Data:=y6}:aB)) X1 rfl).k.setL (x':=({ ({ x1 with Data:=y6}:aB) with Locs:=y7}:aB)) (dB (x':=({ x1 with Data:=y6}:aB)) X1) ag5 O8).2.2,((O7.set (x':=({ x1 with Data:=y6}:aB)) X1 rfl).k.setL (x':=({ ({ x1 with Data:=y6}:aB) with Locs:=y7}:aB)) (dB (x':=({ x1 with Data:=y6}:aB)) X1) ag5 O8).2.1]; rfl)
 refine nH (hr1.1.trans hj1.1) (⟨⟨λe=>absurd e (by decide),trivial⟩, ?_⟩)
 exact zX (qk (f:=fq5 76 _ _ _ _ _ (.c 67 _ (T5 71 _ _ _ _ (fq6 66 _ _ _ _ _ _ _)))) hj1.2 rfl (v0 (eF m (⟨ng2.a,ng2.gs.set q3.toNat (some ag5)⟩:dC) O9 (lx (.k4 .nil)))))
 exact v0 (lF m ng2 (O7.all c1) (lx (.k4 .nil)))
 rintro ng3 ⟨r2,r3⟩ t2 m
 refine vs (vs (v0 (dY eH rfl rfl (vl 5 (aw (⟨ag2,replicate (y2:List aQ).length none⟩:dC).a.t (⟨ag2,replicate (y2:List aQ).length none⟩:dC).a.n (⟨ag2,replicate (y2:List aQ).length none⟩:dC).a.cap) gN rfl rfl rfl (bV (eC nK ((C6.zero (l:=aQ.Locs) (szi:=4) O2).k.a) rfl) (XA m (σ:=(List aQ)×Int) (τ:=dC) (λg s=>([aV ag3 y3,bM g s.1,aX ng3 r2,bH ng1 r0,(some k5,.obj 30 (jB)),OC k2 p0.Seq ng1.a ng3.a g.a ag3]++((bN g s.1)++((aY ng3 r2)++(bL ng1 r0))))) (λg s=>C6 aQ.Locs 3 4 g (s.1:List aQ) s.2.toNat (y2:List aQ).length) (λg s=>mH aQ.Locs 3 4 g (s.1:List aQ)) (λg s=>.c 1 (.ptr k2 0) (.c 2 (.ptr k5 0) (.c 80 (nZ (y2.length:Int)) (.c 81 (nZ s.2) .nil)))) (⟨ag2,replicate (y2:List aQ).length none⟩:dC) (C6.zero (l:=aQ.Locs) (szi:=4) O2) (lx (.k4 .nil)) ?_ ?_))))))
 rintro ng4 ⟨q4,q5⟩ x O10 m
 replace m:uK w y2 q4 q5=some x:=m
 unfold uK at m
 refine vs (v0 (vs (v0 ?_)))
 apply vi m<;>intro c2 m
 refine v0 (vs (v0 (vs (v0 (pJ (OD (L':=([aV ag3 y3,bM ng4 q4,aX ng3 r2,bH ng1 r0,(some k5,.obj 30 (jB)),OC k2 p0.Seq ng1.a ng3.a ng4.a ag3]++((kP 81 aO ((nl aQ.Locs (zg (q4:List aQ) ng4.gs)).eraseIdx q5.toNat))++((aY ng3 r2)++(bL ng1 r0))))) [[_],[_],[_],[_],[_],[_],_,_,_] rfl 6 (q5.toNat) rfl rfl) (v0 (vz [(1000000,some k2,.obj 30 ([nZ p0.Seq,aZ ng1.a,aZ ng3.a,aZ ng4.a,aZ ag3])),(12,ng4.a.t,.obj 99 (fl lP (zg (q4:List aQ) ng4.gs) ng4.a.sp))] mixed (λu=>⟨λ_=>aN 5 u rfl,λ_=>aN 1 u rfl,trivial⟩) λu=>zF 0 rfl eH rfl (zL 1 0 (aZ ng4.a) rfl gN rfl rfl rfl (zI 2 rfl rfl (zF 3 rfl eH rfl (zL 4 0 (aZ ng4.a) rfl gN rfl rfl rfl (zI 5 rfl rfl ?_))))))))))))
 obtain⟨x2,X2,m⟩:=aC m
 refine zC 6 rfl (cQ (O10.k.ix X2) gU O10.k.z rfl rfl) (zC 7 rfl (cV (bJ.ne O10.k.z (O10.k.ix X2)) lN rfl rfl) (w6 8 rfl (λ_ _ hi hB=>gR (dX (fo:=2) (awO aO 4 (gx ng4.gs q5.toNat) x2.Locs) (O10.k.ix X2) o8 O10.k.z fO rfl (fS.get 1 hi rfl (hB 12 (by kernel_rfl))) (λ_=>rfl)) (bD.of_eq (congrArg (λz=>awO aO 4 z x2.Locs) (O10.post _ (le_refl _))))) ?_))
 obtain⟨y8,Y8,m⟩:=aC m
 refine zE 9 rfl (dD (SD _ Y8) rfl SF rfl ?_)
 rintro x h' ⟨ag6,O11,K17,rfl,rfl⟩
 rw[kW]
 refine⟨⟨λ_=>aN 6 (bT.co u K17) rfl,λ_=>aN 2 (bT.co u K17) rfl,trivial⟩, ?_⟩
 obtain⟨x3,X3,m⟩:=aC m
 refine zC 10 rfl (cQ (O10.k.ix X3) gU O10.k.z rfl rfl) (zC 11 rfl (cV (bJ.ne O10.k.z (O10.k.ix X3)) lN rfl rfl) (zE 12 rfl (cO (fo:=2) (x':=(({ x3 with Locs:=y8}:aQ),some ag6)) 2 (bT.co u K17) (O10.k.ix X3) o8 O10.k.z rfl rfl (cH rfl) (cI (bZ _ _ _) rfl) (cW.refl _ _) oD rfl rfl ?_)))
 intro K18
 have O12:=O10.step (x':=({ x3 with Locs:=y8}:aQ)) X3 ag6 O11
 have hr2:=uA (L':=(dO ag6 y8)::(([aV ag3 y3,(ng4.a.t,.obj 99 (fl lP (((zg (q4:List aQ) ng4.gs)).set q5.toNat (({ x3 with Locs:=y8}:aQ),some ag6)) ng4.a.sp)),aX ng3 r2,bH ng1 r0,(some k5,.obj 30 (jB)),OC k2 p0.Seq ng1.a ng3.a ng4.a ag3]:HL)++((kP 81 aO ((nl aQ.Locs (zg (q4:List aQ) ng4.gs)).eraseIdx q5.toNat))++((aY ng3 r2)++(bL ng1 r0))))) K18 [[_],[_],[_],[_],[_],[_],[_],_,_,_] rfl [0,1,2,3,4,5,6,7,8,9] rfl rfl
 have hj2:=o7 (L':=([aV ag3 y3,bM (⟨ng4.a,ng4.gs.set q5.toNat (some ag6)⟩:dC) (q4.set q5.toNat ({ x3 with Locs:=y8})),aX ng3 r2,bH ng1 r0,(some k5,.obj 30 (jB)),OC k2 p0.Seq ng1.a ng3.a ((⟨ng4.a,ng4.gs.set q5.toNat (some ag6)⟩:dC).a) ag3]++((bN (⟨ng4.a,ng4.gs.set q5.toNat (some ag6)⟩:dC) (q4.set q5.toNat ({ x3 with Locs:=y8})))++((aY ng3 r2)++(bL ng1 r0))))) [[_],[_],[_],[_],[_],[_],_,_,_] rfl 6 (zs:=nl aQ.Locs (zg (q4:List aQ) ng4.gs)) (j:=q5.toNat) (aQ.Locs ({ x3 with Locs:=y8}:aQ),some ag6) (jX (O10.k.nlat X3)) rfl hr2.2 (by rw[<- (O10.k.setL (x':=({ x3 with Locs:=y8}:aQ)) X3 ag6 O11).2.2,(O10.k.setL (x':=({ x3 with Locs:=y8}:aQ)) X3 ag6 O11).2.1]; rfl)
 refine nH (hr2.1.trans hj2.1) (⟨⟨λ_=>aN 5 hj2.2 rfl,λe=>absurd e (by decide),trivial⟩, ?_⟩)
 exact zX (qk (f:=MW 95 _ _ _ _ _ _ _ _ _ _ _ _ _) hj2.2 rfl (v0 (eF m (⟨ng4.a,ng4.gs.set q5.toNat (some ag6)⟩:dC) O12 (lx (.k4 .nil)))))
 exact v0 (lF m ng4 (O10.all c2) (lx (.k4 .nil)))
 rintro ng5 ⟨r4,r5⟩ t3 m
 refine vs (v0 (vl 5 (.agg ([nZ p0.Seq,aZ ng1.a,aZ ng3.a,aZ ng5.a,aZ ag3])) dG rfl rfl rfl (ve λu=>aL 4 ([nZ p0.Seq,aZ ng1.a,aZ ng3.a,aZ ng5.a,aZ ag3]) u rfl rfl rfl (by repeat (first | exact rfl | refine cI (jO _ _ _) ?_ | refine cI (bZ _ _ _) ?_ | refine cI (gY _ _ _ _) ?_ | refine cI rfl ?_)) mZ rfl rfl λK19=>qk K19 rfl ?_)))
 refine v0 ?_
 cases m
 exact vr λu=>dW.of1 (.inl rfl) (sS (.agg ([nZ p0.Seq,aZ ng1.a,aZ ng3.a,aZ ng5.a,aZ ag3])) dG rfl (a9 4 u rfl) rfl) (uB (L':=([bH ng1 r0,aX ng3 r2,bM ng5 r4,aV ag3 y3]++((bL ng1 r0)++((aY ng3 r2)++(bN ng5 r4))))) u [[_],[_],[_],[_],[_],[_],_,_,_] rfl [3,2,1,0,8,7,6] rfl rfl).2 (bD.refl _ _) ⟨ng1,t0,ng3,t2,ng5,t3,ag3,O3,(uB (L':=([bH ng1 r0,aX ng3 r2,bM ng5 r4,aV ag3 y3]++((bL ng1 r0)++((aY ng3 r2)++(bN ng5 r4))))) u [[_],[_],[_],[_],[_],[_],_,_,_] rfl [3,2,1,0,8,7,6] rfl rfl).1,rfl,rfl⟩
theorem aIW:aP prog 77=true:=by kernel_rfl
end Go.Proofs.YtbbifdfldpfphaaGreat
namespace Go.Vm
def rX (l:List (Int×Nat)):List (Value×Value):=l.map λx=>(.int .i64 x.1,.func (.func x.2) #[] #[])
theorem pA (x:Int):∀(l:List (Int×Nat)) (ents:List MapEntry) (i:Nat),ents.map (λe=>(e.key,e.val))=rX l->
    (∀e,l.find? (λe=>e.1==x)=some e->∃j,findNow (.int .i64) (.int .i64 x) ents i=some (some (j,.func (.func e.2) #[] #[])))/\
    (l.find? (λe=>e.1==x)=none->findNow (.int .i64) (.int .i64 x) ents i=some none)
  | [],[],i,_=>⟨λe h=>by simp at h,λ_=>rfl⟩
  | [],_::_,_,h=>by simp[rX] at h
  | _::_,[],_,h=>by simp[rX] at h
  | y::l,e::ents,i,h=>by
    simp only[map_cons,rX,List.cons.injEq,Prod.mk.injEq] at h
    obtain⟨⟨h1,h2⟩,h3⟩:=h
    obtain⟨ih1,ih2⟩:=pA x l ents (i+1) h3
    have hn:findNow (.int .i64) (.int .i64 x) (e::ents) i=(if (y.1==x)then some (some (i,e.val)) else findNow (.int .i64) (.int .i64 x) ents (i+1)):=by
      simp only[findNow,h1,Instr.sameNow,if_true]
      by_cases q:x=y.1
      . subst q; simp
      . have q1:(x==y.1)=false:=by simpa using q
        have q2:(y.1==x)=false:=by simpa using Ne.symm q
        rw[q1,q2]; simp
    rw[hn]
    simp only[List.find?_cons]
    cases q:(y.1==x)
    . exact⟨λe' he=>by obtain⟨j,hj⟩:=ih1 e' (by simpa using he); exact⟨j,by simpa using hj⟩,λhe=>by simpa using ih2 (by simpa using he)⟩
    . exact⟨λe' he=>by simp at he; subst he; exact⟨i,by simp[h2]⟩,λhe=>by simp at he⟩
section
variable {P:Program} {h h0:aF} {L:HL} {n:Nat} {kvs:KV} {ty:TypeId} {pos:String} {dP:Array Edge}
theorem JC {l:List (Int×Nat)} {x:Int} {dst:Option Tmp} {t kt et:TypeId} {m y:Operand} {q:bX} {z:Value} (ht:P.underlying t=some (.map kt et)) (hz:(P.info? et).bind (·.zero)=some z) (hkt:P.underlying kt=some (.int .i64))
    (hm:dK n kvs m= .mpv q) (hy:dK n kvs y= .sc (.int .i64 x)) (hq:h q=some (.mp (rX l))):
    eK P ⟨dst,.lookup t m y true,ty,pos,dP,none⟩ (match l.find? (λe=>e.1==x) with | some e=>.tup [.fn (.func e.2) [],.sc (.bool true)] | none=>.tup [.any,.sc (.bool false)]) (fm n kvs) h:=by
  refine eE (x:=match l.find? (λe=>e.1==x) with | some e=>.tup [.fn (.func e.2) [],.sc (.bool true)] | none=>.tup [.any,.sc (.bool false)]) (λE w ac r hv=> ?_) ⟨rfl,rfl⟩
  have vm:=hv m (by simp[Op.operands])
  have vy:=hv y (by simp[Op.operands])
  rw[bI,hm] at vm; rw[bI,hy] at vy
  simp only[VR] at vm vy
  obtain⟨g,hg,em⟩:=vm
  obtain⟨g',ents,clk,e1,e2,e3⟩:=r.mp q _ hq
  rw[hg] at e1; cases e1
  have hck:=λb=>oR (P:=P) hkt 9999 x b w
  obtain⟨f1,f2⟩:=pA x l ents.toList 0 e3
  have hz1:(zeroValue et).run P w= .ok z w:=by
    cases hi:P.info? et with
    | none=>rw[hi] at hz; simp at hz
    | some i=>
      rw[hi] at hz
      simp at hz
      simp[zeroValue,typeInfo,hi,hz]
  have hgo:(getObj g).run P w= .ok (.map ents clk) w:=by simp[getObj,run,e2]
  simp only[execOp,em,vy,Instr.lookup,run_bind,run_underlying ht,andThen_ok,hgo,Sem.run_pure,hck,findKey,run_underlying hkt]
  cases ha:l.find? (λe=>e.1==x) with
  | some e=>
    obtain⟨j,a1⟩:=f1 e ha
    refine⟨.tuple #[.func (.func e.2) #[] #[],.bool true],by simp[a1], ?_⟩
    simp only[VR]
    exact⟨_,rfl,by simp[cP,VR]⟩
  | none=>
    have a1:=f2 ha
    refine⟨.tuple #[z,.bool false],by simp[a1,hz1], ?_⟩
    simp only[VR]
    exact⟨_,rfl,by simp[cP,VR]⟩
theorem zM {K:AV->aF->Prop} {l:List (Int×Nat)} {x:Int} {f:Nat} {dst:Option Tmp} {t kt et:TypeId} {m y v:Operand} {q:bX} (i:Nat) (hk:bT h0 L) (ht:P.underlying t=some (.map kt et)) (hkt:P.underlying kt=some (.int .i64))
    (hm:dK n kvs m= .mpv q) (hy:dK n kvs y= .sc (.int .i64 x)) (hv:dK n kvs v= .fn (.func f) []) (hi:L[i]? =some (some q,.mp (rX l))) (hnew:l.find? (λe=>e.1==x)=none)
    (k:bT h0 (L.set i (some q,.mp (rX (l++ [(x,f)]))))->K (.sc undef) (hp h0 (L.set i (some q,.mp (rX (l++ [(x,f)])))))):
    jF P ⟨dst,.insert t m y v,ty,pos,dP,none⟩ K (fm n kvs) (hp h0 L):=by
  intro E w a r hva Nx Qx hn
  have vm:=hva m (by simp[Op.operands])
  have vy:=hva y (by simp[Op.operands])
  have vv:=hva v (by simp[Op.operands])
  rw[bI,hm] at vm; rw[bI,hy] at vy; rw[bI,hv] at vv
  simp only[VR] at vm vy vv
  obtain⟨g,hg,em⟩:=vm
  obtain⟨cs,ev,hcs⟩:=vv
  have hc0:cs= #[]:=by
    have:cs.toList= []:=by
      cases hh:cs.toList with
      | nil=>rfl
      | cons a b=>rw[hh] at hcs; simp only[cP] at hcs
    simpa using this
  subst hc0
  obtain⟨g',ents,clk,e1,e2,e3⟩:=r.mp q _ (a9 i hk hi)
  rw[hg] at e1; cases e1
  have hq:=a9 i hk hi
  have hck:=λb=>oR (P:=P) hkt 9999 x b w
  obtain⟨f1,f2⟩:=pA x l ents.toList 0 e3
  have hf:=f2 hnew
  have hgo:(getObj g).run P w= .ok (.map ents clk) w:=by simp[getObj,run,e2]
  have hglt:=(Array.getElem?_eq_some_iff.1 e2).1
  obtain⟨h1,h2,_⟩:=kV (e':=.mp (rX (l++ [(x,f)]))) i hk hi (.inl rfl)
  have hes:(ents.push { key:=.int .i64 x,val:=.func (.func f) #[] #[],born:=clk}).toList.map (λe=>(e.key,e.val))=rX (l++ [(x,f)]):=by
    simp only[Array.toList_push,List.map_append,e3,rX,map_cons,map_nil]
  have hfind:(findKey kt (.int .i64 x) ents.toList).run P w= .ok none w:=by
    simp only[findKey,run_bind,run_underlying hkt,andThen_ok,hf,Sem.run_pure]
  have hrun:(execOp a.eval ⟨dst,.insert t m y v,ty,pos,dP,none⟩).run P w= .ok .skip { w with heap:=w.heap.setIfInBounds g (.map (ents.push { key:=.int .i64 x,val:=.func (.func f) #[] #[],born:=clk}) (clk+1))}:=by
    simp only[execOp,em,vy,ev,Instr.mapUpdate,run_bind,run_underlying ht,andThen_ok,hgo,hck,hfind]
    simp[setObj,run,e2]
  obtain⟨k1,r1⟩:=r.set_mp hq hg (ents.push { key:=.int .i64 x,val:=.func (.func f) #[] #[],born:=clk}) (clk+1) (w':={ w with heap:=w.heap.setIfInBounds g (.map (ents.push { key:=.int .i64 x,val:=.func (.func f) #[] #[],born:=clk}) (clk+1))}) (by simp[hglt]) (λg' hg'=>by simp[Ne.symm hg']) (by simp) rfl rfl rfl
  unfold wp
  rw[hrun]
  rw[hes,h1] at r1
  exact hn (.sc undef) undef _ E _ k1 r1 (by simp only[VR]) (k h2)
end
theorem wN {P:Program} {f:FuncId} {args:List AV} {Q Q':AV->aF->Prop} {H:aF} (hc:aM P f args H Q) (hq:∀r h',Q r h'->Q' r h'):aM P f args H Q':=hc.mono hq
end Go.Vm
namespace Go.Proofs.YtbbifdfldpfphaaGreat
open Go.Vm
def m8:List (Int×Nat):=[(1,72),(2,73),(3,74),(4,75),(5,76)]
def mE (m:Nat) (f:Nat) (d:aA) (x:aW):Option (aA×Int):=
 if f=74 then (ZA m d x).bind λo=>some ({ Seq:=o.2.1,Snaps:=o.2.2.1,Chunks:=o.2.2.2.1,Exps:=o.2.2.2.2.1,Vols:=o.2.2.2.2.2},o.1)
 else if f=75 then (ZB m d x).bind λo=>some ({ d with Snaps:=o.2.1,Chunks:=o.2.2.1,Exps:=o.2.2.2.1,Vols:=o.2.2.2.2},o.1)
 else none
def OZ (m:Nat) (p0:aA) (p1:aW):Option (aA×Int):=
 match m8.find? (λe=>e.1==p1.Kind) with
 | none=>some (bY,1)
 | some e=>(QY m p0).bind λy=>if (y !=0)then some (bY,1) else (OY m p0).bind λd=>
 after ((mE m e.2 d p1).bind λs=>Bk s:Option (Lp (aA×Int) (aA×Int))) λs=>if (s.2 !=0)then some (bY,s.2) else (QY m s.1).bind λy2=>if (y2 !=0)then some (bY,1) else some (s.1,0)
abbrev PA (k:bX) (d:aA) (a b c:dC) (v:cY):HL:=[OC k d.Seq a.a b.a c.a v,bH a d.Snaps,aX b d.Chunks,bM c d.Exps,aV v d.Vols]++((bL a d.Snaps)++((aY b d.Chunks)++(bN c d.Exps)))
abbrev PB (k:bX) (d:aA) (a b c v:cY):HL:=[OC k d.Seq a b c v,bU a d.Snaps,bO b d.Chunks,dE c d.Exps,aV v d.Vols]
theorem aIX {h:aF} {k:bX} {d:aA} {a b c:dC} {v:cY} (oa:mH aI.Locs 4 4 a d.Snaps) (ob:mH aB.Locs 35 4 b d.Chunks) (oc:mH aQ.Locs 3 4 c d.Exps) (m:bT h (PA k d a b c v)) {n:Nat} {f:FR}:
 bT h (PB k d a.a b.a c.a v)/\gP (fm n f.k) (hp h (PB k d a.a b.a c.a v)) (fm n f.k) (hp h (PA k d a b c v)):=by
 obtain⟨k1,l1⟩:=D4 (ty:=81) (n:=n) (f:=f) (h0:=h) (L':=[OC k d.Seq a.a b.a c.a v,bU a.a d.Snaps,aX b d.Chunks,bM c d.Exps,aV v d.Vols]++((aY b d.Chunks)++(bN c d.Exps))) [[_],[_],[_],[_],[_],_,_,_] rfl 1 5 eL qU oa.k rfl rfl (by decide) rfl m
 obtain⟨k2,l2⟩:=D4 (ty:=81) (n:=n) (f:=f) (h0:=h) (L':=[OC k d.Seq a.a b.a c.a v,bU a.a d.Snaps,bO b.a d.Chunks,bM c d.Exps,aV v d.Vols]++(bN c d.Exps)) [[_],[_],[_],[_],[_],_,_] rfl 2 5 eL oH ob.k rfl rfl (by decide) rfl k1
 obtain⟨k3,l3⟩:=D4 (ty:=81) (n:=n) (f:=f) (h0:=h) (L':=PB k d a.a b.a c.a v) [[_],[_],[_],[_],[_],_] rfl 3 5 eL wA oc.k rfl rfl (by decide) rfl k2
 exact⟨k3,(l1.trans l2).trans l3⟩
theorem XC {w:Nat} {f:Nat} {d:aA} {x:aW} {s:aA×Int} (h:aF) {k:bX} {a b c:dC} {v:cY} (oa:mH aI.Locs 4 4 a d.Snaps) (ob:mH aB.Locs 35 4 b d.Chunks) (oc:mH aQ.Locs 3 4 c d.Exps) (ov:bJ v 4 d.Vols.length) (u:bT h (PA k d a b c v)) (m:mE w f d x=some s):
 aM prog f [.ptr k 0,.agg (aH x)] (hp h (PA k d a b c v)) (λr h'=>∃a' b' c' v':cY,bJ a' 4 s.1.Snaps.length/\bJ b' 35 s.1.Chunks.length/\bJ c' 3 s.1.Exps.length/\bJ v' 4 s.1.Vols.length/\bT h (PB k s.1 a' b' c' v')/\r=nZ s.2/\h'=hp h (PB k s.1 a' b' c' v')):=by
 obtain⟨kp,lp⟩:=aIX oa ob oc u (n:=[AV.ptr k 0,AV.agg (aH x)].length) (f:=CQ 0 [AV.ptr k 0,AV.agg (aH x)])
 unfold mE at m
 split at m
 rename_i e; subst e
 obtain⟨o,ho,m⟩:=aC m
 cases m
 refine wN (W74 (p0:=d) h oa ob oc ov u ho) ?_
 rintro r h' ⟨a',oa',b',ob',c',oc',v',ov',hk',e1,e2⟩
 exact⟨a',b',c',v',oa',ob',oc',ov',hk',e1,e2⟩
 split at m
 rename_i e; subst e
 obtain⟨o,ho,m⟩:=aC m
 cases m
 refine wN (W75 (p0:=d) h oa ob oc ov u ho) ?_
 rintro r h' ⟨a',oa',b',ob',c',oc',v',ov',hk',e1,e2⟩
 exact⟨a',b',c',v',oa',ob',oc',ov',hk',e1,e2⟩
 cases m
theorem SS {f:Nat} {u:Nat} {d:aA} {x:aW} {s:aA×Int} (m:mE u f d x=some s):aP prog f=true:=by
 unfold mE at m
 split at m
 rename_i e; subst e; exact aIN
 split at m
 rename_i e; subst e; exact aIS
 cases m
theorem W29 {j:Nat} {p0:aA} {p1:aW} {o:aA×Int} (h:aF) (m:OZ j p0 p1=some o):
 aM prog 29 [.agg (aD p0),.agg (aH p1)] h (λr h'=>r= .tup [.agg (aD o.1),nZ o.2]/\h'=h):=by
 refine fM 44 [.cell 4 30,.tmp 5] Tryz.func29 rfl rfl rfl rfl ?_
 unfold OZ at m
 repeat refine vs ?_
 refine v0 ?_
 refine gX rfl rfl λk2 K3=> ?_
 refine gX rfl rfl λk3 K3=> ?_
 refine ve λu=>bE (jB) u rO rfl rfl λk4 K9=>qk K9 rfl ?_
 repeat refine vs ?_
 refine v0 ?_
 refine ve λu=>CK u λkm K3=>qk K3 rfl ?_
 refine ve λu=>zM (l:=[]) 0 u yN u3 rfl rfl rfl rfl rfl λK3=>qk K3 rfl ?_
 refine ve λu=>zM 0 u yN u3 rfl rfl rfl rfl rfl λK3=>qk K3 rfl ?_
 refine ve λu=>zM 0 u yN u3 rfl rfl rfl rfl rfl λK3=>qk K3 rfl ?_
 refine ve λu=>zM 0 u yN u3 rfl rfl rfl rfl rfl λK3=>qk K3 rfl ?_
 refine ve λu=>zM 0 u yN u3 rfl rfl rfl rfl rfl λK3=>qk K3 rfl ?_
 repeat refine vs ?_
 refine v0 (dY CX rfl rfl (vl 2 _ cG rfl rfl rfl ?_))
 have hz:(prog.info? 117).bind (·.zero)=some (.nilFunc):=by kernel_rfl
 cases hf:m8.find? (λe=>e.1==p1.Kind) with
 | none=>
 rw[hf] at m
 refine vn (λu=>gR (JC (l:=m8) yN hz u3 rfl rfl (a9 0 u rfl)) (bD.of_eq (y:=.tup [.any,.sc (.bool false)]) (by rw[hf]))) ?_
 repeat refine vs ?_
 refine v0 (v0 ?_)
 repeat refine vs ?_
 refine v0 (bV (eQ (jB) G9 rfl) ?_)
 refine ve λu=>aL 1 (jB) u rfl rfl rfl rfl mZ rfl rfl λK0=>qk K0 rfl ?_
 refine v0 ?_
 cases m
 exact vr λu=>dW.of2 (.inl rfl) (sS (.agg (jB)) dG rfl (a9 1 u rfl) rfl) (gK _ _ (.sc (.int _ _)) rfl) (aU (nil_sublist _) u).1 (bD.agg (.cons (bD.refl _ _) (.cons (bC _) (.cons (bC _) (.cons (bC _) (.cons (bC _) .nil)))))) (bD.refl _ _) ⟨rfl,rfl⟩
 | some e=>
 rw[hf] at m
 refine vn (λu=>gR (JC (l:=m8) yN hz u3 rfl rfl (a9 0 u rfl)) (bD.of_eq (y:=.tup [.fn (.func e.2) [],.sc (.bool true)]) (by rw[hf]))) ?_
 repeat refine vs ?_
 refine v0 (vl 3 (.agg (aD p0)) dG rfl rfl rfl ?_)
 refine vk YT KO m rfl rfl λ_ m=> ?_
 refine v0 ?_
 apply vi m<;>intro hc m
 repeat refine vs ?_
 refine v0 (bV (eQ (jB) G9 rfl) ?_)
 refine ve λu=>aL 1 (jB) u rfl rfl rfl rfl mZ rfl rfl λK0=>qk K0 rfl ?_
 refine v0 ?_
 cases m
 exact vr λu=>dW.of2 (.inl rfl) (sS (.agg (jB)) dG rfl (a9 1 u rfl) rfl) (gK _ _ (.sc (.int _ _)) rfl) (aU (nil_sublist _) u).1 (bD.agg (.cons (bD.refl _ _) (.cons (bC _) (.cons (bC _) (.cons (bC _) (.cons (bC _) .nil)))))) (bD.refl _ _) ⟨rfl,rfl⟩
 refine v0 ?_
 repeat refine vs ?_
 refine v0 (vl 3 (.agg (aD p0)) dG rfl rfl rfl ?_)
 obtain⟨d,Y0,m⟩:=aC m
 refine ve λu=>dD (aIV _ Y0) rfl aIW rfl ?_
 rintro x h' ⟨gs,oks,gc,okc,ge,oke,gv,okv,K1,rfl,rfl⟩
 have w:=FI (L':=[bH gs d.Snaps,aX gc d.Chunks,bM ge d.Exps,aV gv d.Vols,(some km,.mp (rX m8)),(some k4,.obj 30 (jB)),(some k3,.obj 62 (aH p1)),(some k2,.obj 30 (aD p0))]++((bL gs d.Snaps)++((aY gc d.Chunks)++(bN ge d.Exps)))) u K1 [[_],[_],[_],[_],_,_,_] [[_],[_],[_],[_]] rfl rfl [0,1,2,3,7,8,9,10,4,5,6] rfl rfl
 refine qk w.2 w.1 ?_
 refine ve λu=>bE (jB) u rO rfl rfl λk9 K2=>qk K2 rfl ?_
 refine ve λu=>aL 0 ([nZ d.Seq,aZ gs.a,aZ gc.a,aZ ge.a,aZ gv]) u rfl rfl rfl (by repeat (first | exact rfl | refine cI (bZ _ _ _) ?_ | refine cI rfl ?_)) mZ rfl rfl λK4=>qk K4 rfl ?_
 repeat refine vs ?_
 refine oA m (σ:=aA×Int) (τ:=cY×cY×cY×cY) (λg s=>[OC k9 s.1.Seq g.1 g.2.1 g.2.2.1 g.2.2.2,bU g.1 s.1.Snaps,bO g.2.1 s.1.Chunks,dE g.2.2.1 s.1.Exps,aV g.2.2.2 s.1.Vols,(some km,.mp (rX m8)),(some k4,.obj 30 (jB)),(some k3,.obj 62 (aH p1)),(some k2,.obj 30 (aD p0))]) (λg s=>bJ g.1 4 s.1.Snaps.length/\bJ g.2.1 35 s.1.Chunks.length/\bJ g.2.2.1 3 s.1.Exps.length/\bJ g.2.2.2 4 s.1.Vols.length) (λg s=>.c 4 (.ptr k4 0) (.c 9 (.ptr k9 0) (.c 10 (nZ s.2) .nil))) (λx m=> ?_) ?_
 refine v0 (vl 7 (.agg (aH p1)) tC rfl rfl rfl ?_)
 obtain⟨s,hs,m⟩:=aC m
 refine ve λu=> ?_
 have pq:=FH (A:=PA k9 d gs gc ge gv) (R:=[(some km,.mp (rX m8)),(some k4,.obj 30 (jB)),(some k3,.obj 62 (aH p1)),(some k2,.obj 30 (aD p0))]) u [[_],[_],[_],[_],[_],[_],[_],[_],[_],_,_,_] rfl [0,1,2,3,4,9,10,11] [5,6,7,8] rfl rfl rfl
 refine eA pq.1 (dD (XC _ oks okc oke okv pq.2.2 hs) rfl (SS hs) rfl ?_)
 rintro r h' ⟨a',b',c',v',oa,ob,oc,ov,hk',rfl,rfl⟩
 have hq2:=FI (L':=[OC k9 s.1.Seq a' b' c' v',bU a' s.1.Snaps,bO b' s.1.Chunks,dE c' s.1.Exps,aV v' s.1.Vols,(some km,.mp (rX m8)),(some k4,.obj 30 (jB)),(some k3,.obj 62 (aH p1)),(some k2,.obj 30 (aD p0))]) pq.2.1 hk' [[_],[_],[_],[_],[_]] [[_],[_],[_],[_]] rfl rfl [0,1,2,3,4,5,6,7,8] rfl rfl
 refine qk hq2.2 hq2.1 ?_
 exact eF m (a',b',c',v') ⟨oa,ob,oc,ov⟩ (lx (.k3 .nil))
 rintro⟨a',b',c',v'⟩ ⟨dd,ee⟩ ⟨oa,ob,oc,ov⟩ m
 repeat refine vs ?_
 refine v0 ?_
 repeat refine vs ?_
 refine v0 (v0 ?_)
 apply vi m<;>intro hc m
 repeat refine vs ?_
 refine v0 (bV (eQ (jB) G9 rfl) ?_)
 refine ve λu=>aL 6 (jB) u rfl rfl rfl rfl mZ rfl rfl λK0=>qk K0 rfl ?_
 refine v0 ?_
 cases m
 exact vr λu=>dW.of2 (.inl rfl) (sS (.agg (jB)) dG rfl (a9 6 u rfl) rfl) (gK _ _ (.sc (.int _ _)) rfl) (aU (nil_sublist _) u).1 (bD.agg (.cons (bD.refl _ _) (.cons (bC _) (.cons (bC _) (.cons (bC _) (.cons (bC _) .nil)))))) (bD.refl _ _) ⟨rfl,rfl⟩
 repeat refine vs ?_
 refine v0 (vl 0 (.agg ([nZ dd.Seq,aZ a',aZ b',aZ c',aZ v'])) dG rfl rfl rfl ?_)
 obtain⟨_,Y1,m⟩:=aC m
 refine vn (λu=>bW (fL (.cons (Br.agg (.cons (Br.refl _ _) (.cons (Br.aw 1 eV oa u rfl) (.cons (Br.aw 2 cX ob u rfl) (.cons (Br.aw 3 fN oc u rfl) (.cons (Br.aw 4 eR ov u rfl) .nil)))))) .nil) rfl (YT _ Y1)) rfl KO rfl) (v0 ?_)
 apply vi m<;>intro c0 m
 repeat refine vs ?_
 refine v0 (bV (eQ (jB) G9 rfl) ?_)
 refine ve λu=>aL 6 (jB) u rfl rfl rfl rfl mZ rfl rfl λK0=>qk K0 rfl ?_
 refine v0 ?_
 cases m
 exact vr λu=>dW.of2 (.inl rfl) (sS (.agg (jB)) dG rfl (a9 6 u rfl) rfl) (gK _ _ (.sc (.int _ _)) rfl) (aU (nil_sublist _) u).1 (bD.agg (.cons (bD.refl _ _) (.cons (bC _) (.cons (bC _) (.cons (bC _) (.cons (bC _) .nil)))))) (bD.refl _ _) ⟨rfl,rfl⟩
 refine v0 ?_
 repeat refine vs ?_
 refine v0 (vl 0 (.agg ([nZ dd.Seq,aZ a',aZ b',aZ c',aZ v'])) dG rfl rfl rfl ?_)
 refine ve λu=>aL 6 ([nZ dd.Seq,aZ a',aZ b',aZ c',aZ v']) u rfl rfl rfl (by repeat (first | exact rfl | refine cI (bZ _ _ _) ?_ | refine cI rfl ?_)) mZ rfl rfl λK5=>qk K5 rfl ?_
 refine v0 ?_
 cases m
 refine vrl λu=> ?_
 obtain⟨K6,le0⟩:=gP.fzO (n:=44) (f:=_) 1 5 ([nZ dd.Seq,.sl none 4 (map bQ dd.Snaps),aZ b',aZ c',aZ v']) u rfl (.cons (Fz.refl _ _ _) (.cons (Fz.aw 1 eV oa u rfl (.refl _)) (.cons (Fz.refl _ _ _) (.cons (Fz.refl _ _ _) (.cons (Fz.refl _ _ _) .nil)))))
 obtain⟨K7,le1⟩:=gP.fzO (n:=44) (f:=_) 1 4 ([nZ dd.Seq,.sl none 4 (map bQ dd.Snaps),.sl none 35 (map aK dd.Chunks),aZ c',aZ v']) K6 rfl (.cons (Fz.refl _ _ _) (.cons (Fz.refl _ _ _) (.cons (Fz.aw 1 cX ob K6 rfl (.refl _)) (.cons (Fz.refl _ _ _) (.cons (Fz.refl _ _ _) .nil)))))
 obtain⟨K8,le2⟩:=gP.fzO (n:=44) (f:=_) 1 3 ([nZ dd.Seq,.sl none 4 (map bQ dd.Snaps),.sl none 35 (map aK dd.Chunks),.sl none 3 (map cE dd.Exps),aZ v']) K7 rfl (.cons (Fz.refl _ _ _) (.cons (Fz.refl _ _ _) (.cons (Fz.refl _ _ _) (.cons (Fz.aw 1 fN oc K7 rfl (.refl _)) (.cons (Fz.refl _ _ _) .nil)))))
 obtain⟨K82,le3⟩:=gP.fzO (n:=44) (f:=_) 1 2 ([nZ dd.Seq,.sl none 4 (map bQ dd.Snaps),.sl none 35 (map aK dd.Chunks),.sl none 3 (map cE dd.Exps),.sl none 4 (map dN dd.Vols)]) K8 rfl (.cons (Fz.refl _ _ _) (.cons (Fz.refl _ _ _) (.cons (Fz.refl _ _ _) (.cons (Fz.refl _ _ _) (.cons (Fz.aw 1 eR ov K8 rfl (.refl _)) .nil)))))
 exact QX.mk (gP.trans (gP.trans (gP.trans le0 le1) le2) le3) (dW.of2 (.inl rfl) (sS (.agg (aD dd)) dG rfl (a9 2 K82 rfl) rfl) (gK _ _ (.sc (.int _ _)) rfl) (aU (nil_sublist _) K82).1 (bD.refl _ _) (bD.refl _ _) ⟨rfl,rfl⟩)
theorem aDG:aP prog 29=true:=by kernel_rfl
theorem lW {α ρ:Type} {l:List α} (f:α->α) {F:Nat} {body:List α×Int->Option (Lp (List α×Int) ρ)} (hF:l.length < F)
    (hb:∀(cur:List α) (i:Nat) (x:α),cur.length=l.length->cur[i]? =some x->x∈l->i < l.length->body (cur,(i:Int))=some (.go (cur.set i (f x),((i+1:Nat):Int))))
    (he:∀cur:List α,cur.length=l.length->body (cur,(l.length:Int))=some (.brk (cur,(l.length:Int)))):
    aT body F (l,0)=some (.brk (l.map f,(l.length:Int))):=by
  have len:∀i,((l.take i).map f++l.drop i).length=l.length:=λi=>by simp; omega
  have:=kH (body:=body) (s0:=(l,(0:Int))) (n:=l.length) (F:=F) (λi:Nat=>((l.take i).map f++l.drop i,(i:Int))) hF (by simp) (λi hi=>by
    have hx:((l.take i).map f++l.drop i)[i]? =some l[i]:=by
      rw[List.getElem?_append_right (by simp; omega)]
      simp[Nat.min_eq_left (Nat.le_of_lt hi)]
    rw[hb _ i l[i] (len i) hx (List.getElem_mem hi) hi]
    congr 4
    rw[List.take_succ_eq_append_getElem hi,List.drop_eq_getElem_cons hi,List.set_append_right _ _ (by simp; omega),List.length_map,List.length_take,Nat.min_eq_left (Nat.le_of_lt hi),Nat.sub_self,List.set_cons_zero,List.map_append]
    simp only[map_cons,map_nil,List.append_assoc,List.cons_append,nil_append]) (he _ (len _))
  simpa using this
theorem LC {F:Nat} {m:bG} (hF:1000<=F) (hp:m.Parts.length<=10) (hi:∀p∈m.Parts,p.Ids.length<=40):OX F m=some m:=by
 unfold OX I6
 rw[bS (by simp; omega)]
 simp only[bind_some,nil_append]
 rw[lW (l:=m.Parts) id (by omega) (λcur i x hc hx hm hi'=>by
  have:=hi x hm
  unfold uH SQ
  rw[f0 (by omega)]
  simp only[a8,hx,bind_some,ofNat_lt,hi',decide_true,if_true]
  rw[bS (by simp; omega)]
  rfl) (λcur hc=>by unfold uH; simp)]
 simp[aG]
theorem aIY {F:Nat} {c:aA} (hF:1000<=F) (h:Sm c):OY F c=some c:=by
 have hsn:=h.sn
 have hex:=h.ex
 have hvo:=h.vo
 have hch:=h.ch
 unfold OY I7 I8 I9 JA
 rw[bS (by simp; omega),bS (by simp; omega),bS (by simp; omega),bS (by simp; omega)]
 simp only[bind_some,nil_append]
 rw[lW (l:=c.Snaps) id (by omega) (λcur i x hc hx hm hi=>by
  have h1:=h.sl x hm
  obtain⟨-,h2,h3⟩:=h.man x hm
  unfold uI AR
  rw[f0 (by omega)]
  simp only[a8,hx,bind_some,ofNat_lt,hi,decide_true,if_true,LC hF h2 (λp hp=>(h3 p hp).2)]
  rw[bS (by simp; omega)]
  simp[set_set]) (λcur hc=>by unfold uI; simp)]
 simp only[aG]
 rw[lW (l:=c.Chunks) id (by omega) (λcur i x hc hx hm hi=>by
  have h1:=h.cl x hm
  unfold uJ AR M96
  have e1:app [] x.Data=some x.Data:=by rw[bS (by simp; omega)]; rfl
  rw[f0 (by omega)]
  simp only[a8,hx,bind_some,ofNat_lt,hi,decide_true,if_true,e1]
  rw[bS (by simp; omega)]
  simp[set_set]) (λcur hc=>by unfold uJ; simp)]
 simp only[aG]
 rw[lW (l:=c.Exps) id (by omega) (λcur i x hc hx hm hi=>by
  have h1:=h.el x hm
  unfold uK AR
  rw[f0 (by omega)]
  simp only[a8,hx,bind_some,ofNat_lt,hi,decide_true,if_true]
  rw[bS (by simp; omega)]
  simp) (λcur hc=>by unfold uK; simp)]
 simp[aG]
theorem aIZ {F:Nat} {l:List aB} {f:aB->Option Bool} (q:aB->Bool) (hF:1000<=F) (hl:l.length<=400) (hf:∀x∈l,f x=some (q x)):FQ F l f=some (l.filter λx=> !q x):=by
 have h119:OT F l f=some (qX l q):=by
  unfold OT
  refine kM q (by omega) (λi x hx hm hi=> ?_) (by unfold uG; simp)
  unfold uG
  rw[f0 (by omega)]
  simp only[a8,hx,hf x hm,bind_some,ofNat_lt,hi,decide_true,if_true]
  split<;>rfl
 unfold FQ
 rw[h119]
 simp only[bind_some]
 cases ha:l.any q with
 | false=>
  rw[jW ha]
  simp only[beq_self_eq_true,if_true]
  rw[List.filter_eq_self.2 λx hx=>by simpa using List.any_eq_false.1 ha x hx]
 | true=>
  obtain⟨i,x,h1,h2,h3,h4⟩:=i7 ha
  rw[h1]
  have hn:((i:Int)== -1)=false:=by simp
  have hil:=(List.getElem?_eq_some_iff.1 h2).1
  rw[hn,f0 (by omega)]
  simp only[false_eq_true,if_false]
  obtain⟨cur,w,e1,e2,e3,e4⟩:=tY (l:=l) (q:=q) (F:=F) (body:=λs=>oJ F f s.1 s.2.1 s.2.2) (by omega) h2 h3 h4 (λcur w r x hc hw hr hx hm=>by
   unfold oJ
   simp only
   rw[f0 (i:=r) (by omega),f0 (i:=w) (by omega)]
   have hcw:cur[w]? =some cur[w]:=getElem?_eq_getElem (by omega)
   simp only[a8,hx,hf x hm,bind_some,hc,ofNat_lt,hr,decide_true,if_true,hcw,toNat_natCast]
   cases q x<;>rfl) (λcur w hc=>by unfold oJ; simp[hc])
  rw[e1]
  simp only[aG]
  have g1:(decide ((0:Int)<=(w:Int)) && decide ((w:Int) < (cur.length:Int)))=true:=by simp; omega
  have g2:(decide ((0:Int)<=(w:Int)) && decide ((w:Int)<=(cur.length:Int)))=true:=by simp; omega
  simp only[grd,g1,g2,if_true,toNat_natCast,e4]
theorem aI0 {F:Nat} {l:List aQ} {f:aQ->Option Bool} (q:aQ->Bool) (hF:1000<=F) (hl:l.length<=400) (hf:∀x∈l,f x=some (q x)):Fq F l f=some (l.filter λx=> !q x):=by
 have h119:FP F l f=some (qX l q):=by
  unfold FP
  refine kM q (by omega) (λi x hx hm hi=> ?_) (by unfold qG; simp)
  unfold qG
  rw[f0 (by omega)]
  simp only[a8,hx,hf x hm,bind_some,ofNat_lt,hi,decide_true,if_true]
  split<;>rfl
 unfold Fq
 rw[h119]
 simp only[bind_some]
 cases ha:l.any q with
 | false=>
  rw[jW ha]
  simp only[beq_self_eq_true,if_true]
  rw[List.filter_eq_self.2 λx hx=>by simpa using List.any_eq_false.1 ha x hx]
 | true=>
  obtain⟨i,x,h1,h2,h3,h4⟩:=i7 ha
  rw[h1]
  have hn:((i:Int)== -1)=false:=by simp
  have hil:=(List.getElem?_eq_some_iff.1 h2).1
  rw[hn,f0 (by omega)]
  simp only[false_eq_true,if_false]
  obtain⟨cur,w,e1,e2,e3,e4⟩:=tY (l:=l) (q:=q) (F:=F) (body:=λs=>oK F f s.1 s.2.1 s.2.2) (by omega) h2 h3 h4 (λcur w r x hc hw hr hx hm=>by
   unfold oK
   simp only
   rw[f0 (i:=r) (by omega),f0 (i:=w) (by omega)]
   have hcw:cur[w]? =some cur[w]:=getElem?_eq_getElem (by omega)
   simp only[a8,hx,hf x hm,bind_some,hc,ofNat_lt,hr,decide_true,if_true,hcw,toNat_natCast]
   cases q x<;>rfl) (λcur w hc=>by unfold oK; simp[hc])
  rw[e1]
  simp only[aG]
  have g1:(decide ((0:Int)<=(w:Int)) && decide ((w:Int) < (cur.length:Int)))=true:=by simp; omega
  have g2:(decide ((0:Int)<=(w:Int)) && decide ((w:Int)<=(cur.length:Int)))=true:=by simp; omega
  simp only[grd,g1,g2,if_true,toNat_natCast,e4]
def lf (v:Int) (l:List aS):List aS:=l.filter λy=> !(y.Vol==v)
def XD (v:Int) (s:aI):aI:={ s with Locs:=lf v s.Locs}
def wY (v:Int) (s:aB):aB:={ s with Locs:=lf v s.Locs}
def HV (v:Int) (s:aQ):aQ:={ s with Locs:=lf v s.Locs}
def wO (y:aB):Bool:= !y.Staged && ((y.Locs.length:Int)==0)
def ret (c:aA) (v:Int) (x:aR):aA:=
 { Seq:=c.Seq,Snaps:=c.Snaps.map (XD v),Chunks:=(c.Chunks.map (wY v)).filter λy=> !wO y,Exps:=(c.Exps.map (HV v)).filter λy=> !((y.Locs.length:Int)==0),Vols:=c.Vols.set v.toNat { x with State:=3,Files:=0}}
theorem XE {F:Nat} {l:List aS} {d:aW} (hF:1000<=F) (hl:l.length<=300):zG F l d=some (lf d.Vol l):=by
 unfold zG
 rw[m83 (f:=λx0=>SO F x0 d) (λx=>x.Vol==d.Vol) hF hl (λx _=>rfl)]
 rfl
theorem n75 {F:Nat} {c:aA} {d:aW} {x:aR} (hF:1000<=F) (h:Sm c) (h0:0<=d.Vol) (hx:c.Vols[d.Vol.toNat]? =some x):
    ZB F c d=some (if x.State=2 then (0,(ret c d.Vol x).Snaps,(ret c d.Vol x).Chunks,(ret c d.Vol x).Exps,(ret c d.Vol x).Vols) else (1,c.Snaps,c.Chunks,c.Exps,c.Vols)):=by
  have hsn:=h.sn
  have hex:=h.ex
  have hvo:=h.vo
  have hch:=h.ch
  have hlt:=(List.getElem?_eq_some_iff.1 hx).1
  have hx2:(c.Vols.set d.Vol.toNat { x with State:=3})[d.Vol.toNat]? =some { x with State:=3}:=by
    rw[List.getElem?_set_self hlt]
  unfold ZB
  rw[show decide (d.Vol < 0)=false from decide_eq_false (by omega),show decide ((c.Vols.length:Int)<=d.Vol)=false from decide_eq_false (by omega)]
  simp only[false_eq_true,if_false,m5 _ h0,hx,hx2,bind_some,aG]
  by_cases e:x.State=2
  . rw[if_neg (by simp[e]),if_pos e]
    rw[lW (l:=c.Snaps) (XD d.Vol) (by omega) (λcur i x hc hx hm hi=>by
      unfold zH
      rw[f0 (by omega)]
      simp only[a8,hx,bind_some,ofNat_lt,hi,decide_true,if_true,XE hF (h.sl x hm)]
      rfl) (λcur hc=>by unfold zH; simp)]
    simp only[aG]
    rw[lW (l:=c.Chunks) (wY d.Vol) (by omega) (λcur i x hc hx hm hi=>by
      unfold zJ
      rw[f0 (by omega)]
      simp only[a8,hx,bind_some,ofNat_lt,hi,decide_true,if_true,XE hF (h.cl x hm).1]
      rfl) (λcur hc=>by unfold zJ; simp)]
    simp only[aG]
    rw[lW (l:=c.Exps) (HV d.Vol) (by omega) (λcur i x hc hx hm hi=>by
      unfold zK
      rw[f0 (by omega)]
      simp only[a8,hx,bind_some,ofNat_lt,hi,decide_true,if_true,XE hF (h.el x hm)]
      rfl) (λcur hc=>by unfold zK; simp)]
    simp only[aG]
    rw[aIZ (f:=λx0=>OW F x0) wO hF (by simpa using hch) (λy _=>by
      unfold OW wO
      cases y.Staged<;>rfl),aI0 (f:=λx0=>SP F x0) (λy=>(y.Locs.length:Int)==0) hF (by rw[List.length_map]; omega) (λy _=>rfl)]
    simp only[bind_some,set_set]
    rfl
  . rw[if_pos (by simpa using e),if_neg e]
def rel (c:aA) (v:Int) (x:aR):aA:={ c with Vols:=c.Vols.set v.toNat { x with State:=1,Epoch:=x.Epoch+1}}
theorem n29 {F:Nat} {c:aA} {d:aW} {k:Nat} {e:aA} {n:Int} (hF:1000<=F) (h:Sm c) (hg:f8 c=true) (hk:m8.find? (λe=>e.1==d.Kind)=some (d.Kind,k)) (hd:mE F k c d=some (e,n)) (hs:n=0->Sm e):
    OZ F c d=some (if n=0 then (if f8 e=true then (e,0) else (bY,1)) else (bY,n)):=by
  unfold OZ
  rw[hk]
  simp only[m33 hF h,hg,if_true,bind_some,aIY hF h,hd,aG]
  by_cases e0:n=0
  . rw[if_neg (by decide),if_neg (by simp[e0]),m33 hF (hs e0),if_pos e0]
    simp only[bind_some]
    cases f8 e<;>rfl
  . rw[if_neg (by decide),if_pos (by simpa using e0),if_neg e0]
theorem qH {l:List aB}:u6 l↔(∀x∈l,mQ x.Id)/\l.Pairwise λy x=>ky y.Id < ky x.Id:=by
 unfold u6
 refine and_congr_right λ_=> ?_
 rw[List.pairwise_iff_getElem]
 constructor
 ·intro h i j hi hj hij
  exact h i j _ _ (getElem?_eq_getElem hi) (getElem?_eq_getElem hj) hij
 ·intro h i j x y hx hy hij
  obtain⟨hi,rfl⟩:=List.getElem?_eq_some_iff.1 hx
  obtain⟨hj,rfl⟩:=List.getElem?_eq_some_iff.1 hy
  exact h i j hi hj hij
structure At (l:List aB) (d:bK) (p:Nat):Prop where
 le:p<=l.length
 lo:∀x∈l.take p,ky x.Id < ky d
 hi:∀x∈l.drop p,ky d<=ky x.Id
theorem aDH {F:Nat} {l:List aB} {d:bK} (hF:1000<=F) (hr:u6 l) (hd:mQ d) (hl:l.length < 1000):∃p:Nat,At l d p/\yP F l d=some ((p:Int),kO l d):=by
 obtain⟨p',e'⟩:=aB0 hF hr hd hl
 obtain⟨p,hp,e,h1,h2⟩:=bis (F:=F) hr hd hl F 0 l.length (by omega) (le_refl _) (by omega) (λj x _ hj=>by omega) (λj x hx hj=>by have:=(List.getElem?_eq_some_iff.1 hx).1; omega)
 have e2:∃b,yP F l d=some ((p:Int),b):=by
  unfold yP NP
  rw[show ((0:Int),(l.length:Int))=(((0:Nat):Int),(l.length:Int)) from rfl,e]
  simp only[aG]
  by_cases hlt:p < l.length
  ·have hx:l[p]? =some l[p]:=getElem?_eq_getElem hlt
   have hmem:=List.getElem_mem hlt
   generalize l[p]=x at hx hmem
   have gx:=hr.1 x hmem
   have e:AN F x d=some (if ky x.Id < ky d then -1 else if ky d < ky x.Id then 1 else 0):=by unfold AN; rw[NY F gx hd]; rfl
   simp only[ofNat_lt,hlt,decide_true,if_true,a8,hx,bind_some,e,aG]
   exact⟨_,rfl⟩
  ·have hn:¬((p:Int) < (l.length:Int)):=by omega
   simp only[hn,decide_false,false_eq_true,if_false,aG,bind_some]
   exact⟨_,rfl⟩
 obtain⟨b,hb⟩:=e2
 refine⟨p,⟨hp,λx hx=> ?_,λx hx=> ?_⟩, ?_⟩
 ·obtain⟨i,hi,rfl⟩:=getElem_of_mem hx
  simp only[List.length_take] at hi
  rw[List.getElem_take]
  exact h1 i _ (getElem?_eq_getElem (by omega)) (by omega)
 ·obtain⟨i,hi,rfl⟩:=getElem_of_mem hx
  simp only[length_drop] at hi
  rw[getElem_drop]
  exact h2 (p+i) _ (getElem?_eq_getElem (by omega)) (by omega)
 ·rw[hb] at e' ⊢
  have:=Option.some.inj e'
  rw[(Prod.mk.inj this).2]
theorem JD {α:Type} {l:List α} {p:Nat} {x:α} (h:p<=l.length) (hl:l.length < 1000):qY l (p:Int) x=some (l.take p++x::l.drop p):=by
 unfold qY
 rw[if_pos ⟨by omega,by omega,by omega⟩]
 simp
theorem HW {l:List aB} {p:Nat} {d:bK} (hr:u6 l) (ha:At l d p) (hd:mQ d) (h:kO l d=true):∃x,l[p]? =some x/\x.Id=d:=by
 obtain⟨y,hy,e⟩:=List.any_eq_true.1 h
 have e:=of_decide_eq_true e
 have hy2:y∈l.take p++l.drop p:=by rw[List.take_append_drop]; exact hy
 rcases List.mem_append.1 hy2 with h1 | h1
 ·have:=ha.lo y h1
  rw[e] at this; omega
 ·obtain⟨i,hi,e2⟩:=getElem_of_mem h1
  simp only[length_drop] at hi
  rw[getElem_drop] at e2
  have hp:l[p]? =some l[p]:=getElem?_eq_getElem (by omega)
  cases i with
  | zero=>exact⟨_,hp,by rw[<- e,<- e2]; rfl⟩
  | succ i=>
   have h3:=hr.2 p (p+(i+1)) _ _ hp (getElem?_eq_getElem (by omega)) (by omega)
   have h4:=ha.hi l[p] (by
    rw[List.drop_eq_getElem_cons (by omega)]
    exact List.mem_cons_self)
   rw[e2,e] at h3
   omega
theorem BS {ρ:Type} {body:Int->Option (Lp Int ρ)} {c:Nat->Bool}:∀(G q:Nat),q < G->(∀k:Nat,k<=q->body (k:Int)=some (if decide (0 < k) && c (k - 1) then .go ((k - 1:Nat):Int) else .brk (k:Int)))->
    ∃p:Nat,p<=q/\aT body G (q:Int)=some (.brk (p:Int))/\(∀j,p<=j->j < q->c j=true)/\(0 < p->c (p - 1)=false)
  | 0,_,h,_=>by omega
  | G+1,q,h,hb=>by
    unfold aT
    rw[hb q (le_refl _)]
    cases e:decide (0 < q) && c (q - 1) with
    | false=>
      refine⟨q,le_refl _,by simp,λj h1 h2=>by omega,λh0=> ?_⟩
      simpa [h0] using e
    | true=>
      simp only[Bool.and_eq_true,decide_eq_true_eq] at e
      obtain⟨p,h1,h2,h3,h4⟩:=BS (body:=body) (c:=c) G (q - 1) (by omega) λk hk=>hb k (by omega)
      refine⟨p,by omega,by simpa using h2,λj hj1 hj2=> ?_,h4⟩
      by_cases ej:j=q - 1
      . rw[ej]; exact e.2
      . exact h3 j hj1 (by omega)
structure Pt (l:List aS) (x:aS) (p:Nat):Prop where
 le:p<=l.length
 hi:∀y∈l.drop p,jV y x=true
 lo:∀y,0 < p->l[p - 1]? =some y->jV y x=false
theorem aDI {F:Nat} {l:List aS} {x:aS} (hF:1000<=F) (hl:l.length<=400):∃p,Pt l x p/\wM F l x=some (l.take p++x::l.drop p):=by
 obtain⟨p,h1,h2,h3,h4⟩:=BS (body:=λs=>qF F l x s) (c:=λj=>match l[j]? with | none=>false | some y=>jV y x) F l.length (by omega) (λk hk=>by
  unfold qF
  by_cases h0:0 < k
  ·have hy:l[k - 1]? =some l[k - 1]:=getElem?_eq_getElem (by omega)
   generalize l[k - 1]=y at hy
   rw[yR (by omega) h0]
   have hk0:(0:Int) < (k:Int):=by omega
   simp only[a8,hy,hk0,h0,decide_true,Bool.true_and,if_true,bind_some]
   have e:jV y x=(if decide (x.Vol < y.Vol)then true else if (y.Vol==x.Vol)then (if decide (x.File < y.File)then true else if (y.File==x.File)then decide (x.Off < y.Off) else false) else false):=by
    rw[Bool.eq_iff_iff,xB]
    by_cases a:x.Vol < y.Vol<;>by_cases b:y.Vol=x.Vol<;>by_cases c:x.File < y.File<;>by_cases d:y.File=x.File<;>simp[a,b,c,d]<;>omega
   rw[e]
   by_cases a:x.Vol < y.Vol<;>by_cases b:y.Vol=x.Vol<;>by_cases c:x.File < y.File<;>by_cases d:y.File=x.File<;>(simp[a,b,c,d,aG]<;>(split<;>rfl))
  ·obtain rfl:k=0:=by omega
   simp[aG])
 refine⟨p,⟨h1,λy hy=> ?_,λy h0 hy=> ?_⟩, ?_⟩
 ·obtain⟨i,hi,rfl⟩:=getElem_of_mem hy
  simp only[length_drop] at hi
  have:=h3 (p+i) (by omega) (by omega)
  rw[getElem?_eq_getElem (show p+i < l.length by omega)] at this
  rw[getElem_drop]
  exact this
 ·have:=h4 h0
  simp only[hy] at this
  exact this
 ·unfold wM
  rw[h2]
  simp only[aG]
  rw[JD h1 (by omega)]
  rfl
def FU (c:aA) (y:aB):aB:=if iS c y.Id then y else { y with Staged:=false,Data:=[]}
def pI (y:aB):Bool:=y.Staged || decide (0 < (y.Locs.length:Int))
def LD (c:aA):List aB:=(c.Chunks.filter λy=>pI (FU c y)).map (FU c)
theorem aI1 {F:Nat} {c:aA} (hF:1000<=F) (h:Sm c):LA F c=some (LD c):=by
 have hch:=h.ch
 unfold LA
 rw[gZ (l:=c.Chunks) [] (λy=>pI (FU c y)) (FU c) (by omega) (λi x hx hm hi acc ha=>by
  unfold uE
  simp only
  rw[f0 (by omega)]
  simp only[List.length_nil] at ha
  have ea:∀z:aB,app acc [z]=some (acc++ [z]):=λz=>bS (by simp; omega)
  simp only[a8,hx,bind_some,ofNat_lt,hi,decide_true,if_true,m44 hF (c:={ Seq:=c.Seq,Snaps:=c.Snaps,Chunks:=c.Chunks,Exps:=c.Exps,Vols:=c.Vols}) h]
  unfold FU pI
  show _=_
  rw[show iS { Seq:=c.Seq,Snaps:=c.Snaps,Chunks:=c.Chunks,Exps:=c.Exps,Vols:=c.Vols} x.Id=iS c x.Id from rfl]
  generalize iS c x.Id=ub
  obtain⟨id,st,da,lo⟩:=x
  simp only
  cases ub
  ·simp only[Bool.not_false,false_eq_true,if_true,if_false,aG,Bool.false_or]
   generalize decide (0 < (lo.length:Int))=dl
   cases dl<;>simp[aG,ea]
  ·simp only[Bool.not_true,false_eq_true,if_true,if_false,aG]
   generalize decide (0 < (lo.length:Int))=dl
   cases dl<;>cases st<;>simp[aG,ea]) (λacc=>by unfold uE; simp)]
 simp[aG,LD]
def rD (c:aA) (n:Int):aA:={ c with Snaps:=c.Snaps.filter λs=> !(s.Seq==n)}
def C8 (c:aA) (n:Int):aA:={ rD c n with Chunks:=LD (rD c n)}
theorem uL {c:aA} (h:Sm c) (q:aI->Bool):Sm { c with Snaps:=c.Snaps.filter q}:=
 { h with
  g:=⟨h.g.1,λs hs=>h.g.2.1 s (mem_filter.1 hs).1,h.g.2.2⟩
  sn:=Nat.le_trans (List.length_filter_le _ _) h.sn
  sl:=λs hs=>h.sl s (mem_filter.1 hs).1
  man:=λs hs=>h.man s (mem_filter.1 hs).1}
end Go.Proofs.YtbbifdfldpfphaaGreat
