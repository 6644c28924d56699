import Derived.Test.YtbbifdfldpfphaaGreatKAP3
import Derived.Test.YtbbifdfldpfphaaGreatKAP10
import Derived.Test.YtbbifdfldpfphaaGreatKAP4
import Derived.Test.YtbbifdfldpfphaaGreatKAP5
import Derived.Test.YtbbifdfldpfphaaGreatKAP9
import Derived.Test.YtbbifdfldpfphaaGreatKAP7
import Derived.Test.YtbbifdfldpfphaaGreatKAP6
import Derived.Test.YtbbifdfldpfphaaGreatKAP8
set_option linter.unusedSimpArgs false
set_option linter.unusedVariables false
set_option maxHeartbeats 4000000
set_option maxRecDepth 100000
open Bool(and_eq_true false_eq_true)
open ByteArray(empty)
open Int(ofNat_lt)
open Go.IntKind(wrap)
open List(all_eq_true any_eq_true any_map filter_congr filter_map getElem?_eq_getElem getElem_mem length_drop length_take map map_map mem_append mem_append_left mem_append_right mem_cons mem_filter mem_map mem_map_of_mem mem_singleton nil_sublist pairwise_map)
open Option(bind_some)
open Go.Proofs.Tryz(prog)
namespace Go.Proofs.YtbbifdfldpfphaaGreat
open Go.Vm
def lP {β:Type} (p0:List aE) (m:Int) (st:β->List aE->Option β) (s:β) (i:Int):Option (Lp (β×Int) β):=
 if decide (i < (p0.length:Int)) then ((slc p0 i (p0.length:Int)).bind λtl=>(slc p0 i (wrap .i64 (i+min m (tl.length:Int)))).bind λrow=>grd (decide (0 < wrap .i64 (i+min m (tl.length:Int)))) ((st s row).bind λs'=>Gk (s',wrap .i64 (i+m)))) else Bk (s,i)
def S7 {β:Type} (u:Nat) (p0:List aE) (m:Int) (st:β->List aE->Option β) (s0:β):Option β:=after (aR (λs=>lP p0 m st s.1 s.2) u (s0,0)) λs=>some s.1
theorem aI1 {β:Type} {Hs:β->aF->Prop} {st:β->List aE->Option β} {j:Nat} {p0:List aE} {m:Int} {s0 o:β} {k1 k2:bT} {l D p:Nat} {rec:Loop} {fr0:Fr} {h:aF}
 (hp:rec.params= #[p])
 (h1:∀s h,Hs s h->h k1=some (.obj 33 [.sl none 37 (p0.map aI)])) (h2:∀s h,Hs s h->h k2=some (.obj 3 [nZ m]))
 (hr:∀s row s' h,st s row=some s'->Hs s h->YQ prog l D p rec fr0 (.sl none 37 (row.map aI)) h (Hs s'))
 (u:S7 j p0 m st s0=some o) (h0:Hs s0 h) {E:fH} {w:World} {us:Array Value} (hi:xC l D rec fr0 E w) (r:eI E h w) (hv:cI E w [.fn (.yield l) [],.ptr k1 0,.ptr k2 0] us.toList):
 CallsIn Fence.wide 0 prog 113 us w (λe w'=>∃v E' h',e= .returned v/\dD E w E' w'/\eI E' h' w'/\Hs o h'):=by
 refine aI0 xC.stb 31 Tryz.func113 rfl rfl rfl rfl ?_ hi r hv
 unfold S7 at u
 refine P1 xC.stb (h:=h) (L:=[]) trivial ?_ (ke:=λ_ _ _=>False) (λ_ _ _ _ _ _ q=>q.elim)
 refine v ?_
 intro _
 refine vW ?_
 obtain⟨SL,hSL⟩:∃SL:Int->FR,SL=λi=>.c 0 (.fn (.yield l) []) (.c 1 (.ptr k1 0) (.c 2 (.ptr k2 0) (.c 4 (nZ i) .nil))):=⟨_,rfl⟩
 refine PX xC.stb (λm' fr hh=>∃s i,after (aR (λs=>lP p0 m st s.1 s.2) m' (s,i)) (λs=>some s.1)=some o/\∃h1,Hs s h1/\gA (fm 31 (SL i).k) h1 fr hh) j ⟨s0,0,u,h,h0, ?_⟩ ?_
 subst hSL
 exact(lx (h:=h) (L:=[]) (.k4 .nil) trivial).2
 rintro m' fr hh ⟨s,i,u,h',hs,le⟩
 refine le.awn xC.stb ?_
 cases m' with
 | zero=>cases u
 | succ m'=>
 simp only[aR] at u
 cases hx:lP p0 m st s i with
 | none=>rw[hx] at u; cases u
 | some x=>
 rw[hx] at u
 unfold lP at hx
 subst hSL
 refine P1 xC.stb (h:=h') (L:=[]) trivial ?_ (ke:=λe _ L=>e= .exit 0/\x= .brk (s,i)/\L= []) ?_
 refine vs (v (bU (gO _ mD rfl (h1 _ _ hs) rfl) (cU mC rfl (v (vi hx (λhc hx=> ?_) (λhc hx=> ?_))))))
 refine v ?_
 intro _
 obtain⟨tl,X1,hx⟩:=aD hx
 obtain⟨row,X2,hx⟩:=aD hx
 obtain⟨X3,hx⟩:=pP hx
 obtain⟨s',X4,hx⟩:=aD hx
 injection hx with hx
 subst hx
 refine DL xC.stb (vW (P1 xC.stb (h:=h') (L:=[]) trivial ?_ (ke:=λ_ _ _=>False) (λ_ _ _ _ _ _ q=>q.elim)))
 refine v (vq (by kernel_rfl) (bU (gO _ cB rfl (h2 _ _ hs) rfl) (bU (gO _ mD rfl (h1 _ _ hs) rfl) (bU (n3 X1 nQ rfl rfl rfl rfl) (cU mC rfl (bU (ZH rfl rfl) ?_))))))
 intro _
 refine DL xC.stb (S4 YF xC.stb 10 (h:=h') (L:=[]) (w:=false) rfl trivial (bU (gO _ mD rfl (h1 _ _ hs) rfl) (bU (aDM X2 X3 nQ rfl rfl rfl rfl rfl) ?_)))
 intro _
 refine HT hp rfl rfl (hr _ _ _ _ X4 hs) λg2 hs2=>S5 YF xC.stb (h:=g2) (L:=[]) (w:=false) (λ_ _ _ _ le q=>le.awn xC.stb q) rfl trivial ?_
 intro _
 refine XN (t:=false) (by rw[bF]; rfl) nofun λ_=>PW (aDN (h:=g2) (L:=[]) ?_ trivial ?_)
 rintro fr' hh' fr hh le ⟨n',hn,s,i,u,h1,hs,le'⟩
 exact⟨n',hn,s,i,u,h1,hs,le.trans le'⟩
 refine v (bU (gO _ cB rfl (h2 _ _ hs2) rfl) ?_)
 intro _
 exact⟨m',Nat.lt_succ_self _,s',_,u,g2,hs2,(lx (h:=g2) (L:=[]) (.k4 .nil) trivial).2⟩
 refine v ?_
 injection hx with hx
 exact⟨rfl,hx.symm,rfl⟩
 rintro e f L fr hh - ⟨rfl,rfl,rfl⟩ - le
 cases u
 exact⟨.inl rfl,h',_,hs,le⟩
theorem W70 {p0:List aE} {m:Int} (h:aF) (u:decide (m < 1)=false):
 aM prog 70 [.sl none 37 (map aI p0),nZ m] h (λr h'=>∃k1 k2,bP h [(some k2,.obj 3 [nZ m]),(some k1,.obj 33 [.sl none 37 (map aI p0)])]/\r= .fn (.func 113) [.ptr k1 0,.ptr k2 0]/\h'=hp h [(some k2,.obj 3 [nZ m]),(some k1,.obj 33 [.sl none 37 (map aI p0)])]):=by
 exact fQ 9 [.tmp 4] Tryz.func70 rfl rfl rfl rfl (v (gZ rfl rfl λk1 K3=>gZ rfl rfl λk2 K3=>vs (vs (v (vl 0 _ cB rfl rfl rfl (v (vf u (v (v (v (vr λw=>dW.of1 (.inl rfl) (gQ _ _ (.fn (.func 113) [.ptr k1 0,.ptr k2 0]) rfl) (iJ.refl _) (bD.refl _ _) ⟨k1,k2,w,rfl,rfl⟩)))))))))))
theorem aI2:aP prog 70=true:=by kernel_rfl
theorem aDO:aP prog 113=true:=by kernel_rfl
def QJ (p1:Int):Int:=if (decide (p1 < 1) || decide (64 < p1))then 64 else p1
theorem S8 (p1:Int):decide (QJ p1 < 1)=false:=by
 unfold QJ
 split
 rfl
 rename_i h
 simp only[Bool.or_eq_true,decide_eq_true_eq,not_or] at h
 simp only[decide_eq_false_iff_not]
 omega
def S9 (m:Nat) (s:List (List aE)) (row:List aE):Option (List (List aE)):=(M71 m row).bind λr=>app s [r]
def YS (u:Nat) (p0:List aE) (p1:Int):Option (List (List aE)):=S7 u p0 (QJ p1) (S9 u) []
section
variable (p0:List aE) (m:Int) (k1 k2 k5:bT)
def L28 (tg:Option bT) (s:List (List aE)):HL:=
 [(tg,.tok 33 1 (s.length*1)),(some k2,.obj 3 [nZ m]),(some k1,.obj 33 [.sl none 37 (map aI p0)]),(some k5,.obj 50 [ow tg 1 (map fG s)])]
def H28 (h:aF) (s:List (List aE)) (hh:aF):Prop:=∃tg,(tg=none->s= [])/\bP h (L28 p0 m k1 k2 k5 tg s)/\hh=hp h (L28 p0 m k1 k2 k5 tg s)
end
theorem W28 {fuel:Nat} {p0:List aE} {p1:Int} {o:List (List aE)} (h:aF) (u:YS fuel p0 p1=some o):
 aM prog 28 [.sl none 37 (map aI p0),nZ p1] h (λr h'=>r= .sl none 1 (map fG o)/\h'=h):=by
 unfold YS at u
 refine ACm 23 [.tmp 4] Tryz.func28 rfl rfl rfl rfl (P0 (h:=h) (L:=[]) trivial (v ?_))
 intro _
 obtain⟨m,em⟩:∃m,m=QJ p1:=⟨_,rfl⟩
 have hpos:=S8 p1
 rw[<- em] at u hpos
 refine XO (h:=h) (.c 0 (.sl none 37 (map aI p0)) (.c 1 (nZ m) .nil)) ?_ ?_
 refine vs ?_
 rcases Bool.eq_false_or_eq_true (decide (p1 < 1)) with c1 | c1
 refine v (vt c1 ?_)
 rw[c1]
 refine v (v ?_)
 have e64:m=64:=by rw[em]; simp[QJ,c1]
 subst e64
 exact⟨rfl,lx (.k2 .nil)⟩
 rcases Bool.eq_false_or_eq_true (decide (64 < p1)) with c2 | c2
 refine v (vf c1 ?_)
 rw[c1]
 refine v (vt c2 (v ?_))
 have e64:m=64:=by rw[em]; simp[QJ,c1,c2]
 subst e64
 exact⟨rfl,lx (.k2 .nil)⟩
 refine v (vf c1 ?_)
 rw[c1]
 refine v (vf c2 (v ?_))
 have e64:m=p1:=by rw[em]; simp[QJ,c1,c2]
 subst e64
 exact⟨rfl,lx (.k2 .nil)⟩
 refine P0 (h:=h) (L:=[]) trivial (v (ve λj=>bG [sZ] j aFF rfl rfl λk5 K5=>qk K5 rfl ?_))
 intro K5
 refine PZ (P0 (h:=h) K5 (v (ve λj=>dO (W70 _ hpos) rfl aI2 rfl ?_)))
 rintro x h' ⟨k1,k2,K1,rfl,rfl⟩
 refine qk (eA j K1) (dP h _ _) ?_
 intro j
 have le0:=ZV (n:=23) (f:=.c 15 (.fn (.func 113) [.ptr k1 0,.ptr k2 0]) (.c 14 (nZ m) (.c 13 (.sl none 37 (map aI p0)) (.c 5 (.ptr k5 0) (.c 0 (.sl none 37 (map aI p0)) (.c 1 (nZ m) .nil)))))) (.tok 33 1 (([]:List (List aE)).length*1)) 3 [ow none 1 (map fG [])] rfl (.cons (gD _ _) .nil) j
 obtain⟨hkL,le0⟩:=le0
 refine le0.awm (KZ (LA (by rw[bF]; rfl) aDO (λl D rec r1 r2 r3 r4 r5 E w us hi r hv=>aI1 (Hs:=H28 p0 m k1 k2 k5 h) (st:=S9 fuel) r3 ?_ ?_ ?_ u ⟨none,λ_=>rfl,hkL,rfl⟩ hi r hv) ?_))
 rintro s hh ⟨tg,ot,j,rfl⟩
 exact aW 2 j rfl
 rintro s hh ⟨tg,ot,j,rfl⟩
 exact aW 1 j rfl
 rintro s row s' hh hst ⟨tg,ot,j,rfl⟩
 unfold S9 at hst
 obtain⟨row',hr1,hst⟩:=aD hst
 have e6:∀(f:FR) (x:AV),(fm 23 f.k).set 16 x=fm 23 (f.put (some 16) x).k:=λf x=>by
   show iK (fm 23 f.k) (some 16) x=_
   rw[jD,FR.put_k]
 refine YQ.of r1 r2 (fr1:=fm 23 (FR.put (FR.put (.c 15 (.fn (.func 113) [.ptr k1 0,.ptr k2 0]) (.c 14 (nZ m) (.c 13 (.sl none 37 (map aI p0)) (.c 5 (.ptr k5 0) (.c 0 (.sl none 37 (map aI p0)) (.c 1 (nZ m) .nil)))))) (some 16) (.sl none 37 (map aI row))) (some 6) (.sl none 37 (map aI row))).k) ?_ ?_
 rw[r4,e6]
 refine SY rfl ?_
 rw[FR.put_k]
 refine qI (iC (.sl none 37 (map aI row)) rfl) (eV ⟨rfl, ?_⟩)
 rw[FR.put_k]
 exact gA.rfl'
 rw[r5]
 refine vW (PS [(5,some k5,.obj 50 [ow tg 1 (map fG s)])] rfl mixed ⟨λ_=>aO 3 j rfl,trivial⟩ (zL 0 0 (ow tg 1 (map fG s)) rfl Z9 rfl rfl rfl (zC 1 rfl (fJ (.sl none 37 (map aI row)) rfl) (zE 2 rfl (dO (W71 _ hr1) rfl aFV rfl ?_)))))
 rintro x h' ⟨t,ot',hk',rfl,rfl⟩
 refine⟨⟨λ_=> ?_,trivial⟩, ?_⟩
 rw[dP]
 exact aO 4 (eA j hk') rfl
 refine zE 3 rfl (S6 (t:=19) (.sl none 37 (map aI row')) (GS hk') (dU 37 0 ot' hk' rfl) (ZW (dX (map fG [row']) Z8 rfl rfl rfl rfl) ⟨⟨λ_=>aO 3 j rfl,trivial⟩, ?_⟩))
 refine zE 4 rfl (fC (c:=fG) 0 hst Z8 rfl rfl rfl ot j rfl λtg' ot' hk'=>⟨⟨λ_=>aO 3 hk' rfl,trivial⟩, ?_⟩)
 refine zE 5 rfl (aL 3 ([ow tg' 1 (map fG s')]) hk' rfl rfl (jN rfl) (pQ _ _ _) aFE rfl rfl λhk''=>⟨⟨λe=>absurd e (by decide),trivial⟩, ?_⟩)
 exact zX ⟨rfl,_,_,⟨tg',ot',hk'',rfl⟩,gA.rfl'⟩
 rintro hh ⟨tg,ot,j,rfl⟩
 refine⟨rfl,rfl, ?_⟩
 refine S3 (PY (BI rfl rfl (ZW (gO (ow tg 1 (map fG o)) Z9 rfl (aW 3 j rfl) rfl) ?_)))
 rw[jD]
 refine BI rfl rfl (ZW (iC (ow tg 1 (map fG o)) rfl) ?_)
 rw[jD]
 exact S1 (S2 (dW.of1 (.inl rfl) (gQ _ _ (ow tg 1 (map fG o)) rfl) (aU (nil_sublist _) j).1 (dU 1 0 ot j rfl) ⟨rfl,rfl⟩))
theorem aDP:aP prog 28=true:=by kernel_rfl
def XP (m:Nat):Option (Bool):=
 (YS m ([({ Kind:=0,Id:=gY,Seq:=1,Of:=0,Off:=0,Len:=0}:aE),({ Kind:=0,Id:=gY,Seq:=2,Of:=0,Off:=0,Len:=0}:aE),({ Kind:=0,Id:=gY,Seq:=3,Of:=0,Off:=0,Len:=0}:aE)]:List aE) 2).bind λy3=>after (if ((y3.length:Int)==2)then ((ix y3 0).bind λx0=>if ((x0.length:Int)==2)then ((ix y3 1).bind λx1=>if ((x1.length:Int)==1)then ((ix y3 1).bind λx2=>(ix x2 0).bind λx3=>Bk (x3.Seq==3)) else Bk false) else Bk false) else Bk false:Option (Lp (Bool) (Bool))) λj0=>some j0
theorem W27 {u:Nat} {o:Bool} (h:aF) (m:XP u=some o):
 aM prog 27 [] h (λr h'=>r= .sc (.bool o)/\h'=h):=by
 refine fQ 33 [.tmp 0] Tryz.func27 rfl rfl rfl rfl ?_
 unfold XP at m
 refine v (v (bU (eJ (aI ({ Kind:=0,Id:=gY,Seq:=1,Of:=0,Off:=0,Len:=0}:aE)) sQ rfl) (bU (eJ (aI ({ Kind:=0,Id:=gY,Seq:=2,Of:=0,Off:=0,Len:=0}:aE)) sQ rfl) (bU (eJ (aI ({ Kind:=0,Id:=gY,Seq:=3,Of:=0,Off:=0,Len:=0}:aE)) sQ rfl) (bU (dX (map aI ([({ Kind:=0,Id:=gY,Seq:=1,Of:=0,Off:=0,Len:=0}:aE),({ Kind:=0,Id:=gY,Seq:=2,Of:=0,Off:=0,Len:=0}:aE),({ Kind:=0,Id:=gY,Seq:=3,Of:=0,Off:=0,Len:=0}:aE)]:List aE)) lI rfl rfl rfl rfl) (vk W28 aDP m rfl rfl λ_ m=>vs (fO m (σ:=Bool) (λs=>[]) (λs=>.c 0 (.sc (.bool s)) .nil) (λx m=> ?_) ?_)))))))
 refine v (cU RE rfl ?_)
 apply vi m<;>intro b0 m
 rw[b0]
 refine vx m RF rfl rfl λ_ _ m=>cU mC rfl ?_
 apply vi m<;>intro b1 m
 rw[b1]
 refine vx m RF rfl rfl λ_ _ m=>cU mC rfl ?_
 apply vi m<;>intro b2 m
 rw[b2]
 exact vx m RF rfl rfl λ_ _ m=>vx m nQ rfl rfl λ_ _ m=>n5 m
 rw[b2]
 exact n5 m
 rw[b1]
 exact n5 m
 rw[b0]
 exact n5 m
 rintro _ j0 m
 refine v ?_
 obtain rfl:=eR m
 exact eH rfl
theorem XQ:aP prog 27=true:=by kernel_rfl
def XR (m:Nat) (p0:aA) (p1:Int):Option ((List aE)):=
 after (if decide (p1 < 0) then Bk true else if decide (1 < p1) then Bk true else (RK m p0).bind λy0=>Bk (y0 !=0):Option (Lp (Bool) ((List aE)))) λj0=>if j0 then (some []) else (VZ m p0 (λx0 x1=>M51 m x0 x1 p0 p1)).bind λy1=>some y1
theorem W17 {w:Nat} {p0:aA} {p1:Int} {o:(List aE)} (h:aF) (m:XR w p0 p1=some o):
 aM prog 17 [.agg (aC p0),nZ p1] h (λr h'=>r= .sl none 37 (map aI o)/\h'=h):=by
 refine fQ 19 [.tmp 4] Tryz.func17 rfl rfl rfl rfl ?_
 unfold XR at m
 refine v (gZ rfl rfl λk2 K3=>gZ rfl rfl λk5 K6=>vs (vs (fO m (σ:=Bool) (λs=>[(some k5,.obj 3 (eO p1)),(some k2,.obj 30 (aC p0))]) (λs=>.c 2 (.ptr k2 0) (.c 3 (.ptr k5 0) (.c 15 (.sc (.bool s)) .nil))) (λx m=> ?_) ?_)))
 refine v (vl 0 _ cB rfl rfl rfl ?_)
 apply vi m<;>intro b0 m
 rw[b0]
 exact hH m
 rw[b0]
 refine vl 0 _ cB rfl rfl rfl ?_
 apply vi m<;>intro b1 m
 rw[b1]
 exact hH m
 rw[b1]
 exact vl 1 (.agg (aC p0)) dC rfl rfl rfl (vk W31 NF m rfl rfl λ_ m=>hH m)
 rintro _ j0 m
 refine v ?_
 apply vi m<;>intro c0 m
 refine v (v ?_)
 cases m
 exact vr λu=>dW.of1 (.inl rfl) (gQ _ _ (.sc (.slice _ _ _)) rfl) (aU (nil_sublist _) u).1 (a9 _) ⟨rfl,rfl⟩
 refine v (v (vl 1 (.agg (aC p0)) dC rfl rfl rfl ?_))
 obtain⟨_,Y0,m⟩:=aD m
 refine vn (λu=>bV (W50 _ aGG (λ_ _ o h0 hs ho=>W51 _ (hs _ _ (aW 1 u rfl)) (hs _ _ (aW 0 u rfl)) ho) Y0) rfl V0 rfl) (v ?_)
 obtain rfl:=eR m
 exact eH rfl
theorem XS:aP prog 17=true:=by kernel_rfl
def DM (m:Nat) (p0:aA) (p1:List aS) (p2:Int) (q0:Int):Option (Lp (Int) (Bool)):=
 if decide (q0 < (p1.length:Int)) then (after ((ix p1 q0).bind λx0=>if decide (0<=x0.Vol) then ((ix p1 q0).bind λx1=>if decide (x1.Vol < (p0.Vols.length:Int)) then ((ix p1 q0).bind λx2=>(ix p0.Vols x2.Vol).bind λx3=>Bk (x3.Pool==p2)) else Bk false) else Bk false:Option (Lp (Bool) (Lp (Int) (Bool)))) λj0=>if j0 then Rk true else Gk (wrap .i64 (q0+1))) else Bk q0
def TA (m:Nat) (p0:aA) (p1:List aS) (p2:Int):Option (Bool):=
 after (aR (λs=>DM m p0 p1 p2 s) m 0) λr0=>some false
theorem aDQ {u:Nat} {p0:aA} {p1:List aS} {p2:Int} {o:Bool} (h:aF) (m:TA u p0 p1 p2=some o):
 aM prog 107 [.agg (aC p0),.sl none 4 (map aN p1),nZ p2] h (λr h'=>r= .sc (.bool o)/\h'=h):=by
 refine fQ 45 [.tmp 6] Tryz.func107 rfl rfl rfl rfl ?_
 unfold TA at m
 refine v (gZ rfl rfl λk2 K3=>v (jS m (σ:=Int) (λs=>[(some k2,.obj 30 (aC p0))]) (λs=>.c 1 (.sl none 4 (map aN p1)) (.c 2 (nZ p2) (.c 3 (.ptr k2 0) (.c 7 (nZ s) .nil)))) (lx (.k4 .nil)) ?_ ?_))
 rintro _ q0 x m
 replace m:DM u p0 p1 p2 q0=some x:=m
 unfold DM at m
 refine v (cU kB rfl (v ?_))
 apply vi m<;>intro c0 m
 refine v (v (vs (fO m (σ:=Bool) (λs=>[(some k2,.obj 30 (aC p0))]) (λs=>.c 1 (.sl none 4 (map aN p1)) (.c 2 (nZ p2) (.c 3 (.ptr k2 0) (.c 7 (nZ q0) (.c 44 (.sc (.bool s)) .nil))))) (λx m=> ?_) ?_)))
 refine v (vq (by kernel_rfl) (vx m jH rfl rfl λ_ _ m=> ?_))
 apply vi m<;>intro b0 m
 rw[b0]
 refine vx m jH rfl rfl λ_ _ m=>vl 0 _ i9 rfl rfl rfl (cU rF rfl ?_)
 apply vi m<;>intro b1 m
 rw[b1]
 exact vl 0 _ i9 rfl rfl rfl (vx m jH rfl rfl λ_ _ m=>vx m nA rfl rfl λ_ _ m=>kN m)
 rw[b1]
 exact kN m
 rw[b0]
 exact kN m
 rintro _ j0 m
 refine v ?_
 apply vi m<;>intro c1 m
 refine v (v (fY m λm=> ?_))
 obtain rfl:=eR m
 exact eH rfl
 exact v (v (fZ m))
 exact v (vB m)
 rintro _ r0 m
 refine v (v ?_)
 obtain rfl:=eR m
 exact eH rfl
theorem UH:aP prog 107=true:=by kernel_rfl
def M52 (m:Nat) (p0:aA) (p1:List aS) (p2:Int):Option (Bool):=
 after ((TA m p0 p1 p2).bind λy0=>if (!y0)then (if (p2==0)then Bk true else (TA m p0 p1 0).bind λy1=>Bk y1) else Bk false:Option (Lp (Bool) (Bool))) λj0=>some j0
theorem W52 {u:Nat} {p0:aA} {p1:List aS} {p2:Int} {o:Bool} (h:aF) (m:M52 u p0 p1 p2=some o):
 aM prog 52 [.agg (aC p0),.sl none 4 (map aN p1),nZ p2] h (λr h'=>r= .sc (.bool o)/\h'=h):=by
 refine fQ 21 [.tmp 6] Tryz.func52 rfl rfl rfl rfl ?_
 unfold M52 at m
 refine v (gZ rfl rfl λk2 K3=>vs (fO m (σ:=Bool) (λs=>[(some k2,.obj 30 (aC p0))]) (λs=>.c 6 (.sc (.bool s)) .nil) (λx m=> ?_) ?_))
 refine v (vl 0 (.agg (aC p0)) dC rfl rfl rfl (vk aDQ UH m rfl rfl λ_ m=> ?_))
 apply vi m<;>intro b0 m
 rw[b0]
 apply vi m<;>intro b1 m
 rw[b1]
 exact n5 m
 rw[b1]
 exact vl 0 (.agg (aC p0)) dC rfl rfl rfl (vk aDQ UH m rfl rfl λ_ m=>n5 m)
 rw[b0]
 exact n5 m
 rintro _ j0 m
 refine v ?_
 obtain rfl:=eR m
 exact eH rfl
theorem XT:aP prog 52=true:=by kernel_rfl
def HU (m:Nat) (p0:aA) (p1:Int) (q0:List aE) (q1:Int):Option (Lp ((List aE)×Int) ((List aE))):=
 if decide (q1 < (p0.Chunks.length:Int)) then (after ((ix p0.Chunks q1).bind λx0=>(WF m p0 x0.Id).bind λy0=>if y0 then ((ix p0.Chunks q1).bind λx1=>(M52 m p0 x1.Locs p1).bind λy1=>Bk y1) else Bk false:Option (Lp (Bool) (Lp ((List aE)×Int) ((List aE))))) λj0=>after (if j0 then ((ix p0.Chunks q1).bind λx2=>(app q0 ([({ Kind:=1,Id:=x2.Id,Seq:=0,Of:=0,Off:=0,Len:=0}:aE)]:List aE)).bind λz0=>Bk z0) else Bk q0:Option (Lp ((List aE)) (Lp ((List aE)×Int) ((List aE))))) λj1=>Gk (j1,wrap .i64 (q1+1))) else Bk (q0,q1)
def HV (m:Nat) (p0:aA) (p1:Int) (q0:List aE) (q1:Int):Option (Lp ((List aE)×Int) ((List aE))):=
 if decide (q1 < (p0.Snaps.length:Int)) then ((ix p0.Snaps q1).bind λx0=>(M52 m p0 x0.Locs p1).bind λy0=>after (if y0 then ((ix p0.Snaps q1).bind λx1=>(app q0 ([({ Kind:=2,Id:=gY,Seq:=x1.Seq,Of:=0,Off:=0,Len:=0}:aE)]:List aE)).bind λz0=>Bk z0) else Bk q0:Option (Lp ((List aE)) (Lp ((List aE)×Int) ((List aE))))) λj0=>Gk (j0,wrap .i64 (q1+1))) else Bk (q0,q1)
def HW (m:Nat) (p0:aA) (p1:Int) (q0:List aE) (q1:Int):Option (Lp ((List aE)×Int) ((List aE))):=
 if decide (q1 < (p0.Exps.length:Int)) then ((ix p0.Exps q1).bind λx0=>(M52 m p0 x0.Locs p1).bind λy0=>after (if y0 then ((ix p0.Exps q1).bind λx1=>(ix p0.Exps q1).bind λx2=>(app q0 ([({ Kind:=3,Id:=gY,Seq:=x1.Seq,Of:=x2.Of,Off:=0,Len:=0}:aE)]:List aE)).bind λz0=>Bk z0) else Bk q0:Option (Lp ((List aE)) (Lp ((List aE)×Int) ((List aE))))) λj0=>Gk (j0,wrap .i64 (q1+1))) else Bk (q0,q1)
def M19 (m:Nat) (p0:aA) (p1:Int):Option ((List aE)):=
 after (if (p1 !=0)then (Bk (p1 !=1)) else Bk false:Option (Lp (Bool) ((List aE)))) λj9=>if j9 then (some []) else after (aR (λs=>HU m p0 p1 s.1 s.2) m ([],0)) λ⟨r0,r1⟩=>after (aR (λs=>HV m p0 p1 s.1 s.2) m (r0,0)) λ⟨r2,r3⟩=>after (aR (λs=>HW m p0 p1 s.1 s.2) m (r2,0)) λ⟨r4,r5⟩=>some r4
theorem W19 {w:Nat} {p0:aA} {p1:Int} {o:(List aE)} (h:aF) (m:M19 w p0 p1=some o):
 aM prog 19 [.agg (aC p0),nZ p1] h (λr h'=>r= .sl none 37 (map aI o)/\h'=h):=by
 refine fQ 110 [.tmp 4] Tryz.func19 rfl rfl rfl rfl ?_
 unfold M19 at m
 refine v (gZ rfl rfl λk2 K3=>v (vs (vs (fO m (σ:=Bool) (λs=>[(some k2,.obj 30 (aC p0))]) (λs=>.c 1 (nZ p1) (.c 2 (.ptr k2 0) (.c 5 (sZ) (.c 14 (.sc (.bool s)) .nil)))) (λx m=> ?_) ?_))))
 refine v ?_
 apply vi m<;>intro b0 m
 rw[b0]
 exact fZ m
 rw[b0]
 exact fZ m
 rintro _ j9 m
 refine v ?_
 apply vi m<;>intro c0 m
 refine v (v ?_)
 cases m
 exact vr λu=>dW.of1 (.inl rfl) (gQ _ _ (.sc (.slice _ _ _)) rfl) (aU (nil_sublist _) u).1 (a9 _) ⟨rfl,rfl⟩
 refine v (v (pM (z6 (.tok 38 37 (([]:List aE).length*37)) 5 (ow none 37 (map aI [])) (gD _ _)) (nU m (σ:=(List aE)×Int) (τ:=Option bT) (λg s=>[(g,.tok 38 37 ((s.1:List aE).length*37)),(some k2,.obj 30 (aC p0))]) (λg s=>(g=none->s.1= [])) (λg s=>.c 1 (nZ p1) (.c 2 (.ptr k2 0) (.c 5 (ow g 37 (map aI s.1)) (.c 6 (nZ s.2) .nil)))) none (λ_=>rfl) (lx (.k4 .nil)) ?_ ?_)))
 rintro tg0 ⟨q0,q1⟩ x t0 m
 replace m:HU w p0 p1 q0 q1=some x:=m
 unfold HU at m
 refine v (vl 1 _ fE rfl rfl rfl (cU lH rfl (v ?_)))
 apply vi m<;>intro c1 m
 refine v (v (vs (fO m (σ:=Bool) (λs=>[(tg0,.tok 38 37 ((q0:List aE).length*37)),(some k2,.obj 30 (aC p0))]) (λs=>.c 1 (nZ p1) (.c 2 (.ptr k2 0) (.c 5 (ow tg0 37 (map aI q0)) (.c 6 (nZ q1) (.c 40 (.sc (.bool s)) .nil))))) (λx m=> ?_) ?_)))
 refine v (vq (by kernel_rfl) (vl 1 (.agg (aC p0)) dC rfl rfl rfl (vl 1 _ fE rfl rfl rfl (vx m hX rfl rfl λx0 _ m=>va (.agg (bC x0.Id)) fA rfl rfl (vk W38 WG m rfl rfl λ_ m=> ?_)))))
 apply vi m<;>intro b1 m
 rw[b1]
 exact vl 1 (.agg (aC p0)) dC rfl rfl rfl (vl 1 _ fE rfl rfl rfl (vx m hX rfl rfl λ_ _ m=>vk W52 XT m rfl rfl λ_ m=>kN m))
 rw[b1]
 exact kN m
 rintro _ j0 m
 refine oI m (σ:=(List aE)) (τ:=Option bT) (λg s=>[(g,.tok 38 37 ((s:List aE).length*37)),(some k2,.obj 30 (aC p0))]) (λg s=>(g=none->s= [])) (λg s=>.c 1 (nZ p1) (.c 2 (.ptr k2 0) (.c 5 (ow g 37 (map aI s)) (.c 6 (nZ q1) .nil)))) (λx m=> ?_) ?_
 refine v ?_
 apply vi m<;>intro c2 m
 refine v (vl 1 _ fE rfl rfl rfl (vx m hX rfl rfl λx1 _ m=>va (.agg (bC x1.Id)) fA rfl rfl (bU (eJ (aI ({ Kind:=1,Id:=x1.Id,Seq:=0,Of:=0,Off:=0,Len:=0}:aE)) sQ rfl) (bU (dX (map aI ([({ Kind:=1,Id:=x1.Id,Seq:=0,Of:=0,Off:=0,Len:=0}:aE)]:List aE)) lI rfl rfl rfl rfl) ?_))))
 obtain⟨z0,Z0,m⟩:=aD m
 exact ve λu=>fC (c:=aI) 0 Z0 lI rfl rfl rfl t0 u rfl λtg1 t1 K0=>qk K0 rfl (eG m tg1 t1 (lx (.k4 .nil)))
 exact v (eG m tg0 t0 (lx (.k4 .nil)))
 rintro tg2 j1 t2 m
 exact v (eG m tg2 t2 (lx (.k4 .nil)))
 exact v (lR m tg0 t0 (lx (.k4 .nil)))
 rintro tg3 ⟨r0,r1⟩ t3 m
 refine v (nU m (σ:=(List aE)×Int) (τ:=Option bT) (λg s=>[(g,.tok 38 37 ((s.1:List aE).length*37)),(some k2,.obj 30 (aC p0))]) (λg s=>(g=none->s.1= [])) (λg s=>.c 1 (nZ p1) (.c 2 (.ptr k2 0) (.c 5 (ow g 37 (map aI s.1)) (.c 7 (nZ s.2) .nil)))) tg3 t3 (lx (.k4 .nil)) ?_ ?_)
 rintro tg4 ⟨q2,q3⟩ x t4 m
 replace m:HV w p0 p1 q2 q3=some x:=m
 unfold HV at m
 refine v (vl 1 _ fD rfl rfl rfl (cU lA rfl (v ?_)))
 apply vi m<;>intro c3 m
 refine v (v (v (vq (by kernel_rfl) (vl 1 (.agg (aC p0)) dC rfl rfl rfl (vl 1 _ fD rfl rfl rfl (vx m iW rfl rfl λ_ _ m=>vk W52 XT m rfl rfl λ_ m=>oI m (σ:=(List aE)) (τ:=Option bT) (λg s=>[(g,.tok 38 37 ((s:List aE).length*37)),(some k2,.obj 30 (aC p0))]) (λg s=>(g=none->s= [])) (λg s=>.c 1 (nZ p1) (.c 2 (.ptr k2 0) (.c 5 (ow g 37 (map aI s)) (.c 7 (nZ q3) .nil)))) (λx m=> ?_) ?_))))))
 refine v ?_
 apply vi m<;>intro c4 m
 refine v (vl 1 _ fD rfl rfl rfl (vx m iW rfl rfl λx2 _ m=>bU (eJ (aI ({ Kind:=2,Id:=gY,Seq:=x2.Seq,Of:=0,Off:=0,Len:=0}:aE)) sQ rfl) (bU (dX (map aI ([({ Kind:=2,Id:=gY,Seq:=x2.Seq,Of:=0,Off:=0,Len:=0}:aE)]:List aE)) lI rfl rfl rfl rfl) ?_)))
 obtain⟨z1,Z1,m⟩:=aD m
 exact ve λu=>fC (c:=aI) 0 Z1 lI rfl rfl rfl t4 u rfl λtg5 t5 K1=>qk K1 rfl (eG m tg5 t5 (lx (.k4 .nil)))
 exact v (eG m tg4 t4 (lx (.k4 .nil)))
 rintro tg6 j2 t6 m
 exact v (eG m tg6 t6 (lx (.k4 .nil)))
 exact v (lR m tg4 t4 (lx (.k4 .nil)))
 rintro tg7 ⟨r2,r3⟩ t7 m
 refine v (nU m (σ:=(List aE)×Int) (τ:=Option bT) (λg s=>[(g,.tok 38 37 ((s.1:List aE).length*37)),(some k2,.obj 30 (aC p0))]) (λg s=>(g=none->s.1= [])) (λg s=>.c 1 (nZ p1) (.c 2 (.ptr k2 0) (.c 5 (ow g 37 (map aI s.1)) (.c 8 (nZ s.2) .nil)))) tg7 t7 (lx (.k4 .nil)) ?_ ?_)
 rintro tg8 ⟨q4,q5⟩ x t8 m
 replace m:HW w p0 p1 q4 q5=some x:=m
 unfold HW at m
 refine v (vl 1 _ iL rfl rfl rfl (cU pT rfl (v ?_)))
 apply vi m<;>intro c5 m
 refine v (v (v (vq (by kernel_rfl) (vl 1 (.agg (aC p0)) dC rfl rfl rfl (vl 1 _ iL rfl rfl rfl (vx m iX rfl rfl λ_ _ m=>vk W52 XT m rfl rfl λ_ m=>oI m (σ:=(List aE)) (τ:=Option bT) (λg s=>[(g,.tok 38 37 ((s:List aE).length*37)),(some k2,.obj 30 (aC p0))]) (λg s=>(g=none->s= [])) (λg s=>.c 1 (nZ p1) (.c 2 (.ptr k2 0) (.c 5 (ow g 37 (map aI s)) (.c 8 (nZ q5) .nil)))) (λx m=> ?_) ?_))))))
 refine v ?_
 apply vi m<;>intro c6 m
 refine v (vz [(1000000,some k2,.obj 30 (aC p0))] mixed (λu=>⟨λ_=>aO 1 u rfl,trivial⟩) λu=>zC 0 rfl (fJ (ow _ _ _) rfl) (zF 1 rfl eY rfl (zL 2 0 (.sl none 3 (map cH p0.Exps)) rfl iL rfl rfl rfl (zI 3 rfl rfl ?_))))
 obtain⟨x3,X0,m⟩:=aD m
 refine zC 4 rfl (lV X0 iX rfl rfl) (zC 5 rfl (m9 yD rfl rfl) (zC 6 rfl (l8 (nZ x3.Seq) cB rfl rfl) (zF 7 rfl eY rfl (zL 8 0 (.sl none 3 (map cH p0.Exps)) rfl iL rfl rfl rfl (zI 9 rfl rfl ?_)))))
 obtain⟨x4,X1,m⟩:=aD m
 refine zC 10 rfl (lV X1 iX rfl rfl) (zC 11 rfl (m9 G0 rfl rfl) (zC 12 rfl (l8 (nZ x4.Of) cB rfl rfl) (zC 13 rfl (eJ (aI ({ Kind:=3,Id:=gY,Seq:=x3.Seq,Of:=x4.Of,Off:=0,Len:=0}:aE)) sQ rfl) (zC 14 rfl (dX (map aI ([({ Kind:=3,Id:=gY,Seq:=x3.Seq,Of:=x4.Of,Off:=0,Len:=0}:aE)]:List aE)) lI rfl rfl rfl rfl) ?_))))
 obtain⟨z2,Z2,m⟩:=aD m
 refine zE 15 rfl (fC (c:=aI) 0 Z2 lI rfl rfl rfl t8 u rfl λtg9 t9 K2=>⟨⟨λ_=>aO 1 K2 rfl,trivial⟩, ?_⟩)
 exact zC 16 rfl (iC (ow _ _ _) rfl) (zX (qk (f:=.c 5 _ (Q9 108 _ _ _ _ _ _ _ _ _ _ _ _ _ _ _ _ _)) K2 rfl (eG m tg9 t9 (lx (.k4 .nil)))))
 exact v (eG m tg8 t8 (lx (.k4 .nil)))
 rintro tg10 j3 t10 m
 exact v (eG m tg10 t10 (lx (.k4 .nil)))
 exact v (lR m tg8 t8 (lx (.k4 .nil)))
 rintro tg11 ⟨r4,r5⟩ t11 m
 refine v (v ?_)
 obtain rfl:=eR m
 exact vr λu=>dW.of1 (.inl rfl) (gQ _ _ (ow _ _ _) rfl) (aU (nil_sublist _) u).1 ((dU _ 0 t11 u rfl)) ⟨rfl,rfl⟩
theorem aI7:aP prog 19=true:=by kernel_rfl
def M26 (m:Nat) (p0:aA) (p1:Int):Option ((List aE)):=
 (M69 m p0 p1 true).bind λy6=>some y6
theorem W26 {u:Nat} {p0:aA} {p1:Int} {o:(List aE)} (h:aF) (m:M26 u p0 p1=some o):
 aM prog 26 [.agg (aC p0),nZ p1] h (λr h'=>r= .sl none 37 (map aI o)/\h'=h):=by
 refine fQ 8 [.tmp 4] Tryz.func26 rfl rfl rfl rfl ?_
 unfold M26 at m
 refine v (gZ rfl rfl λk2 K3=>v (vl 0 (.agg (aC p0)) dC rfl rfl rfl (vk W69 aBR m rfl rfl λ_ m=>v ?_)))
 obtain rfl:=eR m
 exact eH rfl
theorem aI9:aP prog 26=true:=by kernel_rfl
def P2 (m:Nat) (y0:aA) (q0:Int) (y1:(List aE)) (q1:Int):Option (Lp (Int) (Lp (Int) (Bool))):=
 if decide (q1 < (y1.length:Int)) then (after ((ix y1 q1).bind λx0=>if (x0.Kind !=1)then (Bk ()) else (ix y1 q1).bind λx1=>(YJ m y0 x1.Id).bind λy2=>after (if decide (y2 < 0) then Bk true else if decide ((y0.Chunks.length:Int)<=y2) then Bk true else (ix y0.Chunks y2).bind λx2=>(T4 m y0 x2.Locs q0).bind λy3=>if y3 then Bk true else (ix y1 q1).bind λx3=>(VX m y0 x3.Id).bind λy4=>Bk (!y4):Option (Lp (Bool) (Lp (Unit) (Lp (Int) (Lp (Int) (Bool)))))) λj0=>if j0 then (Rk (.ret (.ret false))) else Bk ():Option (Lp (Unit) (Lp (Int) (Lp (Int) (Bool))))) λ_=>Gk (wrap .i64 (q1+1))) else Bk q1
def P3 (m:Nat) (y0:aA) (q0:Int):Option (Lp (Int) (Bool)):=
 if decide (q0<=2) then ((XR m y0 q0).bind λy1=>(M19 m y0 q0).bind λy2=>(M18 m y1 y2).bind λy3=>if (!y3)then Rk false else after (aR (λs=>P2 m y0 q0 y1 s) m 0) λr0=>Gk (wrap .i64 (q0+1))) else Bk q0
def P4 (m:Nat) (y0:aA) (q0:Int):Option (Lp (Int) (Bool)):=
 if decide (q0<=(y0.Vols.length:Int)) then ((M23 m y0 q0).bind λy1=>(M24 m y0 q0).bind λy2=>after ((M25 m y0 q0).bind λy3=>(M18 m y1 y3).bind λy4=>if (!y4)then Bk true else (M26 m y0 q0).bind λy5=>(M18 m y2 y5).bind λy6=>if (!y6)then Bk true else Bk (decide ((y1.length:Int) < (y2.length:Int))):Option (Lp (Bool) (Lp (Int) (Bool)))) λj0=>if j0 then Rk false else Gk (wrap .i64 (q0+1))) else Bk q0
def M3 (m:Nat) (p0:List Int) (p1:List iV):Option (Bool):=
 after (if decide (30 < (p0.length:Int)) then Bk true else (WY m p1).bind λy9=>Bk y9:Option (Lp (Bool) (Bool))) λj7=>if j7 then (some true) else (YN m p0).bind λy0=>(YO m y0 p1).bind λy1=>after (aR (λs=>P3 m y1 s) m (-1)) λr0=>after (aR (λs=>P4 m y1 s) m (-1)) λr1=>(XP m).bind λy2=>some y2
theorem W3 {w:Nat} {p0:List Int} {p1:List iV} {o:Bool} (h:aF) (m:M3 w p0 p1=some o):
 aM prog 3 [.sl none 1 (map eO p0),.sl none 5 (map eF p1)] h (λr h'=>r= .sc (.bool o)/\h'=h):=by
 refine fQ 121 [.tmp 4] Tryz.func3 rfl rfl rfl rfl ?_
 unfold M3 at m
 refine v (vs (vs (fO m (σ:=Bool) (λs=>[]) (λs=>.c 0 (.sl none 1 (map eO p0)) (.c 1 (.sl none 5 (map eF p1)) (.c 19 (.sc (.bool s)) .nil))) (λx m=> ?_) ?_)))
 refine v (cU J4 rfl ?_)
 apply vi m<;>intro b8 m
 rw[b8]
 exact hH m
 rw[b8]
 exact vk W14 aC6 m rfl rfl λ_ m=>hH m
 rintro _ j7 m
 refine v ?_
 apply vi m<;>intro c0 m
 refine v (v ?_)
 obtain rfl:=eR m
 exact eH rfl
 refine v (v (vk W16 aC7 m rfl rfl λ_ m=>vk W15 aC8 m rfl rfl λy0 m=>ve λu=>bG (jF) u sP rfl rfl λk19 K0=>qk K0 rfl (ve λu=>aL 0 (aC y0) u rfl rfl rfl rfl nB rfl rfl λK1=>qk K1 rfl (v (jS m (σ:=Int) (λs=>[(some k19,.obj 30 (aC y0))]) (λs=>.c 5 (.ptr k19 0) (.c 6 (nZ s) .nil)) (lx (.k2 .nil)) ?_ ?_)))))
 rintro _ q0 x m
 replace m:P3 w y0 q0=some x:=m
 unfold P3 at m
 refine v (v ?_)
 apply vi m<;>intro c1 m
 refine v (v (v (vl 0 (.agg (aC y0)) dC rfl rfl rfl (vk W17 XS m rfl rfl λy1 m=>v (vl 0 (.agg (aC y0)) dC rfl rfl rfl (vk W19 aI7 m rfl rfl λ_ m=>vk W18 WD m rfl rfl λ_ m=>v ?_))))))
 apply vi m<;>intro c2 m
 refine v (v (fY m λm=> ?_))
 obtain rfl:=eR m
 exact eH rfl
 refine v (v (jS m (σ:=Int) (λs=>[(some k19,.obj 30 (aC y0))]) (λs=>.c 5 (.ptr k19 0) (.c 6 (nZ q0) (.c 7 (.sl none 37 (map aI y1)) (.c 8 (nZ s) .nil)))) (lx (.k4 .nil)) ?_ ?_))
 rintro _ q1 x m
 replace m:P2 w y0 q0 y1 q1=some x:=m
 unfold P2 at m
 refine v (cU mC rfl (v ?_))
 apply vi m<;>intro c3 m
 refine v (vs (fO m (σ:=Unit) (λs=>[(some k19,.obj 30 (aC y0))]) (λs=>.c 5 (.ptr k19 0) (.c 6 (nZ q0) (.c 7 (.sl none 37 (map aI y1)) (.c 8 (nZ q1) .nil)))) (λx m=> ?_) ?_))
 refine v (v (vx m nQ rfl rfl λ_ _ m=>v ?_))
 apply vi m<;>intro c4 m
 exact v (fZ m)
 refine v (v (vq (by kernel_rfl) (vl 0 (.agg (aC y0)) dC rfl rfl rfl (vx m nQ rfl rfl λx0 _ m=>va (.agg (bC x0.Id)) fA rfl rfl (vk W20 aBD m rfl rfl λ_ m=>vs (fO m (σ:=Bool) (λs=>[(some k19,.obj 30 (aC y0))]) (λs=>.c 5 (.ptr k19 0) (.c 6 (nZ q0) (.c 7 (.sl none 37 (map aI y1)) (.c 8 (nZ q1) (.c 85 (.sc (.bool s)) .nil))))) (λx m=> ?_) ?_))))))
 refine v (vq (by kernel_rfl) ?_)
 apply vi m<;>intro b0 m
 rw[b0]
 exact kN m
 rw[b0]
 refine vl 0 _ fE rfl rfl rfl (cU lH rfl ?_)
 apply vi m<;>intro b1 m
 rw[b1]
 exact kN m
 rw[b1]
 refine vl 0 (.agg (aC y0)) dC rfl rfl rfl (vl 0 _ fE rfl rfl rfl (vx m hX rfl rfl λ_ _ m=>vk W21 RQ m rfl rfl λ_ m=> ?_))
 apply vi m<;>intro b2 m
 rw[b2]
 exact kN m
 rw[b2]
 exact vl 0 (.agg (aC y0)) dC rfl rfl rfl (vx m nQ rfl rfl λx1 _ m=>va (.agg (bC x1.Id)) fA rfl rfl (vk W22 VY m rfl rfl λ_ m=>kN m))
 rintro _ j0 m
 refine v ?_
 apply vi m<;>intro c5 m
 refine v (v (fY m λm=>fY m λm=>fY m λm=> ?_))
 obtain rfl:=eR m
 exact eH rfl
 exact v (fZ m)
 rintro _ _ m
 exact v (fZ m)
 exact v (vB m)
 rintro _ r0 m
 exact v (wQ m)
 exact v (LH m)
 rintro _ r1 m
 refine v (jS m (σ:=Int) (λs=>[(some k19,.obj 30 (aC y0))]) (λs=>.c 5 (.ptr k19 0) (.c 10 (nZ s) .nil)) (lx (.k2 .nil)) ?_ ?_)
 rintro _ q2 x m
 replace m:P4 w y0 q2=some x:=m
 unfold P4 at m
 refine v (vl 0 _ i9 rfl rfl rfl (cU rF rfl (v ?_)))
 apply vi m<;>intro c6 m
 refine v (v (v (vq (by kernel_rfl) (vl 0 (.agg (aC y0)) dC rfl rfl rfl (vk W23 aG8 m rfl rfl λ_ m=>vl 0 (.agg (aC y0)) dC rfl rfl rfl (vk W24 aHK m rfl rfl λ_ m=>vs (fO m (σ:=Bool) (λs=>[(some k19,.obj 30 (aC y0))]) (λs=>.c 5 (.ptr k19 0) (.c 10 (nZ q2) (.c 119 (.sc (.bool s)) .nil))) (λx m=> ?_) ?_)))))))
 refine v (vl 0 (.agg (aC y0)) dC rfl rfl rfl (vk W25 aHC m rfl rfl λ_ m=>vk W18 WD m rfl rfl λ_ m=> ?_))
 apply vi m<;>intro b3 m
 rw[b3]
 exact hH m
 rw[b3]
 refine vl 0 (.agg (aC y0)) dC rfl rfl rfl (vk W26 aI9 m rfl rfl λ_ m=>vk W18 WD m rfl rfl λ_ m=> ?_)
 apply vi m<;>intro b4 m
 rw[b4]
 exact hH m
 rw[b4]
 exact cU mC rfl (cU mC rfl (hH m))
 rintro _ j1 m
 refine v ?_
 apply vi m<;>intro c7 m
 refine v (v (fY m λm=> ?_))
 obtain rfl:=eR m
 exact eH rfl
 exact v (v (wQ m))
 exact v (LH m)
 rintro _ r2 m
 refine v (vk W27 XQ m rfl rfl λ_ m=>v ?_)
 obtain rfl:=eR m
 exact eH rfl
def TB (c:aA) (p:Int) (l:List aS):Bool:= !l.any (inP c p) && (p==0 || l.any (inP c 0))
theorem m79 {F:Nat} {c:aA} {p:Int} {l:List aS} {b:Bool} (hF:1000<=F) (h:Sm c) (hl:l.length<=300):M51 F l b c p=some (b && TB c p l):=by
 have hvo:=h.vo
 unfold M51 TB
 simp only[m46 hF (by omega:c.Vols.length < 1000) hl,bind_some]
 cases b<;>cases l.any (inP c p)<;>cases p==0<;>rfl
def oG (c:aA) (p:Int):List aE:=oA c λl b=>b && TB c p l
theorem m36 {F:Nat} {c:aA} {p:Int} (hF:1000<=F) (h:Sm c):XR F c p=some (if gJ c=true/\0<=p/\p<=1 then oG c p else[]):=by
 unfold XR
 by_cases h1:p < 0
 ·have:¬(gJ c=true/\0<=p/\p<=1):=by omega
  simp[h1,this,after]
 ·by_cases h2:1 < p
  ·have:¬(gJ c=true/\0<=p/\p<=1):=by omega
   simp[h1,h2,this,after]
  ·rw[m33 hF h]
   have h3:p<=1:=by omega
   have h0:0<=p:=by omega
   cases hg:gJ c
   ·simp[h1,h2,hg,after]
   ·simp only[h1,h2,decide_false,false_eq_true,if_false,if_true,bind_some,bne_self_eq_false,aG,h0,h3,and_self,true_and]
    rw[aHL (λl b=>b && TB c p l) hF h (λl b hl=>m79 hF h hl)]
    rfl
def vX (m:Nat) (p0:List aE) (q0:List aE) (q1:Int):Option (Lp ((List aE)×Int) ((List aE))):=
 if decide (q1 < (p0.length:Int)) then ((ix p0 q1).bind λx0=>(app q0 ([{ { x0 with Off:=wrap .i64 (13+(wrap .i64 (20*q1)))} with Len:=20}]:List aE)).bind λz0=>Gk (z0,wrap .i64 (q1+1))) else Bk (q0,q1)
def YT (m:Nat) (p0:List aE):Option ((List aE)):=
 after (aR (λs=>vX m p0 s.1 s.2) m ([],0)) λ⟨r0,r1⟩=>some r0
theorem W30 {w:Nat} {p0:List aE} {o:(List aE)} (h:aF) (m:YT w p0=some o):
 aM prog 30 [.sl none 37 (map aI p0)] h (λr h'=>r= .sl none 37 (map aI o)/\h'=h):=by
 refine fQ 26 [.tmp 2] Tryz.func30 rfl rfl rfl rfl ?_
 unfold YT at m
 refine v (v (v (pM (z6 (.tok 38 37 (([]:List aE).length*37)) 3 (ow none 37 (map aI [])) (gD _ _)) (nU m (σ:=(List aE)×Int) (τ:=Option bT) (λg s=>[(g,.tok 38 37 ((s.1:List aE).length*37))]) (λg s=>(g=none->s.1= [])) (λg s=>.c 0 (.sl none 37 (map aI p0)) (.c 3 (ow g 37 (map aI s.1)) (.c 4 (nZ s.2) .nil))) none (λ_=>rfl) (lx (.k3 .nil)) ?_ ?_))))
 rintro tg0 ⟨q0,q1⟩ x t0 m
 replace m:vX w p0 q0 q1=some x:=m
 unfold vX at m
 refine v (cU mC rfl (v ?_))
 apply vi m<;>intro c0 m
 refine v (v (v (vx m nQ rfl rfl λx0 _ m=>va (.agg (aI x0)) CE rfl rfl (ve λu=>bG (([nZ 0]:List AV)++bC gY++(JO:List AV)) u GY rfl rfl λk79 K0=>qk K0 rfl (ve λu=>aL 0 (aI x0) u rfl rfl rfl rfl GX rfl rfl λK1=>qk K1 rfl (v (ve λu=>aL 0 (aI { x0 with Off:=wrap .i64 (13+(wrap .i64 (20*q1)))}) u rfl rfl rfl rfl A2 rfl rfl λK2=>qk K2 rfl (ve λu=>aL 0 (aI { { x0 with Off:=wrap .i64 (13+(wrap .i64 (20*q1)))} with Len:=20}) u rfl rfl rfl rfl A2 rfl rfl λK3=>qk K3 rfl (v (vl 0 (.agg (aI { { x0 with Off:=wrap .i64 (13+(wrap .i64 (20*q1)))} with Len:=20})) CE rfl rfl rfl (bU (dX (map aI ([{ { x0 with Off:=wrap .i64 (13+(wrap .i64 (20*q1)))} with Len:=20}]:List aE)) lI rfl rfl rfl rfl) ?_)))))))))))
 obtain⟨z0,Z0,m⟩:=aD m
 exact ve λu=>fC (c:=aI) 1 Z0 lI rfl rfl rfl t0 u rfl λtg1 t1 K4=>qk K4 rfl (v (eG m tg1 t1 (mK [1] rfl rfl (.k3 .nil))))
 exact v (lR m tg0 t0 (lx (.k3 .nil)))
 rintro tg2 ⟨r0,r1⟩ t2 m
 refine v (v ?_)
 obtain rfl:=eR m
 exact vr λu=>dW.of1 (.inl rfl) (gQ _ _ (ow _ _ _) rfl) (aU (nil_sublist _) u).1 ((dU _ 0 t2 u rfl)) ⟨rfl,rfl⟩
theorem aJA:aP prog 30=true:=by kernel_rfl
theorem n71 {F:Nat} {l:List aE} (h:l.length<=1000000):M71 F l=some l:=by unfold M71; rw[bN (by simp; omega)]; simp
def F3 {α:Type} (k:Nat):Nat->List α->List (List α)
 | 0,_=>[]
 | n+1,l=>if l.length=0 then[] else l.take k::F3 k n (l.drop k)
theorem FQ {α:Type} {k:Nat} (hk:0 < k):∀(n:Nat) (l:List α),l.length<=n->(F3 k n l).flatten=l
 | 0,l,h=>by have:l= []:=List.length_eq_zero_iff.1 (by omega); subst this; rfl
 | n+1,l,h=>by
  unfold F3
  split
  ·rename_i h0
   have:l= []:=List.length_eq_zero_iff.1 h0
   subst this; rfl
  ·rename_i h0
   rw[List.flatten_cons,FQ hk n _ (by rw[length_drop]; omega),List.take_append_drop]
theorem JJ {α:Type} {k:Nat}:∀(n:Nat) (l:List α),(F3 k n l).length<=n
 | 0,l=>by simp[F3]
 | n+1,l=>by
  unfold F3
  split
  ·simp
  ·rw[List.length_cons]; have:=JJ (k:=k) n (l.drop k); omega
theorem aJB {α:Type} {l:List α} {i k:Nat} (h:i < l.length):slc l (i:Int) (min ((i:Int)+(k:Int)) (l.length:Int))=some ((l.drop i).take k):=by
 unfold slc
 rw[if_pos ⟨by omega,by omega,by omega⟩]
 have e:(min ((i:Int)+(k:Int)) (l.length:Int)).toNat=min (i+k) l.length:=by omega
 have e2:(i:Int).toNat=i:=by omega
 rw[e,e2,List.drop_take]
 congr 1
 by_cases hk:i+k<=l.length
 ·congr 1; omega
 ·rw[List.take_of_length_le (by rw[length_drop]; omega),List.take_of_length_le (by rw[length_drop]; omega)]
theorem Fq {α ρ:Type} {l:List α} {k:Nat} {body:List (List α)×Int->Option (Lp (List (List α)×Int) ρ)} (hk:0 < k) (hk2:k<=64)
    (hgo:∀(s:List (List α)) (i:Nat),i < l.length->s.length<=1000->body (s,(i:Int))=some (.go (s++ [(l.drop i).take k],((i+k:Nat):Int)))) (hbr:∀(s:List (List α)) (i:Nat),l.length<=i->i<=1000->body (s,(i:Int))=some (.brk (s,(i:Int)))) (hl:l.length<=800):
    ∀(n G:Nat) (s:List (List α)) (i:Nat),l.length - i<=n->i<=1000->n < G->s.length+n<=1000->∃j,aR body G (s,(i:Int))=some (.brk (s++F3 k n (l.drop i),j))
  | n,0,_,_,_,_,h,_=>by omega
  | n,G+1,s,i,h1,h3,h2,h4=>by
    have hi:(l.drop i).length=l.length - i:=length_drop
    unfold aR
    by_cases h:i < l.length
    . rw[hgo s i h (by omega)]
      cases n with
      | zero=>omega
      | succ n=>
        obtain⟨j,e⟩:=Fq hk hk2 hgo hbr hl n G (s++ [(l.drop i).take k]) (i+k) (by omega) (by omega) (by omega) (by simp; omega)
        refine⟨j, ?_⟩
        show aR body G _=_
        rw[e]
        rw[show F3 k (n+1) (l.drop i)=(l.drop i).take k::F3 k n ((l.drop i).drop k) from by
          show (if (l.drop i).length=0 then _ else _)=_
          rw[if_neg (by omega)],List.drop_drop]
        simp
    . rw[hbr s i (by omega) h3]
      refine⟨(i:Int), ?_⟩
      have e:F3 k n (l.drop i)= []:=by
        cases n with
        | zero=>rfl
        | succ n=>unfold F3; rw[if_pos (by omega)]
      rw[e,List.append_nil]
def BK (p1:Int):Nat:=(QJ p1).toNat
theorem JK (p1:Int):0 < BK p1/\BK p1<=64/\QJ p1=(BK p1:Int):=by
 unfold BK QJ
 split
 ·decide
 ·rename_i h
  simp only[Bool.or_eq_true,decide_eq_true_eq,not_or] at h
  omega
theorem n28 {F:Nat} {l:List aE} {p1:Int} (hF:1000<=F) (hl:l.length<=800):YS F l p1=some (F3 (BK p1) l.length l):=by
 obtain⟨hk,hk2,hm⟩:=JK p1
 unfold YS S7
 rw[hm]
 have hgo:∀(s:List (List aE)) (i:Nat),i < l.length->s.length<=1000->lP l (BK p1:Int) (S9 F) s (i:Int)=some (.go (s++ [(l.drop i).take (BK p1)],((i+BK p1:Nat):Int))):=by
  intro s i h hs
  have hi:(l.drop i).length=l.length - i:=length_drop
  unfold lP
  rw[if_pos (by simpa using h)]
  have e1:slc l (i:Int) (l.length:Int)=some (l.drop i):=by
   unfold slc
   rw[if_pos ⟨by omega,by omega,by omega⟩]
   have e2:(i:Int).toNat=i:=by omega
   have e3:(l.length:Int).toNat=l.length:=by omega
   rw[e2,e3,List.take_length]
  have e2:wrap .i64 ((i:Int)+min (BK p1:Int) ((l.drop i).length:Int))=min ((i:Int)+(BK p1:Int)) (l.length:Int):=by
   rw[hi,wr (by omega) (by omega)]; omega
  have e3:wrap .i64 ((i:Int)+(BK p1:Int))=((i+BK p1:Nat):Int):=by rw[wr (by omega) (by omega)]; omega
  have e4:S9 F s ((l.drop i).take (BK p1))=some (s++ [(l.drop i).take (BK p1)]):=by
   unfold S9
   rw[n71 (by rw[length_take]; omega)]
   simp only[bind_some]
   exact bN (by simp; omega)
  simp only[e1,bind_some,e2,aJB h,e4,e3]
  unfold grd
  rw[if_pos (by simp; omega)]
 have hbr:∀(s:List (List aE)) (i:Nat),l.length<=i->i<=1000->lP l (BK p1:Int) (S9 F) s (i:Int)=some (.brk (s,(i:Int))):=by
  intro s i h _
  unfold lP
  rw[if_neg (by simpa using h)]
 obtain⟨j,e⟩:=Fq (ρ:=List (List aE)) (body:=λs=>lP l (BK p1:Int) (S9 F) s.1 s.2) (l:=l) hk hk2 hgo hbr hl l.length F [] 0 (by omega) (by omega) (by omega) (by simp; omega)
 have e':aR (λs=>lP l (BK p1:Int) (S9 F) s.1 s.2) F (([]:List (List aE)),(0:Int))=_:=e
 rw[e']
 rfl
theorem JL {α:Type} {k:Nat}:∀(n:Nat) (l:List α),∀x∈F3 k n l,x.Sublist l/\x.length<=k/\(0 < k->0 < x.length)
 | 0,l,x,h=>by simp[F3] at h
 | n+1,l,x,h=>by
  unfold F3 at h
  split at h
  ·simp at h
  ·rename_i h0
   rcases mem_cons.1 h with rfl | h
   ·exact⟨List.take_sublist _ _,by rw[length_take]; omega,λhk=>by rw[length_take]; omega⟩
   ·obtain⟨h1,h2⟩:=JL n _ x h
    exact⟨h1.trans (List.drop_sublist _ _),h2⟩
def h9:Nat->List aE->List aE
 | _,[]=>[]
 | i,x::l=> { x with Off:=13+20*(i:Int),Len:=20}::h9 (i+1) l
theorem BL (x:aE):∀(l:List aE) (i:Nat),h9 i (l++ [x])=h9 i l++ [{ x with Off:=13+20*((i+l.length:Nat):Int),Len:=20}]
 | [],i=>rfl
 | y::l,i=>by
  show _::h9 (i+1) (l++ [x])=_
  rw[BL x l (i+1),show i+1+l.length=i+(y::l).length by simp; omega]
  rfl
theorem uO:∀(l:List aE) (i:Nat),(h9 i l).length=l.length
 | [],_=>rfl
 | x::l,i=>by
  show (h9 (i+1) l).length+1=_
  rw[uO l (i+1)]; rfl
theorem kZ:∀ {l:List aE} {i:Nat},∀y∈h9 i l,∃x∈l,y.Kind=x.Kind/\y.Id=x.Id/\y.Seq=x.Seq/\y.Of=x.Of/\13<=y.Off/\y.Off<=13+20*((i+l.length:Nat):Int)/\y.Len=20
 | [],_,y,h=>by cases h
 | x::l,i,y,h=>by
  rcases mem_cons.1 h with rfl | h
  ·refine⟨x,List.mem_cons_self,rfl,rfl,rfl,rfl, ?_, ?_,rfl⟩
   ·show (13:Int)<=13+20*(i:Int); omega
   ·show 13+20*(i:Int)<=_; simp; omega
  ·obtain⟨z,hz,a,b,c,d,e,f,g⟩:=kZ y h
   refine⟨z,List.mem_cons_of_mem _ hz,a,b,c,d,e, ?_,g⟩
   simp only[List.length_cons] at f ⊢
   omega
theorem uP:∀ {l:List aE} {i:Nat},∀x∈l,∃y∈h9 i l,y.Kind=x.Kind/\y.Id=x.Id/\y.Seq=x.Seq/\y.Of=x.Of
 | [],_,x,h=>by cases h
 | z::l,i,x,h=>by
  rcases mem_cons.1 h with rfl | h
  ·exact⟨_,List.mem_cons_self,rfl,rfl,rfl,rfl⟩
  ·obtain⟨y,hy,e⟩:=uP (i:=i+1) x h
   exact⟨y,List.mem_cons_of_mem _ hy,e⟩
theorem JM:∀ {l:List aE} {i:Nat},l.Pairwise Un->(h9 i l).Pairwise Un
 | [],_,_=>.nil
 | x::l,i,h=>by
  obtain⟨h1,h2⟩:=List.pairwise_cons.1 h
  refine List.pairwise_cons.2 ⟨λy hy=> ?_,JM h2⟩
  obtain⟨z,hz,a,b,c, -⟩:=kZ y hy
  have:=h1 z hz
  unfold Un at this ⊢
  rw[a,b,c]
  exact this
theorem n30 {F:Nat} {l:List aE} (hF:1000<=F) (hl:l.length<=800):YT F l=some (h9 0 l):=by
 have:=iT (body:=λs:List aE×Int=>vX F l s.1 s.2) (s0:=(([]:List aE),(0:Int))) (n:=l.length) (F:=F) (λi:Nat=>(h9 0 (l.take i),(i:Int))) (by omega) rfl (λi hi=>by
  have hx:l[i]? =some l[i]:=getElem?_eq_getElem hi
  unfold vX
  simp only
  rw[iG (by omega),List.take_succ_eq_append_getElem hi,BL]
  simp only[aX,hx,bind_some,ofNat_lt,hi,decide_true,if_true]
  rw[bN (by rw[uO]; simp; omega),wr (n:=20*(i:Int)) (by omega) (by omega),wr (n:=13+20*(i:Int)) (by omega) (by omega)]
  simp[Nat.min_eq_left (Nat.le_of_lt hi)]) (by unfold vX; simp)
 unfold YT
 rw[this]
 simp[aG]
def Mo (v:Int) (a b:List aS):Prop:=(∀l∈a,l∈b)/\∀l∈b,l∈a\/l.Vol=v
theorem Mo.refl (v:Int) (a:List aS):Mo v a a:=⟨λ_ h=>h,λ_ h=>.inl h⟩
theorem Mo.trans {v:Int} {a b c:List aS} (h:Mo v a b) (k:Mo v b c):Mo v a c:=⟨λl hl=>k.1 l (h.1 l hl),λl hl=>by
 rcases k.2 l hl with h1 | h1
 ·exact h.2 l h1
 ·exact .inr h1⟩
theorem Mo.put (a:List aS) (x:aS):Mo x.Vol a (fR a x):=⟨λl hl=>kC.2 (.inl hl),λl hl=>by
 rcases kC.1 hl with h | h
 ·exact .inl h
 ·exact .inr (by rw[h])⟩
def P5 (v:Int) (l:List aS):Prop:=∃x∈l,x.Vol=v
theorem P5.mo {v:Int} {a b:List aS} (h:P5 v a) (k:Mo v a b):P5 v b:=by
 obtain⟨x,hx,e⟩:=h
 exact⟨x,k.1 x hx,e⟩
structure Fk (v:Int) (g:aB->aB):Prop where
 i:∀y,(g y).Id=y.Id
 l:∀y,Mo v y.Locs (g y).Locs
structure Fs (v:Int) (f:aH->aH):Prop where
 i:∀y,(f y).Seq=y.Seq/\(f y).Man=y.Man
 l:∀y,Mo v y.Locs (f y).Locs
structure Fe (v:Int) (f:aT->aT):Prop where
 i:∀y,(f y).Seq=y.Seq/\(f y).Of=y.Of
 l:∀y,Mo v y.Locs (f y).Locs
theorem Fk.comp {v:Int} {f g:aB->aB} (h:Fk v f) (k:Fk v g):Fk v (g ∘ f):=⟨λy=>(k.i _).trans (h.i y),λy=>(h.l y).trans (k.l _)⟩
theorem Fs.comp {v:Int} {f g:aH->aH} (h:Fs v f) (k:Fs v g):Fs v (g ∘ f):=⟨λy=>⟨(k.i _).1.trans (h.i y).1,(k.i _).2.trans (h.i y).2⟩,λy=>(h.l y).trans (k.l _)⟩
theorem Fe.comp {v:Int} {f g:aT->aT} (h:Fe v f) (k:Fe v g):Fe v (g ∘ f):=⟨λy=>⟨(k.i _).1.trans (h.i y).1,(k.i _).2.trans (h.i y).2⟩,λy=>(h.l y).trans (k.l _)⟩
theorem aDS {i:aE} {a:aS}:Fk a.Vol (pK i a):=⟨qG i a,λy=>by
 unfold pK
 split
 ·exact Mo.put _ a
 ·exact Mo.refl _ _⟩
theorem UI {v p:Int} {l:List aE}:Fk v (dQ p l):=⟨uN p l,λy=>by
 have:(dQ p l y).Locs=y.Locs:=by
  unfold dQ
  induction l generalizing y with
  | nil=>rfl
  | cons i l ih=>
   rw[List.foldl_cons,ih]
   unfold qS
   split<;>rfl
 rw[this]
 exact Mo.refl _ _⟩
theorem UJ {i:aE} {a:aS}:Fs a.Vol (w7 i a):=⟨o8 i a,λy=>by
 unfold w7
 split
 ·exact Mo.put _ a
 ·exact Mo.refl _ _⟩
def UK (i:aE) (a:aS) (s:aT):aT:=if i.Kind=3/\s.Seq=i.Seq then { s with Locs:=fR s.Locs a} else s
theorem P6 {i:aE} {a:aS}:Fe a.Vol (UK i a):=⟨λy=>by unfold UK; split<;>exact⟨rfl,rfl⟩,λy=>by
 unfold UK
 split
 ·exact Mo.put _ a
 ·exact Mo.refl _ _⟩
theorem FU {l:List aT} {i:aE} {a:aS} (h:l.Pairwise λy x=>y.Seq < x.Seq) (k:i.Kind=3) (hz:∃z∈l,z.Seq=i.Seq):mI l i a=l.map (UK i a):=by
 obtain⟨z,hz,e⟩:=hz
 obtain⟨p,hp,rfl⟩:=List.getElem_of_mem hz
 have hx:l[p]? =some l[p]:=getElem?_eq_getElem hp
 obtain⟨s1, -,s3⟩:=zH h (Nat.le_of_lt hp) (q:=i.Seq) (λj x hj hjp=>by
  have:=KS h hj hx hjp
  omega) (λx hx'=>by rw[hx] at hx'; cases hx'; omega)
 obtain⟨f1,f2⟩:=s3 _ hx e
 unfold mI vT
 rw[f2,s1,f1]
 have:=o7 (λy:aT=>y.Seq=i.Seq) (λy=> { y with Locs:=fR y.Locs a}) hx e (λy hy e2=>by
  obtain⟨j,hj,rfl⟩:=List.getElem_of_mem hy
  simp only[length_take] at hj
  rw[List.getElem_take] at e2
  have:=KS h (getElem?_eq_getElem (show j < l.length by omega)) hx (by omega)
  omega) (λy hy e2=>by
  obtain⟨j,hj,rfl⟩:=List.getElem_of_mem hy
  simp only[length_drop] at hj
  rw[List.getElem_drop] at e2
  have:=KS h hx (getElem?_eq_getElem (show p+1+j < l.length by omega)) (by omega)
  omega)
 rw[List.set_eq_take_append_cons_drop,if_pos hp] at this
 refine this.trans (List.map_congr_left λy _=> ?_)
 unfold UK
 simp only[k,true_and]
def aDT (c:aA) (i:aE):Prop:=(i.Kind=1->kM c.Chunks i.Id=true)/\(i.Kind=2->c.Snaps.any (λs=>s.Seq==i.Seq)=true)/\(i.Kind=3->∃z∈c.Exps,z.Seq=i.Seq/\z.Of=i.Of)
theorem FV {v f:Int} {c:aA} (hp:c.Exps.Pairwise λy x=>y.Seq < x.Seq):∀l:List aE,(∀i∈l,i.Kind=3->∃z∈c.Exps,z.Seq=i.Seq)->(∀i∈l,i.Kind=3->i.Seq < c.Seq)->
    (gX v f c l).Seq=c.Seq/\(∃g,Fk v g/\(gX v f c l).Chunks=c.Chunks.map g)/\(∃g,Fs v g/\(gX v f c l).Snaps=c.Snaps.map g)/\∃g,Fe v g/\(gX v f c l).Exps=c.Exps.map g:=kY
  (λ_ _=>⟨rfl,⟨id,⟨λ_=>rfl,λ_=>Mo.refl _ _⟩,by simp[gX]⟩,⟨id,⟨λ_=>⟨rfl,rfl⟩,λ_=>Mo.refl _ _⟩,by simp[gX]⟩,⟨id,⟨λ_=>⟨rfl,rfl⟩,λ_=>Mo.refl _ _⟩,by simp[gX]⟩⟩)
  λl i ih h1 h2=>by
    obtain⟨q,⟨g,hg,eg⟩,⟨f',hf,ef⟩,x,hx,ex⟩:=ih (λj hj=>h1 j (mem_append_left _ hj)) (λj hj=>h2 j (mem_append_left _ hj))
    rw[kX]
    refine⟨?_,⟨pK i (jV v f i) ∘ g,hg.comp (aDS (a:=jV v f i)), ?_⟩,⟨w7 i (jV v f i) ∘ f',hf.comp (UJ (a:=jV v f i)), ?_⟩,UK i (jV v f i) ∘ x,hx.comp (P6 (a:=jV v f i)), ?_⟩
    . show (if i.Kind=3 then max (gX v f c l).Seq (i.Seq+1) else (gX v f c l).Seq)=_
      split
      . rename_i k
        have:=h2 i (by simp) k
        omega
      . exact q
    . show (gX v f c l).Chunks.map _=_
      rw[eg,map_map]
    . show (gX v f c l).Snaps.map _=_
      rw[ef,map_map]
    . show (if i.Kind=3 then mI (gX v f c l).Exps i (jV v f i) else (gX v f c l).Exps)=_
      split
      . rename_i k
        obtain⟨z,hz,e⟩:=h1 i (by simp) k
        rw[FU (by rw[ex]; exact pairwise_map.2 (hp.imp fun {a b} h=>by rw[(hx.i a).1,(hx.i b).1]; exact h)) k ⟨x z,by rw[ex]; exact mem_map_of_mem hz,by rw[(hx.i z).1,e]⟩,ex,map_map]
      . rename_i k
        rw[ex,<- map_map,kH (f:=UK i (jV v f i)) λy _=>if_neg λh=>k h.1]
theorem P7 {v f:Int} {c:aA}:∀l:List aE,∀i∈l,i.Kind=2->∀y∈(gX v f c l).Snaps,y.Seq=i.Seq->P5 v y.Locs:=kY (λi hi=>by cases hi) λl j ih i hi k y hy e=>by
 rw[kX] at hy
 obtain⟨z,hz,rfl⟩:=mem_map.1 hy
 rw[(o8 _ _ _).1] at e
 rcases mem_append.1 hi with h | h
 ·exact(ih i h k z hz e).mo ((UJ (i:=j) (a:=jV v f j)).l z)
 ·rw[mem_singleton.1 h] at e k
  unfold w7
  rw[if_pos ⟨k,e⟩]
  exact⟨_,kC.2 (.inr rfl),rfl⟩
theorem P8 {v f:Int} {c:aA} (hp:c.Exps.Pairwise λy x=>y.Seq < x.Seq):∀l:List aE,(∀i∈l,i.Kind=3->∃z∈c.Exps,z.Seq=i.Seq)->(∀i∈l,i.Kind=3->i.Seq < c.Seq)->∀i∈l,i.Kind=3->∀y∈(gX v f c l).Exps,y.Seq=i.Seq->P5 v y.Locs:=kY (λ_ _ i hi=>by cases hi) λl j ih h1 h2 i hi k y hy e=>by
 obtain⟨-, -, -,x,hx,ex⟩:=FV (v:=v) (f:=f) hp l (λj hj=>h1 j (mem_append_left _ hj)) (λj hj=>h2 j (mem_append_left _ hj))
 have ih:=ih (λj hj=>h1 j (mem_append_left _ hj)) (λj hj=>h2 j (mem_append_left _ hj))
 rw[kX] at hy
 have hy:y∈(if j.Kind=3 then mI (gX v f c l).Exps j (jV v f j) else (gX v f c l).Exps):=hy
 split at hy
 ·rename_i k3
  obtain⟨z,hz,ez⟩:=h1 j (by simp) k3
  rw[FU (by rw[ex]; exact pairwise_map.2 (hp.imp fun {a b} h=>by rw[(hx.i a).1,(hx.i b).1]; exact h)) k3 ⟨x z,by rw[ex]; exact mem_map_of_mem hz,by rw[(hx.i z).1,ez]⟩] at hy
  obtain⟨w,hw,rfl⟩:=mem_map.1 hy
  rw[((P6 (i:=j) (a:=jV v f j)).i w).1] at e
  rcases mem_append.1 hi with h | h
  ·exact(ih i h k w hw e).mo ((P6 (i:=j) (a:=jV v f j)).l w)
  ·rw[mem_singleton.1 h] at e
   unfold UK
   rw[if_pos ⟨k3,e⟩]
   exact⟨_,kC.2 (.inr rfl),rfl⟩
 ·rename_i k3
  rcases mem_append.1 hi with h | h
  ·exact ih i h k y hy e
  ·rw[mem_singleton.1 h] at k
   exact absurd k k3
structure wO (v:Int) (na nb n:Nat) (c e:aA) (S:List aE):Prop where
 sm:Sm e
 gd:Gd e
 bd:Bd3 na nb n e
 q:e.Seq=c.Seq
 k:∃g,Fk v g/\e.Chunks=c.Chunks.map g
 s:∃g,Fs v g/\e.Snaps=c.Snaps.map g
 x:∃g,Fe v g/\e.Exps=c.Exps.map g
 wl:e.Vols.length=c.Vols.length
 wp:∀j:Nat,(e.Vols[j]?).map (·.Pool)=(c.Vols[j]?).map (·.Pool)
 wo:∀j:Nat,j≠v.toNat->e.Vols[j]? =c.Vols[j]?
 wv:∃x,e.Vols[v.toNat]? =some x/\x.State≠3
 gk:∀i∈S,i.Kind=1->∀y∈e.Chunks,y.Id=i.Id->P5 v y.Locs
 gs:∀i∈S,i.Kind=2->∀y∈e.Snaps,y.Seq=i.Seq->P5 v y.Locs
 ge:∀i∈S,i.Kind=3->∀y∈e.Exps,y.Seq=i.Seq->P5 v y.Locs
abbrev Xt (v:Int) (n:Nat) (c e:aA) (S:List aE):Prop:=wO v n n n c e S
theorem wO.init {v:Int} {na nb n:Nat} {c:aA} (h:Sm c) (G:Gd c) (B:Bd3 na nb n c) (hx:∃x,c.Vols[v.toNat]? =some x/\x.State≠3):wO v na nb n c c []:=
 ⟨h,G,B,rfl,⟨id,⟨λ_=>rfl,λ_=>Mo.refl _ _⟩,by simp⟩,⟨id,⟨λ_=>⟨rfl,rfl⟩,λ_=>Mo.refl _ _⟩,by simp⟩,⟨id,⟨λ_=>⟨rfl,rfl⟩,λ_=>Mo.refl _ _⟩,by simp⟩,rfl,λ_=>rfl,λ_ _=>rfl,hx,λ_ h=>(by cases h),λ_ h=>(by cases h),λ_ h=>(by cases h)⟩
theorem Xt.init {v:Int} {n:Nat} {c:aA} (h:Sm c) (G:Gd c) (B:Bd n c) (hx:∃x,c.Vols[v.toNat]? =some x/\x.State≠3):Xt v n c c []:=wO.init h G B hx
structure Trk (e e':aA) (l:List aE):Prop where
 k:∀y∈e'.Chunks,∃z∈e.Chunks,y.Id=z.Id/\(y.Locs=z.Locs\/∃i∈l,i.Kind=1/\i.Id=z.Id/\∃p,y.Locs=fR z.Locs p)
 s:∀y∈e'.Snaps,∃z∈e.Snaps,y.Seq=z.Seq/\(y.Locs=z.Locs\/∃i∈l,i.Kind=2/\i.Seq=z.Seq/\∃p,y.Locs=fR z.Locs p)
structure Row (c:aA) (l:List aE):Prop where
 n:0 < l.length/\l.length<=64
 it:∀i∈l,mL i.Id/\(0<=i.Seq/\i.Seq<=1073741824)/\gI i.Of/\1<=i.Kind/\i.Kind<=3
 h:∀i∈l,aDT c i
 u:l.Pairwise Un
def oH (v:Int) (l:List aE):aV:={ Kind:=3,Snap:={ Seq:=0,Man:={ Name:=empty,Parts:=[]},Locs:=[]},Chunks:=[],Seq:=0,Vol:=v,Items:=h9 0 l}
theorem wO.step {F:Nat} {v:Int} {na nb n:Nat} {c e:aA} {S l:List aE} (hF:1000<=F) (G:Gd c) (X:wO v na nb n c e S) (hn:n<=190) (hna:na<=190) (hnb:nb<=60000) (hv:0<=v) (gv:gI v) (R:Row c l):
    ∃e',QH F e (oH v l)=some (e',0)/\wO v (na+1) (nb+1) (n+1) c e' (S++l)/\Trk e e' l:=by
  obtain⟨x,hx,hs⟩:=X.wv
  obtain⟨gk,hgk,egk⟩:=X.k
  obtain⟨gs,hgs,egs⟩:=X.s
  obtain⟨gx,hgx,egx⟩:=X.x
  have hq:=X.q
  have bq:=X.bd.q
  have e3:∀i∈h9 0 l,i.Kind=3->(∃z∈e.Exps,z.Seq=i.Seq/\z.Of=i.Of)/\0<=i.Of/\i.Of < i.Seq/\i.Seq < e.Seq:=λi hi k=>by
    obtain⟨j,hj,a,b,s,o, -⟩:=kZ i hi
    obtain⟨z,hz,z1,z2⟩:=(R.h j hj).2.2 (by omega)
    have:=G.eq z hz
    simp only[fB,and_eq_true,decide_eq_true_eq] at this
    refine⟨⟨gx z,by rw[egx]; exact mem_map_of_mem hz,by rw[(hgx.i z).1,z1,s],by rw[(hgx.i z).2,z2,o]⟩,by omega,by omega,by omega⟩
  have W:Wok n e (oH v l) x:=by
    refine⟨⟨by show (h9 0 l).length<=64; rw[uO]; exact R.n.2,λi hi=> ?_⟩,JM R.u,hx,hv,gv, ?_,λi hi=> ?_,λi hi=> ?_,λi hi k=> ?_⟩
    . obtain⟨j,hj,a,b,s,o,o1,o2,o3⟩:=kZ i hi
      have:=R.it j hj
      have hl:=R.n.2
      rw[b,s,o,o3]
      exact⟨this.1,this.2.1,this.2.2.1,(show gI i.Off from⟨by omega,by omega⟩),(show gI 20 from⟨by decide,by decide⟩)⟩
    . have hne:h9 0 l≠ []:=λh=>by
        have:=uO l 0
        rw[h] at this
        have:=R.n.1
        simp at*; omega
      have hany:(h9 0 l).any (λi=>decide (i.Kind < 1) || decide (3 < i.Kind))=false:=List.any_eq_false.2 λi hi=>by
        obtain⟨j,hj,a, -⟩:=kZ i hi
        have:=(R.it j hj).2.2.2
        simp; omega
      show (!(x.State==3) && !(h9 0 l).isEmpty && !_)=true
      rw[show (oH v l).Items=h9 0 l from rfl,hany]
      simp[hs,hne]
    . obtain⟨j,hj,a,b,s, -⟩:=kZ i hi
      have hh:=R.h j hj
      unfold jY
      split
      . rename_i k
        rw[egk,oD hgk.i,b]
        exact hh.1 (by omega)
      . split
        . rename_i k
          have:=hh.2.1 (by omega)
          rw[egs,any_map,s]
          rw[show ((λt:aH=>t.Seq==j.Seq) ∘ gs)=λt=>t.Seq==j.Seq from funext λt=>by simp[(hgs.i t).1]]
          exact this
        . rfl
    . obtain⟨j,hj, -, -, -, -,o1,o2,o3⟩:=kZ i hi
      have hl:=R.n.2
      omega
    . have:=e3 i hi k
      omega
  obtain⟨GE,BE⟩:=SW X.sm X.gd X.bd hn hna hnb W
  have SE:=DH X.sm X.gd W.w gv hx W.kd
  have hap:=PF hF X.sm X.gd rfl W.w gv hv hx
  rw[if_pos W.k,if_pos (all_eq_true.2 λi hi=>W.p i hi),if_pos (kV.2 GE)] at hap
  have hu:(h9 0 l).Pairwise Un:=W.u
  refine⟨jI e (oH v l) x,hap, ?_,⟨λy hy=> ?_,λy hy=> ?_⟩⟩
  rotate_left
  . obtain⟨w,hw,ei,el⟩:=JA y hy
    obtain⟨z,hz,zi, -, -,e2⟩:=FL hu w hw
    refine⟨z,hz,ei.trans zi, ?_⟩
    rw[el]
    rcases e2 with e2 | ⟨i,hi,ik,ii,e2⟩
    . exact .inl e2
    . obtain⟨j,hj,a,b, -⟩:=kZ i hi
      exact .inr ⟨j,hj,a.symm.trans ik,b.symm.trans ii,_,e2⟩
  . obtain⟨o1,o2,o3⟩:=JC (c:=e) (d:=oH v l) (x:=x)
    rw[o3] at hy
    obtain⟨z,hz,zi, -,e2⟩:=I9 hu y (mem_filter.1 hy).1
    refine⟨z,hz,zi, ?_⟩
    rcases e2 with e2 | ⟨i,hi,ik,ii,e2⟩
    . exact .inl e2
    . obtain⟨j,hj,a,b,s, -⟩:=kZ i hi
      exact .inr ⟨j,hj,a.symm.trans ik,s.symm.trans ii,_,e2⟩
  obtain⟨o1,o2,o3⟩:=JC (c:=e) (d:=oH v l) (x:=x)
  obtain⟨m1,⟨fk,hfk,efk⟩,⟨fs,hfs,efs⟩,fx,hfx,efx⟩:=FV (v:=v) (f:=x.Files+1) (c:=ws e v x) X.gd.eo (h9 0 l) (λi hi k=>by obtain⟨⟨z,hz,h1, -⟩, -⟩:=e3 i hi k; exact⟨z,hz,h1⟩) (λi hi k=>(e3 i hi k).2.2.2)
  have efs:(gX v (x.Files+1) (ws e v x) (h9 0 l)).Snaps=e.Snaps.map fs:=efs
  have efk:(gX v (x.Files+1) (ws e v x) (h9 0 l)).Chunks=e.Chunks.map fk:=efk
  have efx:(gX v (x.Files+1) (ws e v x) (h9 0 l)).Exps=e.Exps.map fx:=efx
  have m1:(gX v (x.Files+1) (ws e v x) (h9 0 l)).Seq=e.Seq:=m1
  have hng:∀s∈(gX v (x.Files+1) (ws e v x) (h9 0 l)).Snaps,jE (h9 0 l) s=false:=λs hs=>by
    rw[efs] at hs
    obtain⟨t,ht,rfl⟩:=mem_map.1 hs
    unfold jE
    rw[List.any_eq_false]
    intro i hi
    by_cases k:i.Kind=3
    . obtain⟨⟨z,hz,z1,z2⟩, -⟩:=e3 i hi k
      have:=X.gd.ex z hz t ht
      rw[(hfs.i t).1]
      simp[k]; omega
    . simp[k]
  have es:(jI e (oH v l) x).Snaps=e.Snaps.map fs:=by
    rw[o3]
    show ((gX v (x.Files+1) (ws e v x) (h9 0 l)).Snaps.filter λs=> !jE (h9 0 l) s)=_
    rw[List.filter_eq_self.2 λs hs=>by rw[hng s hs]; rfl,efs]
  have hw1:iU e (oH v l) x= { gX v (x.Files+1) (ws e v x) (h9 0 l) with Chunks:=(gX v (x.Files+1) (ws e v x) (h9 0 l)).Chunks.map (dQ x.Pool (h9 0 l))}:=nL _ _ _ _ _
  have ek:(jI e (oH v l) x).Chunks=e.Chunks.map (dQ x.Pool (h9 0 l) ∘ fk):=by
    have h1:(iU e (oH v l) x).Chunks=e.Chunks.map (dQ x.Pool (h9 0 l) ∘ fk):=by rw[hw1,<- map_map,<- efk]
    have h2:(rU e (oH v l) x).Snaps=(iU e (oH v l) x).Snaps:=by
      show (iU e (oH v l) x).Snaps.filter _=_
      have h3:(iU e (oH v l) x).Snaps=(gX v (x.Files+1) (ws e v x) (h9 0 l)).Snaps:=by rw[hw1]
      rw[List.filter_eq_self.2 λs hs=>by rw[h3] at hs; rw[show (oH v l).Items=h9 0 l from rfl,hng s hs]; rfl]
    unfold jI
    rw[h2,if_neg (Nat.lt_irrefl _)]
    exact h1
  have ex:(jI e (oH v l) x).Exps=e.Exps.map fx:=by rw[o2]; exact efx
  have ev:(jI e (oH v l) x).Vols=e.Vols.set v.toNat { x with State:=2,Files:=x.Files+1}:=by
    have:(iU e (oH v l) x).Vols=e.Vols.set v.toNat { x with State:=2,Files:=x.Files+1}:=oF _ _ _ _ _
    unfold jI
    split<;>exact this
  have hl:=(List.getElem?_eq_some_iff.1 hx).1
  have ak:Fk v (dQ x.Pool (h9 0 l) ∘ fk):=hfk.comp UI
  refine⟨SE,GE,BE,by rw[o1]; exact m1.trans hq,⟨_,hgk.comp ak,by rw[ek,egk,map_map]⟩,⟨_,hgs.comp hfs,by rw[es,egs,map_map]⟩,⟨_,hgx.comp hfx,by rw[ex,egx,map_map]⟩,by rw[ev,List.length_set]; exact X.wl,λj=> ?_,λj hj=> ?_,⟨{ x with State:=2,Files:=x.Files+1},by rw[ev,List.getElem?_set_self hl],by show (2:Int)≠3; decide⟩, ?_, ?_, ?_⟩
  . rw[ev,<- X.wp j]
    by_cases hj:j=v.toNat
    . subst hj
      rw[List.getElem?_set_self hl,hx]; rfl
    . rw[List.getElem?_set_ne λh=>hj h.symm]
  . rw[ev,List.getElem?_set_ne λh=>hj h.symm]
    exact X.wo j hj
  . intro i hi k y hy e1
    rw[ek] at hy
    obtain⟨z,hz,rfl⟩:=mem_map.1 hy
    rw[ak.i z] at e1
    rcases mem_append.1 hi with h | h
    . exact(X.gk i h k z hz e1).mo (ak.l z)
    . obtain⟨j,hj,a,b, -⟩:=uP (i:=0) i h
      have:=JD (v:=v) (f:=x.Files+1) (c:=ws e v x) (h9 0 l) j hj (by omega) (fk z) (by rw[efk]; exact mem_map_of_mem hz) (by rw[hfk.i z,e1,b])
      exact P5.mo ⟨_,this,rfl⟩ ((UI (v:=v) (p:=x.Pool) (l:=h9 0 l)).l (fk z))
  . intro i hi k y hy e1
    rw[es] at hy
    obtain⟨z,hz,rfl⟩:=mem_map.1 hy
    rw[(hfs.i z).1] at e1
    rcases mem_append.1 hi with h | h
    . exact(X.gs i h k z hz e1).mo (hfs.l z)
    . obtain⟨j,hj,a,b,s, -⟩:=uP (i:=0) i h
      exact P7 (v:=v) (f:=x.Files+1) (c:=ws e v x) (h9 0 l) j hj (by omega) (fs z) (by rw[efs]; exact mem_map_of_mem hz) (by rw[(hfs.i z).1,e1,s])
  . intro i hi k y hy e1
    rw[ex] at hy
    obtain⟨z,hz,rfl⟩:=mem_map.1 hy
    rw[(hfx.i z).1] at e1
    rcases mem_append.1 hi with h | h
    . exact(X.ge i h k z hz e1).mo (hfx.l z)
    . obtain⟨j,hj,a,b,s, -⟩:=uP (i:=0) i h
      exact P8 (v:=v) (f:=x.Files+1) (c:=ws e v x) X.gd.eo (h9 0 l) (λi hi k=>by obtain⟨⟨z,hz,h1, -⟩, -⟩:=e3 i hi k; exact⟨z,hz,h1⟩) (λi hi k=>(e3 i hi k).2.2.2) j hj (by omega) (fx z) (by rw[efx]; exact mem_map_of_mem hz) (by rw[(hfx.i z).1,e1,s])
theorem Xt.step {F:Nat} {v:Int} {n:Nat} {c e:aA} {S l:List aE} (hF:1000<=F) (G:Gd c) (X:Xt v n c e S) (hn:n<=190) (hv:0<=v) (gv:gI v) (R:Row c l):
    ∃e',QH F e (oH v l)=some (e',0)/\Xt v (n+1) c e' (S++l):=by
  obtain⟨e',h1,h2, -⟩:=wO.step hF G X hn hn (by omega) hv gv R
  exact⟨e',h1,h2⟩
theorem JN {c:aA} (G:Gd c) (g:List aS->Bool->Bool):(oA c g).Pairwise Un:=by
 unfold oA
 refine List.pairwise_append.2 ⟨List.pairwise_append.2 ⟨pairwise_map.2 ((G.co.filter _).imp fun {a b} h=> ?_),pairwise_map.2 ((G.so.filter _).imp fun {a b} h=> ?_),λx hx y hy=> ?_⟩,pairwise_map.2 ((G.eo.filter _).imp fun {a b} h=> ?_),λx hx y hy=> ?_⟩
 ·rintro⟨-,k, -⟩
  have k:a.Id=b.Id:=k rfl
  rw[k] at h; omega
 ·rintro⟨-, -,k⟩
  have k:a.Seq=b.Seq:=k (by decide:(2:Int)≠1)
  omega
 ·obtain⟨a, -,rfl⟩:=mem_map.1 hx
  obtain⟨b, -,rfl⟩:=mem_map.1 hy
  rintro⟨k, -⟩
  exact absurd k (by decide:¬(1:Int)=2)
 ·rintro⟨-, -,k⟩
  have k:a.Seq=b.Seq:=k (by decide:(3:Int)≠1)
  omega
 ·obtain⟨b, -,rfl⟩:=mem_map.1 hy
  rcases mem_append.1 hx with hx | hx
  ·obtain⟨a, -,rfl⟩:=mem_map.1 hx
   rintro⟨k, -⟩
   exact absurd k (by decide:¬(1:Int)=3)
  ·obtain⟨a, -,rfl⟩:=mem_map.1 hx
   rintro⟨k, -⟩
   exact absurd k (by decide:¬(2:Int)=3)
theorem FW {c:aA} {g:List aS->Bool->Bool} {i:aE} (h:i∈oA c g):(∃x∈c.Chunks,i=LK x)\/(∃x∈c.Snaps,i=QG x)\/∃x∈c.Exps,i=RT x:=by
 unfold oA at h
 rcases mem_append.1 h with h | h
 ·rcases mem_append.1 h with h | h
  ·obtain⟨a,ha,rfl⟩:=mem_map.1 h
   exact .inl ⟨a,(mem_filter.1 ha).1,rfl⟩
  ·obtain⟨a,ha,rfl⟩:=mem_map.1 h
   exact .inr (.inl ⟨a,(mem_filter.1 ha).1,rfl⟩)
 ·obtain⟨a,ha,rfl⟩:=mem_map.1 h
  exact .inr (.inr ⟨a,(mem_filter.1 ha).1,rfl⟩)
theorem XU {c:aA} {g:List aS->Bool->Bool} {l:List aE} (h:Sm c) (G:Gd c) (hs:l.Sublist (oA c g)) (h0:0 < l.length) (h1:l.length<=64):Row c l:=by
 have hq:=G.q
 simp only[fB,and_eq_true,decide_eq_true_eq] at hq
 refine⟨⟨h0,h1⟩,λi hi=> ?_,λi hi=> ?_,(JN G g).sublist hs⟩
 ·rcases FW (hs.subset hi) with⟨x,hx,rfl⟩ | ⟨x,hx,rfl⟩ | ⟨x,hx,rfl⟩
  ·exact⟨(h.g.2.2.1 x hx).1,(show (0:Int)<=0/\(0:Int)<=1073741824 by decide),(show gI 0 from⟨by decide,by decide⟩),(show (1:Int)<=1/\(1:Int)<=3 by decide)⟩
  ·have:=G.sq x hx
   simp only[fB,and_eq_true,decide_eq_true_eq] at this
   exact⟨FF,(show 0<=x.Seq/\x.Seq<=1073741824 by omega),(show gI 0 from⟨by decide,by decide⟩),(show (1:Int)<=2/\(2:Int)<=3 by decide)⟩
  ·have:=G.eq x hx
   simp only[fB,and_eq_true,decide_eq_true_eq] at this
   exact⟨FF,(show 0<=x.Seq/\x.Seq<=1073741824 by omega),(h.g.2.2.2.1 x hx).2.1,(show (1:Int)<=3/\(3:Int)<=3 by decide)⟩
 ·rcases FW (hs.subset hi) with⟨x,hx,rfl⟩ | ⟨x,hx,rfl⟩ | ⟨x,hx,rfl⟩
  ·exact⟨λ_=>any_eq_true.2 ⟨x,hx,decide_eq_true rfl⟩,λk=>absurd k (by show ¬(1:Int)=2; decide),λk=>absurd k (by show ¬(1:Int)=3; decide)⟩
  ·exact⟨λk=>absurd k (by show ¬(2:Int)=1; decide),λ_=>any_eq_true.2 ⟨x,hx,beq_iff_eq.2 rfl⟩,λk=>absurd k (by show ¬(2:Int)=3; decide)⟩
  ·exact⟨λk=>absurd k (by show ¬(3:Int)=1; decide),λk=>absurd k (by show ¬(3:Int)=2; decide),λ_=>⟨x,hx,rfl,rfl⟩⟩
section
variable {v:Int} {na nb n:Nat} {c e:aA} {S:List aE}
theorem wO.inP (X:wO v na nb n c e S) (p:Int) (x:aS):Go.Proofs.YtbbifdfldpfphaaGreat.inP e p x=Go.Proofs.YtbbifdfldpfphaaGreat.inP c p x:=by
 unfold Go.Proofs.YtbbifdfldpfphaaGreat.inP
 rw[X.wl]
 have:=X.wp x.Vol.toNat
 congr 1
 revert this
 cases e.Vols[x.Vol.toNat]?<;>cases c.Vols[x.Vol.toNat]?<;>simp
 intro h; rw[h]
theorem wO.used (X:wO v na nb n c e S) (d:bH):iO e d=iO c d:=by
 obtain⟨g,hg,eg⟩:=X.s
 unfold iO
 rw[eg,any_map]
 refine congrArg (λf=>c.Snaps.any f) (funext λs=> ?_)
 simp only[Function.comp,(hg.i s).2]
theorem wO.any1 (X:wO v na nb n c e S) {b:List aS} {p:Int} (hv:0<=v) (hq:(c.Vols[v.toNat]?).map (·.Pool)=some p) (h:P5 v b):b.any (Go.Proofs.YtbbifdfldpfphaaGreat.inP e p)=true:=by
 obtain⟨x,hx,rfl⟩:=h
 refine any_eq_true.2 ⟨x,hx, ?_⟩
 rw[X.inP]
 unfold Go.Proofs.YtbbifdfldpfphaaGreat.inP fB
 cases h:c.Vols[x.Vol.toNat]? with
 | none=>rw[h] at hq; cases hq
 | some w=>
  rw[h] at hq
  have hl:=(List.getElem?_eq_some_iff.1 h).1
  have:w.Pool=p:=by simpa using hq
  simp[this]; omega
theorem wO.anyM (X:wO v na nb n c e S) {a b:List aS} {p:Int} (m:Mo v a b) (h:a.any (Go.Proofs.YtbbifdfldpfphaaGreat.inP c p)=true):b.any (Go.Proofs.YtbbifdfldpfphaaGreat.inP e p)=true:=by
 obtain⟨x,hx,h⟩:=any_eq_true.1 h
 exact any_eq_true.2 ⟨x,m.1 x hx,by rw[X.inP]; exact h⟩
theorem P9 {g:List aS->Bool->Bool} (h1:∀x∈e.Chunks,g x.Locs (iO e x.Id)=false) (h2:∀x∈e.Snaps,g x.Locs true=false) (h3:∀x∈e.Exps,g x.Locs true=false):oA e g= []:=by
 unfold oA
 rw[List.filter_eq_nil_iff.2 λx hx=>by rw[h1 x hx]; decide,List.filter_eq_nil_iff.2 λx hx=>by rw[h2 x hx]; decide,List.filter_eq_nil_iff.2 λx hx=>by rw[h3 x hx]; decide]
 rfl
theorem wO.same (X:wO v na nb n c e S) {g g':List aS->Bool->Bool} (hg:∀a b u,Mo v a b->g' b u=g a u):oA e g'=oA c g:=by
 obtain⟨gk,hgk,egk⟩:=X.k
 obtain⟨gs,hgs,egs⟩:=X.s
 obtain⟨gx,hgx,egx⟩:=X.x
 unfold oA
 rw[egk,egs,egx,filter_map,filter_map,filter_map,map_map,map_map,map_map]
 congr 1
 ·congr 1
  ·rw[show (LK ∘ gk)=LK from funext λy=>by simp[LK,hgk.i]]
   refine congrArg (map LK) (filter_congr λy _=> ?_)
   simp only[Function.comp]
   rw[hgk.i,X.used]
   exact hg _ _ _ (hgk.l y)
  ·rw[show (QG ∘ gs)=QG from funext λy=>by simp[QG,(hgs.i y).1]]
   exact congrArg (map QG) (filter_congr λy _=>hg _ _ _ (hgs.l y))
 ·rw[show (RT ∘ gx)=RT from funext λy=>by simp[RT,(hgx.i y).1,(hgx.i y).2]]
  exact congrArg (map RT) (filter_congr λy _=>hg _ _ _ (hgx.l y))
theorem wO.none (X:wO v na nb n c e S) {g g':List aS->Bool->Bool} (hS:∀i∈oA c g,i∈S) (h1:∀a b u,Mo v a b->g a u=false->g' b u=false) (h2:∀b u,P5 v b->g' b u=false):oA e g'= []:=by
 obtain⟨gk,hgk,egk⟩:=X.k
 obtain⟨gs,hgs,egs⟩:=X.s
 obtain⟨gx,hgx,egx⟩:=X.x
 refine P9 (λx hx=> ?_) (λx hx=> ?_) λx hx=> ?_
 ·have hx':=hx
  rw[egk] at hx
  obtain⟨y,hy,rfl⟩:=mem_map.1 hx
  rw[hgk.i,X.used]
  cases h:g y.Locs (iO c y.Id) with
  | false=>exact h1 _ _ _ (hgk.l y) h
  | true=>
   refine h2 _ _ (X.gk (LK y) (hS _ ?_) rfl _ hx' (hgk.i y))
   unfold oA
   exact mem_append_left _ (mem_append_left _ (mem_map_of_mem (mem_filter.2 ⟨hy,h⟩)))
 ·have hx':=hx
  rw[egs] at hx
  obtain⟨y,hy,rfl⟩:=mem_map.1 hx
  cases h:g y.Locs true with
  | false=>exact h1 _ _ _ (hgs.l y) h
  | true=>
   refine h2 _ _ (X.gs (QG y) (hS _ ?_) rfl _ hx' (hgs.i y).1)
   unfold oA
   exact mem_append_left _ (mem_append_right _ (mem_map_of_mem (mem_filter.2 ⟨hy,h⟩)))
 ·have hx':=hx
  rw[egx] at hx
  obtain⟨y,hy,rfl⟩:=mem_map.1 hx
  cases h:g y.Locs true with
  | false=>exact h1 _ _ _ (hgx.l y) h
  | true=>
   refine h2 _ _ (X.ge (RT y) (hS _ ?_) rfl _ hx' (hgx.i y).1)
   unfold oA
   exact mem_append_right _ (mem_map_of_mem (mem_filter.2 ⟨hy,h⟩))
end
theorem LB {c:aA} {g:List aS->Bool->Bool} (G:Gd c):(oA c g).length<=408:=by
 have h1:=G.cn
 have h2:=G.sn
 have h3:=G.en
 have a1:=List.length_filter_le (λx:aB=>g x.Locs (iO c x.Id)) c.Chunks
 have a2:=List.length_filter_le (λx:aH=>g x.Locs true) c.Snaps
 have a3:=List.length_filter_le (λx:aT=>g x.Locs true) c.Exps
 unfold oA
 simp only[List.length_append,List.length_map]
 omega
theorem XV (c:aA) (l:List aS):TB c 0 l= !l.any (inP c 0):=by unfold TB; simp
def FX (m:Nat) (p1:List iV) (q0:List iV) (q1:Int):Option (Lp ((List iV)×Int) (Bool)):=
 if decide (q1 < (p1.length:Int)) then ((ix p1 q1).bind λx0=>after (if decide (((wrap .u64 x0.Do).tmod 8)<=2) then ((ix p1 q1).bind λx1=>(app q0 ([x1]:List iV)).bind λz0=>Bk z0) else Bk q0:Option (Lp ((List iV)) (Lp ((List iV)×Int) (Bool)))) λj0=>Gk (j0,wrap .i64 (q1+1))) else Bk (q0,q1)
def BM (m:Nat) (p4:Int) (y0:(List (List aE))) (q0:aA) (q1:Int):Option (Lp (aA×Int) (Bool)):=
 after (if decide (q1 < (y0.length:Int)) then (Bk (decide (q1 < (wrap .i64 ((wrap .u64 p4).tmod (wrap .u64 (wrap .i64 ((y0.length:Int)+1)))))))) else Bk false:Option (Lp (Bool) (Lp (aA×Int) (Bool)))) λj0=>if j0 then ((ix y0 q1).bind λx0=>(YT m x0).bind λy1=>(QH m q0 ({ Kind:=3,Snap:=({ Seq:=0,Man:=({ Name:=empty,Parts:=[]}:bE),Locs:=[]}:aH),Chunks:=[],Seq:=0,Vol:=0,Items:=y1}:aV)).bind λy2=>if (y2.2 !=0)then Rk false else Gk (y2.1,wrap .i64 (q1+1))) else Bk (q0,q1)
def zQ (m:Nat) (r0:aA) (q0:Int) (q1:Int) (q2:Int):Option (Lp (Int) (Lp (Int) (Lp (Unit) (Lp (Int) (Bool))))):=
 (ix r0.Snaps q0).bind λx0=>(ix x0.Man.Parts q1).bind λx1=>if decide (q2 < (x1.Ids.length:Int)) then ((ix r0.Snaps q0).bind λx2=>(ix x2.Man.Parts q1).bind λx3=>(ix x3.Ids q2).bind λx4=>(YJ m r0 x4).bind λy0=>after (if decide (y0 < 0) then Bk true else if decide ((r0.Chunks.length:Int)<=y0) then Bk true else (ix r0.Chunks y0).bind λx5=>Bk ((x5.Locs.length:Int)==0):Option (Lp (Bool) (Lp (Int) (Lp (Int) (Lp (Unit) (Lp (Int) (Bool))))))) λj0=>if j0 then (Rk (.ret (.ret (.ret false)))) else Gk (wrap .i64 (q2+1))) else Bk q2
def zR (m:Nat) (r0:aA) (q0:Int) (q1:Int):Option (Lp (Int) (Lp (Unit) (Lp (Int) (Bool)))):=
 (ix r0.Snaps q0).bind λx0=>if decide (q1 < (x0.Man.Parts.length:Int)) then (after (aR (λs=>zQ m r0 q0 q1 s) m 0) λr1=>Gk (wrap .i64 (q1+1))) else Bk q1
def wD (m:Nat) (r0:aA) (q0:Int):Option (Lp (Int) (Bool)):=
 if decide (q0 < (r0.Snaps.length:Int)) then (after ((ix r0.Snaps q0).bind λx0=>if ((x0.Locs.length:Int)==0)then (Bk ()) else after (aR (λs=>zR m r0 q0 s) m 0) λr1=>Bk ():Option (Lp (Unit) (Lp (Int) (Bool)))) λ_=>Gk (wrap .i64 (q0+1))) else Bk q0
def M5 (m:Nat) (p0:List Int) (p1:List iV) (p2:Int) (p3:Int) (p4:Int):Option (Bool):=
 after (if decide (30 < (p0.length:Int)) then Bk true else (WY m p1).bind λy9=>Bk y9:Option (Lp (Bool) (Bool))) λj7=>if j7 then (some true) else after (aR (λs=>FX m p1 s.1 s.2) m ([],0)) λ⟨r0,r1⟩=>(YN m p0).bind λy0=>(app ([0]:List Int) y0).bind λz0=>after (if decide (8 < (z0.length:Int)) then ((slc z0 0 8).bind λx0=>Bk x0) else Bk z0:Option (Lp ((List Int)) (Bool))) λj0=>(YO m j0 r0).bind λy1=>(XR m y1 0).bind λy2=>(YS m y2 (wrap .i64 (1+(wrap .i64 ((wrap .u64 p3).tmod 10))))).bind λy3=>grd ((wrap .u64 (wrap .i64 ((y3.length:Int)+1))) !=0) <| after (aR (λs=>BM m p4 y3 s.1 s.2) m (y1,0)) λ⟨r2,r3⟩=>after (aR (λs=>wD m r2 s) m 0) λr4=>after (if (decide ((wrap .i64 ((wrap .u64 p4).tmod (wrap .u64 (wrap .i64 ((y3.length:Int)+1))))) < (y3.length:Int)))then ((XP m).bind λy4=>Bk y4) else (XR m r2 0).bind λy5=>if ((y5.length:Int)==0)then ((XP m).bind λy6=>Bk y6) else Bk false:Option (Lp (Bool) (Bool))) λj1=>some j1
theorem W5 {w:Nat} {p0:List Int} {p1:List iV} {p2:Int} {p3:Int} {p4:Int} {o:Bool} (h:aF) (m:M5 w p0 p1 p2 p3 p4=some o):
 aM prog 5 [.sl none 1 (map eO p0),.sl none 5 (map eF p1),nZ p2,nZ p3,nZ p4] h (λr h'=>r= .sc (.bool o)/\h'=h):=by
 refine fQ 197 [.tmp 10] Tryz.func5 rfl rfl rfl rfl ?_
 unfold M5 at m
 refine v (vs (vs (fO m (σ:=Bool) (λs=>[]) (λs=>.c 0 (.sl none 1 (map eO p0)) (.c 1 (.sl none 5 (map eF p1)) (.c 3 (nZ p3) (.c 4 (nZ p4) (.c 30 (.sc (.bool s)) .nil))))) (λx m=> ?_) ?_)))
 refine v (cU J4 rfl ?_)
 apply vi m<;>intro b8 m
 rw[b8]
 exact kN m
 rw[b8]
 exact vk W14 aC6 m rfl rfl λ_ m=>kN m
 rintro _ j7 m
 refine v ?_
 apply vi m<;>intro c0 m
 refine v (v ?_)
 obtain rfl:=eR m
 exact eH rfl
 refine v (v (v (pM (z6 (.tok 67 5 (([]:List iV).length*5)) 11 (ow none 5 (map eF [])) (gD _ _)) (nU m (σ:=(List iV)×Int) (τ:=Option bT) (λg s=>[(g,.tok 67 5 ((s.1:List iV).length*5))]) (λg s=>(g=none->s.1= [])) (λg s=>.c 0 (.sl none 1 (map eO p0)) (.c 1 (.sl none 5 (map eF p1)) (.c 3 (nZ p3) (.c 4 (nZ p4) (.c 11 (ow g 5 (map eF s.1)) (.c 12 (nZ s.2) .nil)))))) none (λ_=>rfl) (lx (.k6 .nil)) ?_ ?_))))
 rintro tg0 ⟨q0,q1⟩ x t0 m
 replace m:FX w p1 q0 q1=some x:=m
 unfold FX at m
 refine v (cU RC rfl (v ?_))
 apply vi m<;>intro c1 m
 refine v (v (v (vx m EF rfl rfl λ_ _ m=>v (oI m (σ:=(List iV)) (τ:=Option bT) (λg s=>[(g,.tok 67 5 ((s:List iV).length*5))]) (λg s=>(g=none->s= [])) (λg s=>.c 0 (.sl none 1 (map eO p0)) (.c 1 (.sl none 5 (map eF p1)) (.c 3 (nZ p3) (.c 4 (nZ p4) (.c 11 (ow g 5 (map eF s)) (.c 12 (nZ q1) .nil)))))) (λx m=> ?_) ?_))))
 refine v ?_
 apply vi m<;>intro c2 m
 refine v (vx m EF rfl rfl λx0 _ m=>va (.agg (eF x0)) aAC rfl rfl (bU (dX (map eF ([x0]:List iV)) ZZ rfl rfl rfl rfl) ?_))
 obtain⟨z0,Z0,m⟩:=aD m
 exact ve λu=>fC (c:=eF) 0 Z0 ZZ rfl rfl rfl t0 u rfl λtg1 t1 K0=>qk K0 rfl (eG m tg1 t1 (lx (.k6 .nil)))
 exact v (eG m tg0 t0 (lx (.k6 .nil)))
 rintro tg2 j0 t2 m
 exact v (eG m tg2 t2 (lx (.k6 .nil)))
 exact v (lR m tg0 t0 (lx (.k6 .nil)))
 rintro tg3 ⟨r0,r1⟩ t3 m
 refine v (ve λu=>L7 (c:=eO) ([0]:List Int) u ML rfl rfl rfl rfl λtg4 t4 K1=>qk K1 rfl (vk W16 aC7 m rfl rfl λ_ m=> ?_))
 obtain⟨z1,Z1,m⟩:=aD m
 refine ve λu=>fC (c:=eO) 0 Z1 ML rfl rfl rfl t4 u rfl λtg5 t5 K2=>qk K2 rfl (vs (vs (pM (g:=.c 0 (.sl none 1 (map eO z1)) _) (λu=>⟨(aU (.cons _ (.refl _)) u).2,(gA.fz (t:=0) (v:=.sl none 1 (map eO z1)) (aU (.cons _ (.refl _)) u).1 (Fz.ale (aU (.cons _ (.refl _)) u).1 (nY _ 0 t5 u rfl (.refl _))))⟩) (v (cU J4 rfl (fO m (σ:=(List Int)) (λs=>[(tg3,.tok 67 5 ((r0:List iV).length*5))]) (λs=>.c 0 (.sl none 1 (map eO s)) (.c 3 (nZ p3) (.c 4 (nZ p4) (.c 11 (ow tg3 5 (map eF r0)) .nil)))) (λx m=> ?_) ?_))))))
 refine v ?_
 apply vi m<;>intro c3 m
 refine v ?_
 obtain⟨_,X0,m⟩:=aD m
 exact bU (n3 X0 U8 rfl rfl rfl rfl) (fZ m)
 exact v (fZ m)
 rintro _ j1 m
 refine v ?_
 obtain⟨y0,Y0,m⟩:=aD m
 refine ve λu=>CD (t:=63) (.sl none 5 (map eF r0)) (aU (List.eraseIdx_sublist _ 0) u).1 (nY _ 0 t3 u rfl (.refl _)) (dO (W15 _ Y0) rfl aC8 rfl ?_)
 rintro x h' ⟨rfl,rfl⟩
 refine qk ((aU (List.eraseIdx_sublist _ 0) u).2) rfl (ve λu=>bG (jF) u sP rfl rfl λk177 K3=>qk K3 rfl (ve λu=>aL 0 (aC y0) u rfl rfl rfl rfl nB rfl rfl λK4=>qk K4 rfl (v (vl 0 (.agg (aC y0)) dC rfl rfl rfl (vk W17 XS m rfl rfl λ_ m=>vk W28 aDP m rfl rfl λy1 m=>v (cU RE rfl (YD m λ_ m=>v (jS m (σ:=aA×Int) (λs=>[(some k177,.obj 30 (aC s.1))]) (λs=>.c 14 (.ptr k177 0) (.c 15 (.sl none 1 (map fG y1)) (.c 16 (nZ (wrap .i64 ((wrap .u64 p4).tmod (wrap .u64 (wrap .i64 ((y1.length:Int)+1)))))) (.c 17 (nZ s.2) .nil)))) (lx (.k4 .nil)) ?_ ?_))))))))
 rintro _ ⟨q2,q3⟩ x m
 replace m:BM w p4 y1 q2 q3=some x:=m
 unfold BM at m
 refine vs (vs (fO m (σ:=Bool) (λs=>[(some k177,.obj 30 (aC q2))]) (λs=>.c 14 (.ptr k177 0) (.c 15 (.sl none 1 (map fG y1)) (.c 16 (nZ (wrap .i64 ((wrap .u64 p4).tmod (wrap .u64 (wrap .i64 ((y1.length:Int)+1)))))) (.c 17 (nZ q3) (.c 89 (.sc (.bool s)) .nil))))) (λx m=> ?_) ?_))
 refine v (cU RE rfl ?_)
 apply vi m<;>intro b0 m
 rw[b0]
 exact kN m
 rw[b0]
 exact kN m
 rintro _ j2 m
 refine v ?_
 apply vi m<;>intro c4 m
 refine v (v (v (vz [(1000000,some k177,.obj 30 (aC q2))] mixed (λu=>⟨λ_=>aO 0 u rfl,trivial⟩) λu=>zL 0 0 (.agg (aC q2)) rfl dC rfl rfl rfl (zC 1 rfl (fJ (.sl _ _ _) rfl) (zI 2 rfl rfl ?_)))))
 obtain⟨x1,X1,m⟩:=aD m
 refine zC 3 rfl (lV X1 RF rfl rfl) (zC 4 rfl (l8 (.sl none 37 (map aI x1)) mD rfl rfl) ?_)
 obtain⟨y2,Y1,m⟩:=aD m
 refine zC 5 rfl (bV (W30 _ Y1) rfl aJA rfl) (zC 6 rfl (eJ ([nZ 3,nZ 0,.sc (.string empty),sZ,sZ,sZ,nZ 0,nZ 0,.sl none 37 (map aI y2)]) CH rfl) ?_)
 obtain⟨y3,Y2,m⟩:=aD m
 refine zC 7 rfl (bV (JZ (.cons (bD.refl _ _) (.cons (bD.agg (.k3 (.cons (a9 _) (.cons (a9 _) (.cons (a9 _) (.k3 .nil)))))) .nil)) (W29 _ Y2)) rfl aH3 rfl) (zC 8 rfl (fJ (.tup _) rfl) (zC 9 rfl (QW (.agg _) rfl rfl) (zC 10 rfl (QW (.sc (.int _ _)) rfl rfl) (zE 11 rfl (bG (jF) u sP rfl rfl λk287 K5=>⟨⟨λ_=>aO 1 K5 rfl,trivial⟩, ?_⟩)))))
 refine zE 12 rfl (aL 0 (aC y3.1) K5 rfl rfl rfl rfl nB rfl rfl λK6=>⟨⟨λ_=>aO 1 K6 rfl,trivial⟩, ?_⟩)
 refine zC 13 rfl (iC (.sc (.int _ _)) rfl) (zX (qk (f:=.c 19 _ (.c 18 _ (.c 102 _ (.c 101 _ (.c 92 _ (Q8 100 _ _ _ _ _ _ _ _ _)))))) K6 rfl (v (v ?_))))
 apply vi m<;>intro c5 m
 refine v (v (fY m λm=> ?_))
 obtain rfl:=eR m
 exact eH rfl
 exact v (v (vl 0 (.agg (aC y3.1)) dC rfl rfl rfl (ve λu=>aL 1 (aC y3.1) u rfl rfl rfl rfl nB rfl rfl λK7=>qk K7 rfl (v (zU m (mK [1] rfl rfl (.k4 .nil)))))))
 exact v (vB m)
 rintro _ ⟨r2,r3⟩ m
 refine v (jS m (σ:=Int) (λs=>[(some k177,.obj 30 (aC r2))]) (λs=>.c 14 (.ptr k177 0) (.c 15 (.sl none 1 (map fG y1)) (.c 16 (nZ (wrap .i64 ((wrap .u64 p4).tmod (wrap .u64 (wrap .i64 ((y1.length:Int)+1)))))) (.c 20 (nZ s) .nil)))) (lx (.k4 .nil)) ?_ ?_)
 rintro _ q4 x m
 replace m:wD w r2 q4=some x:=m
 unfold wD at m
 refine v (vl 0 _ fD rfl rfl rfl (cU lA rfl (v ?_)))
 apply vi m<;>intro c6 m
 refine v (vs (fO m (σ:=Unit) (λs=>[(some k177,.obj 30 (aC r2))]) (λs=>.c 14 (.ptr k177 0) (.c 15 (.sl none 1 (map fG y1)) (.c 16 (nZ (wrap .i64 ((wrap .u64 p4).tmod (wrap .u64 (wrap .i64 ((y1.length:Int)+1)))))) (.c 20 (nZ q4) .nil)))) (λx m=> ?_) ?_))
 refine v (v (vl 0 _ fD rfl rfl rfl (vx m iW rfl rfl λ_ _ m=>cU kB rfl (v ?_))))
 apply vi m<;>intro c7 m
 exact v (fZ m)
 refine v (v (jS m (σ:=Int) (λs=>[(some k177,.obj 30 (aC r2))]) (λs=>.c 14 (.ptr k177 0) (.c 15 (.sl none 1 (map fG y1)) (.c 16 (nZ (wrap .i64 ((wrap .u64 p4).tmod (wrap .u64 (wrap .i64 ((y1.length:Int)+1)))))) (.c 20 (nZ q4) (.c 21 (nZ s) .nil))))) (lx (.k5 .nil)) ?_ ?_))
 rintro _ q5 x m
 replace m:zR w r2 q4 q5=some x:=m
 unfold zR at m
 refine v (vl 0 _ fD rfl rfl rfl (vx m iW rfl rfl λ_ _ m=>cU xX rfl (v ?_)))
 apply vi m<;>intro c8 m
 refine v (v (v (jS m (σ:=Int) (λs=>[(some k177,.obj 30 (aC r2))]) (λs=>.c 14 (.ptr k177 0) (.c 15 (.sl none 1 (map fG y1)) (.c 16 (nZ (wrap .i64 ((wrap .u64 p4).tmod (wrap .u64 (wrap .i64 ((y1.length:Int)+1)))))) (.c 20 (nZ q4) (.c 21 (nZ q5) (.c 22 (nZ s) .nil)))))) (lx (.k6 .nil)) ?_ ?_)))
 rintro _ q6 x m
 replace m:zQ w r2 q4 q5 q6=some x:=m
 unfold zQ at m
 refine v (vl 0 _ fD rfl rfl rfl (vx m iW rfl rfl λ_ _ m=>vx m qQ rfl rfl λ_ _ m=>cU sU rfl (v ?_)))
 apply vi m<;>intro c9 m
 refine v (v (v (vq (by kernel_rfl) (vl 0 (.agg (aC r2)) dC rfl rfl rfl (vl 0 _ fD rfl rfl rfl (vx m iW rfl rfl λ_ _ m=>vx m qQ rfl rfl λ_ _ m=>vx m yB rfl rfl λx2 _ m=>va (.agg (bC x2)) fA rfl rfl (vk W20 aBD m rfl rfl λ_ m=>vs (fO m (σ:=Bool) (λs=>[(some k177,.obj 30 (aC r2))]) (λs=>.c 14 (.ptr k177 0) (.c 15 (.sl none 1 (map fG y1)) (.c 16 (nZ (wrap .i64 ((wrap .u64 p4).tmod (wrap .u64 (wrap .i64 ((y1.length:Int)+1)))))) (.c 20 (nZ q4) (.c 21 (nZ q5) (.c 22 (nZ q6) (.c 183 (.sc (.bool s)) .nil))))))) (λx m=> ?_) ?_))))))))
 refine v ?_
 apply vi m<;>intro b1 m
 rw[b1]
 exact zV m
 rw[b1]
 refine vl 0 _ fE rfl rfl rfl (cU lH rfl ?_)
 apply vi m<;>intro b2 m
 rw[b2]
 exact zV m
 rw[b2]
 exact vl 0 _ fE rfl rfl rfl (vx m hX rfl rfl λ_ _ m=>cU kB rfl (zV m))
 rintro _ j3 m
 refine v ?_
 apply vi m<;>intro c10 m
 refine v (v (fY m λm=>fY m λm=>fY m λm=>fY m λm=> ?_))
 obtain rfl:=eR m
 exact eH rfl
 exact v (v (mX m))
 exact v (bq6 m)
 rintro _ r4 m
 exact v (kN m)
 exact v (YE m)
 rintro _ r5 m
 exact fZ m
 rintro _ _ m
 exact v (fZ m)
 exact v (vB m)
 rintro _ r6 m
 refine vs (fO m (σ:=Bool) (λs=>[(some k177,.obj 30 (aC r2))]) (λs=>.c 10 (.sc (.bool s)) .nil) (λx m=> ?_) ?_)
 refine v (cU RE rfl ?_)
 apply vi m<;>intro b3 m
 rw[b3]
 exact vk W27 XQ m rfl rfl λ_ m=>n5 m
 rw[b3]
 refine vl 0 (.agg (aC r2)) dC rfl rfl rfl (vk W17 XS m rfl rfl λ_ m=>cU mC rfl ?_)
 apply vi m<;>intro b4 m
 rw[b4]
 exact vk W27 XQ m rfl rfl λ_ m=>n5 m
 rw[b4]
 exact n5 m
 rintro _ j4 m
 refine v ?_
 obtain rfl:=eR m
 exact eH rfl
structure Vg (q:List Int) (c:aA):Prop where
 k:∀x∈c.Chunks,x.Locs= []
 s:∀x∈c.Snaps,x.Locs= []
 e:c.Exps= []
 v:c.Vols=(mF q).Vols
theorem XW (q:List Int):Vg q (mF q):=⟨λx hx=>(by cases hx),λx hx=>(by cases hx),rfl,rfl⟩
theorem XX {q:List Int} {c e:aA} {d:aV} (h:Vg q c) (hk:d.Kind<=2) (he:YP c d e):Vg q e:=by
 cases he with
 | add k q nn w=>
  subst w
  refine⟨lL (P:=λx=>x.Locs= []) h.k (λ_ _=>rfl) λx hx _ _=>hx,λs hs=> ?_,h.e,h.v⟩
  rcases mem_append.1 hs with h1 | h1
  ·exact h.s s h1
  ·rw[mem_singleton.1 h1]
 | drop k q w=>
  subst w
  refine⟨λy hy=> ?_,λs hs=>h.s s (mem_filter.1 hs).1,h.e,h.v⟩
  obtain⟨z,hz,rfl⟩:=mem_map.1 hy
  rw[(jQ _ z).1]
  exact h.k z (mem_filter.1 hz).1
 | ret k x hx q w=>omega
 | rel k x hx q w=>omega
 | wrote k x hx q p w=>omega
def UL (F:Nat) (a:iV):Prop:=(∀f∈a.Tree,fIn F f)/\(wrap .u64 a.Do).tmod 8<=2
theorem aJC {F:Nat} {q:List Int} {l:List iV} (hF:1000<=F) (h1:fB q.length 1 8=true) (h2:q.all v9=true) (h3:gL gI q) (ho:∀a∈l,UL F a):T (YO F q l) λc=>Sm c/\gJ c=true/\Bd 30 c/\Vg q c:=by
 have h8:q.length<=8:=by unfold fB at h1; simp at h1; omega
 unfold YO
 refine .bindEq (m32 hF (by omega)) ?_
 refine .loop (λs=>0<=s.2/\s.2<=30/\Sm s.1/\gJ s.1=true/\Bd s.2.toNat s.1/\Vg q s.1) (λs=>(30 - s.2).toNat) (λs=>Sm s.1/\gJ s.1=true/\Bd 30 s.1/\Vg q s.1) (by simp; omega) ⟨by simp,by simp,RW h8 h3,KG h1 h2,XK q,XW q⟩ (λs hs=> ?_) (λs hs=>.some hs)
 obtain⟨c,i⟩:=s
 simp only at hs
 obtain⟨s1,s2,s3,s4,s5,s6⟩:=hs
 have G:=kV.1 s4
 have fin:Bd 30 c:=s5.mono (by omega)
 unfold DF
 refine .after (.ite (λhc=>.brk (T.ite (λhc2=> ?_) λhc2=>.brk ⟨s3,s4,fin,s6⟩)) λhc=>.brk (T.ite (λh=>by cases h) λ_=>.brk ⟨s3,s4,fin,s6⟩))
 have hc:=of_decide_eq_true hc
 have hc2:=of_decide_eq_true hc2
 simp only at hc hc2
 rw[wr (n:=i+1) (by omega) (by omega)]
 have go:∀c':aA,Sm c'->gJ c'=true->Bd (i+1).toNat c'->Vg q c'->T (some (.go (c',i+1)):Option (Lp (aA×Int) aA)) (L3 (λs'=>(0<=s'.2/\s'.2<=30/\Sm s'.1/\gJ s'.1=true/\Bd s'.2.toNat s'.1/\Vg q s'.1)/\(30 - s'.2).toNat < (30 - i).toNat) (λs=>Sm s.1/\gJ s.1=true/\Bd 30 s.1/\Vg q s.1) (λc=>Sm c/\gJ c=true/\Bd 30 c/\Vg q c)):=λc' a b d e=>.go ⟨⟨by simp only; omega,by simp only; omega,a,b,d,e⟩,by simp only; omega⟩
 have same:Bd (i+1).toNat c:=s5.mono (by omega)
 refine .ix (by omega) (by omega) λa ea ha=>.bind _ (aIT hF ⟨s3,rng s4⟩ G (ho a ha).1) λy hy=> ?_
 obtain⟨hd,hm,hk⟩:=hy
 have hk:=hk (ho a ha).2 s6.s
 obtain⟨e,n,he2,hn⟩:=XI hF s3 G hd hm
 refine .after (.ite (λ_=>.bindEq he2 (.after (.ite (λh0=> ?_) λ_=>.brk (.brk (go _ s3 s4 same s6))))) λ_=>.brk (go _ s3 s4 same s6))
 rcases hn with⟨hn,_⟩ | ⟨_,hS,hGe,hE⟩
 ·exact absurd (by simpa using h0) hn
 ·have hr:uR c.Chunks:=qC.2 ⟨λx hx=>(s3.g.2.2.1 x hx).1,G.co⟩
  have:=XJ s5 G hd hm hr hE
  rw[show i.toNat+1=(i+1).toNat by omega] at this
  exact .brk (.brk (go _ hS (kV.2 hGe) this (XX s6 hk hE)))
structure Tk (e:aA) (S:List aE):Prop where
 k:∀y∈e.Chunks,y.Locs.length<=1/\((∀i∈S,i.Kind=1->i.Id≠y.Id)->y.Locs= [])
 s:∀y∈e.Snaps,y.Locs.length<=1/\((∀i∈S,i.Kind=2->i.Seq≠y.Seq)->y.Locs= [])
theorem Tk.step {e e':aA} {S l:List aE} (h:Tk e S) (u:(S++l).Pairwise Un) (t:Trk e e' l):Tk e' (S++l):=by
 obtain⟨-, -,u⟩:=List.pairwise_append.1 u
 refine⟨λy hy=> ?_,λy hy=> ?_⟩
 ·obtain⟨z,hz,ei,e1⟩:=t.k y hy
  obtain⟨h1,h2⟩:=h.k z hz
  rcases e1 with e1 | ⟨i,hi,ik,ii,p,e1⟩<;>rw[e1]
  ·exact⟨h1,λhn=>h2 λj hj jk=>by rw[<- ei]; exact hn j (mem_append_left _ hj) jk⟩
  ·have h3:=h2 λj hj jk je=>u j hj i hi ⟨jk.trans ik.symm,λ_=>je.trans ii.symm,λk=>absurd jk k⟩
   rw[h3,kD]
   exact⟨by simp,λhn=>absurd (ii.trans ei.symm) (hn i (mem_append_right _ hi) ik)⟩
 ·obtain⟨z,hz,ei,e1⟩:=t.s y hy
  obtain⟨h1,h2⟩:=h.s z hz
  rcases e1 with e1 | ⟨i,hi,ik,ii,p,e1⟩<;>rw[e1]
  ·exact⟨h1,λhn=>h2 λj hj jk=>by rw[<- ei]; exact hn j (mem_append_left _ hj) jk⟩
  ·have h3:=h2 λj hj jk je=>u j hj i hi ⟨jk.trans ik.symm,λk=>by rw[jk] at k; exact absurd k (by decide),λ_=>je.trans ii.symm⟩
   rw[h3,kD]
   exact⟨by simp,λhn=>absurd (ii.trans ei.symm) (hn i (mem_append_right _ hi) ik)⟩
theorem HX {F:Nat} {v:Int} {q:List Int} {c:aA} {L:List (List aE)} {K:Nat} {body:aA×Int->Option (Lp (aA×Int) Bool)} (hF:1000<=F) (h:Sm c) (G:Gd c) (B:Bd 30 c) (V:Vg q c)
    (hx:∃x,c.Vols[v.toNat]? =some x/\x.State≠3) (hK:K<=L.length) (hL:K<=500) (hv:0<=v) (gv:gI v) (hR:∀l∈L,Row c l) (hU:L.flatten.Pairwise Un)
    (hb:∀(e e':aA) (i:Nat) (l:List aE),L[i]? =some l->i < K->YT F l=some (h9 0 l)->QH F e (oH v l)=some (e',0)->body (e,(i:Int))=some (.go (e',((i+1:Nat):Int)))) (he:∀e,body (e,(K:Int))=some (.brk (e,(K:Int)))):
    ∃e,aR body F (c,0)=some (.brk (e,(K:Int)))/\wO v 1 (30+K) 30 c e (L.take K).flatten/\Tk e (L.take K).flatten:=by
  have T0:Tk c []:=⟨λy hy=>by rw[V.k y hy]; exact⟨by simp,λ_=>rfl⟩,λy hy=>by rw[V.s y hy]; exact⟨by simp,λ_=>rfl⟩⟩
  have tight:∀ {e S na nb n},wO v na nb n c e S->Tk e S->wO v 1 nb 30 c e S:=fun {e S na nb n} X t=> { X with
    bd:=⟨λy hy=>(t.k y hy).1,λy hy=>(t.s y hy).1,λy hy=>(by
      obtain⟨g, -,eg⟩:=X.x
      rw[eg,V.e] at hy
      cases hy),X.bd.f,(by rw[X.q]; exact B.q)⟩}
  obtain⟨⟨e,j⟩,⟨h1,h2,h4⟩,h3⟩:=n7 (body:=body) (I:=λi s=>s.2=(i:Int)/\wO v 1 (30+i) 30 c s.1 (L.take i).flatten/\Tk s.1 (L.take i).flatten) (n:=K) (λi s hi hI=>by
    obtain⟨e,j⟩:=s
    obtain⟨rfl,X,t⟩:=hI
    have hi':i < L.length:=by omega
    have hx:L[i]? =some L[i]:=getElem?_eq_getElem hi'
    have R:=hR _ (getElem_mem hi')
    obtain⟨e',h1,X',tr⟩:=X.step hF G (by omega) (by omega) (by omega) hv gv R
    have eS:(L.take (i+1)).flatten=(L.take i).flatten++L[i]:=by rw[List.take_succ_eq_append_getElem hi',List.flatten_append,List.flatten_singleton]
    have u:((L.take i).flatten++L[i]).Pairwise Un:=by
      rw[<- eS]
      refine hU.sublist ?_
      conv=>rhs; rw[<- List.take_append_drop (i+1) L,List.flatten_append]
      exact List.sublist_append_left _ _
    have t':=t.step u tr
    refine⟨(e',((i+1:Nat):Int)),hb e e' i _ hx hi (n30 hF (by have:=R.n.2; omega)) h1,rfl, ?_⟩
    rw[eS]
    exact⟨tight X' t',t'⟩) (λs hs=>by
    obtain⟨e,j⟩:=s
    obtain⟨rfl, -⟩:=hs
    exact he e) F 0 (c,0) (Nat.zero_le _) (by omega) ⟨rfl,by simpa using tight (wO.init h G B hx) T0,by simpa using T0⟩
  simp only at h1
  subst h1
  exact⟨e,h3,h2,h4⟩
theorem aDU {F:Nat} (hF:1000<=F):XP F=some true:=by
 unfold XP
 rw[n28 hF (by decide)]
 rfl
theorem QA {A B S R:List aE} (h:A++B=S++R) (hA:∀i∈A,i.Kind=1) (hS:∃i∈S,i.Kind=2):∀i∈A,i∈S:=by
 rcases List.append_eq_append_iff.1 h with⟨a',e1, -⟩ | ⟨c',e1, -⟩
 ·intro i hi
  rw[e1]
  exact mem_append_left _ hi
 ·obtain⟨i,hi,k⟩:=hS
  have:=hA i (by rw[e1]; exact mem_append_left _ hi)
  rw[k] at this
  exact absurd this (by decide)
theorem TC {F:Nat} {e:aA} (hF:1000<=F) (h:Sm e) (hk:∀s∈e.Snaps,s.Locs≠ []->∀p∈s.Man.Parts,∀d∈p.Ids,∃y∈e.Chunks,y.Id=d) (hl:∀s∈e.Snaps,s.Locs≠ []->∀p∈s.Man.Parts,∀d∈p.Ids,∀y∈e.Chunks,y.Id=d->y.Locs≠ []):
    aR (λs=>wD F e s) F 0=some (.brk (e.Snaps.length:Int)):=by
  have hsn:=h.sn
  have hch:=h.ch
  refine iT (body:=λs=>wD F e s) (s0:=(0:Int)) (n:=e.Snaps.length) (λi:Nat=>(i:Int)) (by omega) rfl (λi hi=> ?_) (by unfold wD; simp)
  have hs:e.Snaps[i]? =some e.Snaps[i]:=getElem?_eq_getElem hi
  have hsm:=getElem_mem hi
  generalize e.Snaps[i]=s at hs hsm
  obtain⟨-,hp10,hpp⟩:=h.man s hsm
  unfold wD
  rw[iG (by omega)]
  simp only[aX,hs,bind_some,ofNat_lt,hi,decide_true,if_true]
  by_cases h0:s.Locs= []
  . simp[h0,aG]
  . have h0':((s.Locs.length:Int)==0)=false:=by
      cases hL:s.Locs with
      | nil=>exact absurd hL h0
      | cons a b=>simp; omega
    rw[h0']
    have e6:aR (λt=>zR F e (i:Int) t) F 0=some (.brk (s.Man.Parts.length:Int)):=by
      refine iT (body:=λt=>zR F e (i:Int) t) (s0:=(0:Int)) (n:=s.Man.Parts.length) (λj:Nat=>(j:Int)) (by omega) rfl (λj hj=> ?_) (by unfold zR; simp[aX,hs])
      have hp:s.Man.Parts[j]? =some s.Man.Parts[j]:=getElem?_eq_getElem hj
      have hpm:=getElem_mem hj
      generalize s.Man.Parts[j]=p at hp hpm
      obtain⟨-,hi40⟩:=hpp p hpm
      have e8:aR (λt=>zQ F e (i:Int) (j:Int) t) F 0=some (.brk (p.Ids.length:Int)):=by
        refine iT (body:=λt=>zQ F e (i:Int) (j:Int) t) (s0:=(0:Int)) (n:=p.Ids.length) (λk:Nat=>(k:Int)) (by omega) rfl (λk hk'=> ?_) (by unfold zQ; simp[aX,hs,hp])
        have hd:p.Ids[k]? =some p.Ids[k]:=getElem?_eq_getElem hk'
        have hdm:=getElem_mem hk'
        generalize p.Ids[k]=d at hd hdm
        obtain⟨y,hy,ey⟩:=hk s hsm h0 p hpm d hdm
        obtain⟨n,z,f1,f2,f3, -⟩:=kK (l:=e.Chunks) (q:=λx=>decide (x.Id=d)) (any_eq_true.2 ⟨y,hy,decide_eq_true ey⟩)
        have hz:=hl s hsm h0 p hpm d hdm z (List.mem_of_getElem? f2) (of_decide_eq_true f3)
        have hz':((z.Locs.length:Int)==0)=false:=by
          cases hL:z.Locs with
          | nil=>exact absurd hL hz
          | cons a b=>simp; omega
        have hn:=(List.getElem?_eq_some_iff.1 f2).1
        have g1:decide ((n:Int) < 0)=false:=by simp
        have g2:decide ((e.Chunks.length:Int)<=(n:Int))=false:=by simp; omega
        unfold zQ
        rw[iG (by omega)]
        simp only[aX,hs,hp,hd,bind_some,ofNat_lt,hk',decide_true,if_true,m48 hF (show e.Chunks.length < 1000 by omega),f1,g1,g2,f2,hz',false_eq_true,if_false,aG]
      unfold zR
      rw[iG (by omega)]
      simp only[aX,hs,bind_some,ofNat_lt,hj,decide_true,if_true,e8,aG]
    simp only[false_eq_true,if_false,e6,aG]
theorem FY {F:Nat} {q:List Int} {l:List iV} {p2 p3 p4:Int} (hF:1000<=F) (gq:gL gI q) (gl:∀a∈l,∀f∈a.Tree,fIn F f):M5 F q l p2 p3 p4=some true:=by
 have key:T (M5 F q l p2 p3 p4) λb=>b=true:=by
  unfold M5
  refine .after (.ite (λ_=>.brk (T.ite (λ_=>.some rfl) λh=>absurd rfl h)) λ_=> ?_)
  by_cases hl:120 < (l.length:Int)
  ·refine .bindEq (a:=true) (by unfold WY; rw[if_pos (decide_eq_true hl)]) (.brk (T.ite (λ_=>.some rfl) λh=>absurd rfl h))
  refine .bind _ (t27 hF) λb _=>.brk (T.ite (λ_=>.some rfl) λ_=> ?_)
  rw[i7 (l:=l) (F:=F) ([]:List iV) (λa=>decide ((wrap .u64 a.Do).tmod 8<=2)) id (by omega) (λi x hx hm hi acc ha=>by
   unfold FX
   rw[iG (by omega)]
   simp only[List.length_nil] at ha
   simp only[aX,hx,bind_some,ofNat_lt,hi,decide_true,if_true]
   rw[bN (by simp; omega)]
   cases decide ((wrap .u64 x.Do).tmod 8<=2)<;>rfl) (λacc=>by unfold FX; simp),aG,List.nil_append,List.map_id]
  have hacts:∀a∈l.filter (λa=>decide ((wrap .u64 a.Do).tmod 8<=2)),UL F a:=λa ha=>⟨gl a (mem_filter.1 ha).1,of_decide_eq_true (mem_filter.1 ha).2⟩
  generalize l.filter (λa=>decide ((wrap .u64 a.Do).tmod 8<=2))=acts at hacts
  refine .bind _ (t29 hF gq) λq hq=> ?_
  obtain⟨q1,q2,q3⟩:=hq
  simp only[fB,and_eq_true,decide_eq_true_eq] at q1
  refine .app (by simp; omega) ?_
  have pick:∀k:Nat,1<=k->k<=8->k<=q.length+1->(∃t,(([0]:List Int)++q).take k=0::t)/\fB ((([0]:List Int)++q).take k).length 1 8=true/\((([0]:List Int)++q).take k).all v9=true/\gL gI ((([0]:List Int)++q).take k):=λk k1 k2 k3=>by
   refine⟨?_, ?_, ?_, ?_⟩
   ·obtain⟨m,rfl⟩:∃m,k=m+1:=⟨k - 1,by omega⟩
    exact⟨q.take m,rfl⟩
   ·unfold fB
    rw[length_take]
    simp; omega
   ·refine all_eq_true.2 λx hx=> ?_
    rcases mem_append.1 (List.mem_of_mem_take hx) with h | h
    ·rw[mem_singleton.1 h]; rfl
    ·exact all_eq_true.1 q2 x h
   ·intro x hx
    rcases mem_append.1 (List.mem_of_mem_take hx) with h | h
    ·rw[mem_singleton.1 h]; exact⟨by decide,by decide⟩
    ·exact q3 x h
  refine T.after (T.mono (P:=L3 (λ_=>False) (λr:List Int=>(∃t,r=0::t)/\fB r.length 1 8=true/\r.all v9=true/\gL gI r) (λ_=>False)) (.ite (λh8=>.slc (by have:=of_decide_eq_true h8; omega) (.brk (pick 8 (by omega) (by omega) (by have:=of_decide_eq_true h8; simp at this; omega)))) λh8=>.brk (by
   have:=pick (q.length+1) (by omega) (by simp at h8; omega) (by omega)
   rwa [List.take_of_length_le (by simp)] at this)) λj hj=> ?_)
  cases j with
  | go s=>exact hj
  | ret s=>exact hj.elim
  | brk r=>
  obtain⟨⟨t,hr⟩,r1,r2,r3⟩:=(hj:(∃t,r=0::t)/\fB r.length 1 8=true/\r.all v9=true/\gL gI r)
  refine .bind _ (aJC hF r1 r2 r3 hacts) λc hc=> ?_
  obtain⟨h,hg,B,V⟩:=hc
  have G:=kV.1 hg
  have hv0:c.Vols[(0:Int).toNat]? =some { Pool:=0,Epoch:=0,State:=1,Files:=0}:=by rw[V.v,hr]; rfl
  have hp:(c.Vols[(0:Int).toNat]?).map (·.Pool)=some 0:=by rw[hv0]; rfl
  have hll:(oG c 0).length<=408:=LB G
  refine .bindEq (by rw[m36 hF h,if_pos ⟨hg,by decide,by decide⟩]) (.bindEq (n28 (l:=oG c 0) hF (by omega)) ?_)
  generalize wrap .i64 (1+wrap .i64 ((wrap .u64 p3).tmod 10))=bs
  have hk:=JK bs
  have hLn:=JJ (k:=BK bs) (oG c 0).length (oG c 0)
  have hfl:=FQ hk.1 _ _ (Nat.le_refl (oG c 0).length)
  have hsub:=JL (k:=BK bs) (oG c 0).length (oG c 0)
  generalize F3 (BK bs) (oG c 0).length (oG c 0)=L at hLn hfl hsub
  obtain⟨K,hK1,hK⟩:=WW p4 (n:=L.length+1) (by omega) (by omega)
  rw[<- wru (n:=L.length+1) (by omega),<- iG (i:=L.length) (by omega)] at hK
  refine .grd (by rw[iG (by omega),wru (by omega)]; exact bne_iff_ne.2 (by omega)) ?_
  obtain⟨e,e2,X,tk⟩:=HX (F:=F) (v:=0) (q:=r) (c:=c) (L:=L) (K:=K) (body:=λs:aA×Int=>BM F p4 L s.1 s.2) hF h G B V ⟨_,hv0,by decide⟩ (by omega) (by omega) (by decide) ⟨by decide,by decide⟩ (λy hy=>by
   obtain⟨s1,s2,s3⟩:=hsub y hy
   exact XU h G s1 (s3 hk.1) (by omega)) (by rw[hfl]; exact JN G _) (λe e' i y hy hi h1 h2=>by
   unfold BM
   have h2:QH F e { Kind:=3,Snap:={ Seq:=0,Man:={ Name:=empty,Parts:=[]},Locs:=[]},Chunks:=[],Seq:=0,Vol:=0,Items:=h9 0 y}=some (e',0):=h2
   have hi2:i < L.length:=by omega
   rw[hK,iG (i:=i) (by omega)]
   simp only[aX,hy,bind_some,ofNat_lt,hi,hi2,decide_true,if_true,h1,h2,bne_self_eq_false,false_eq_true,if_false,aG]) (λe=>by
   unfold BM
   rw[hK]
   by_cases hKL:(K:Int) < L.length<;>simp[hKL,aG])
  rw[e2,aG]
  have hS:(L.take K).flatten++(L.drop K).flatten=oG c 0:=by rw[<- hfl,<- List.flatten_append,List.take_append_drop]
  have hel:∀s∈e.Snaps,s.Locs≠ []->∃i∈(L.take K).flatten,i.Kind=2:=λs hs hn=>by
   refine Classical.byContradiction λhno=>hn ((tk.s s hs).2 λi hi k=> ?_)
   exact absurd ⟨i,hi,k⟩ hno
  have hA:∀s∈e.Snaps,s.Locs≠ []->∀y∈c.Chunks,iO c y.Id=true->LK y∈(L.take K).flatten:=λs hs hn y hy hu=>by
   have hS2:=hS
   unfold oG oA at hS2
   rw[List.append_assoc] at hS2
   refine QA hS2.symm (λi hi=> ?_) (hel s hs hn) _ (mem_map_of_mem (mem_filter.2 ⟨hy, ?_⟩))
   ·obtain⟨z, -,rfl⟩:=mem_map.1 hi
    rfl
   ·show (iO c y.Id && TB c 0 y.Locs)=true
    rw[hu,XV,V.k y hy]; rfl
  have hman:∀s∈e.Snaps,∀p∈s.Man.Parts,∀d∈p.Ids,iO e d=true:=λs hs p hp d hd=>any_eq_true.2 ⟨s,hs,any_eq_true.2 ⟨p,hp,any_eq_true.2 ⟨d,hd,decide_eq_true rfl⟩⟩⟩
  show T (after (aR (λs=>wD F e s) F 0) _) _
  rw[TC hF X.sm (λs hs _ p hp d hd=>by
   have:=X.gd.sp s hs
   unfold LJ at this
   obtain⟨y,hy,ey⟩:=any_eq_true.1 (all_eq_true.1 (all_eq_true.1 this p hp) d hd)
   exact⟨y,hy,of_decide_eq_true ey⟩) (λs hs hn p hp d hd y hy ey hy0=>by
   obtain⟨g,hgk,eg⟩:=X.k
   have hy':=hy
   rw[eg] at hy
   obtain⟨z,hz,rfl⟩:=mem_map.1 hy
   have hu:=hman s hs p hp d hd
   rw[X.used,<- ey,hgk.i] at hu
   obtain⟨w,hw, -⟩:=X.gk (LK z) (hA s hs hn z hz hu) rfl _ hy' (hgk.i z)
   rw[hy0] at hw
   cases hw),aG,hK]
  have ge:=kV.2 X.gd
  refine .after (.ite (λ_=>.bindEq (aDU hF) (.brk (.some rfl))) λhKn=> ?_)
  have hKL:K=L.length:=by
   have:¬((K:Int) < L.length):=by simpa using hKn
   omega
  rw[hKL,List.take_length,hfl] at X
  have n1:oG e 0= []:=X.none (g:=λl b=>b && TB c 0 l) (λi hi=>hi) (λa b u m hu=>by
   cases u with
   | false=>rfl
   | true=>
    rw[Bool.true_and] at hu ⊢
    rw[XV] at hu ⊢
    have hu:a.any (inP c 0)=true:=by simpa using hu
    rw[X.anyM m hu]; rfl) λb u hb=>by
   show (u && TB e 0 b)=false
   rw[XV,X.any1 (by decide) hp hb]; simp
  exact .bindEq (by rw[m36 hF X.sm,if_pos ⟨ge,by decide,by decide⟩,n1]) (T.ite (λ_=>.bindEq (aDU hF) (.brk (.some rfl))) λk=>absurd rfl k)
 obtain⟨b,e,rfl⟩:=key
 exact e
end Go.Proofs.YtbbifdfldpfphaaGreat
namespace Go.Vm
variable {P:Program} {H:Type} {enc:TypeId×Value->H} {W:World}
theorem TD {t:TypeId} (ht:P.underlying t=some .string):Rd enc P W t (λb:ByteArray=>[AV.sc (.string b)]) (λb=>b.size<=9223372036854775807):=by
 intro fuel cs x h
 cases fuel with
 | zero=>simp[DataW.trod] at h
 | succ n=>
  unfold DataW.trod at h
  rw[ht] at h
  split at h<;>simp_all
  rename_i b
  exact⟨b,by simp_all [maxLen],by simp only[cI,VR]; trivial,by simp[Value.oneCell']⟩
end Go.Vm
namespace Go.Proofs.YtbbifdfldpfphaaGreat
open Go.Vm Go.ChangeShapes Go.WideShapes
section
variable {H:Type} {enc:TypeId×Value->H} {W:World}
def HY (x:dJ):Prop:=x.Path.size<=9223372036854775807/\(gL gB) x.Data
theorem aJD:Rd enc prog W 95 eL HY:=by
 intro fuel cs x h
 obtain⟨hl,hf⟩:=Rd.flds aGN aBG h
 obtain⟨a0,g0,v0,w0⟩:=hf 0 0 1 VP ce9 (TD u9)
 obtain⟨a1,g1,v1,w1⟩:=hf 1 1 1 VQ aGL aGM
 obtain⟨v,w⟩:=(GF.cons v0 w0 (GF.cons v1 w1 (GF.nil hl) rfl) rfl)
 exact⟨⟨a0,a1⟩,⟨g0,g1⟩,by simpa [eL,ZX,iF] using v,by simpa using w⟩
theorem aJE:Rd enc prog W 64 EC (gL HY):=Rd.slice aJD u64 aBG (λx=>by simp[eL,bC]) (by decide)
def QB (x:iV):Prop:=(gL HY) x.Tree
theorem aJF:Rd enc prog W 67 eF QB:=by
 intro fuel cs x h
 obtain⟨hl,hf⟩:=Rd.flds aGQ aBF h
 obtain⟨a0,g0,v0,w0⟩:=hf 0 0 1 VH ce3 rd3
 obtain⟨a1,g1,v1,w1⟩:=hf 1 1 1 VJ ce3 rd3
 obtain⟨a2,g2,v2,w2⟩:=hf 2 2 1 VK ce3 rd3
 obtain⟨a3,g3,v3,w3⟩:=hf 3 3 1 VL aGK aJE
 obtain⟨a4,g4,v4,w4⟩:=hf 4 4 1 VM aGO aGP
 obtain⟨v,w⟩:=(GF.cons v0 w0 (GF.cons v1 w1 (GF.cons v2 w2 (GF.cons v3 w3 (GF.cons v4 w4 (GF.nil hl) rfl) rfl) rfl) rfl) rfl)
 exact⟨⟨a0,a1,a2,a3,a4⟩,g3,by simpa [eF,eO,eO,eO,EC,ED] using v,by simpa using w⟩
theorem aJG:Rd enc prog W 23 RB (gL QB):=Rd.slice aJF u23 aBF (λx=>by simp[eF,bC]) (by decide)
end
theorem XY {l:List Nat} {n:Nat} (h:n∈l):n<=l.sum:=by
 induction l with
 | nil=>cases h
 | cons a l ih=>
  rw[List.sum_cons]
  rcases mem_cons.1 h with rfl | h
  ·omega
  ·have:=ih h; omega
theorem DN {q:List Int} {l:List iV} {p2 p3 p4:Int} (gq:gL gI q) (gl:gL QB l):M5 (1000+((l.flatMap λa=>a.Tree.map λf=>f.Path.size).sum+1)) q l p2 p3 p4=some true:=
 FY (by omega) gq λa ha f hf=>⟨⟨by
  have:=XY (l:=l.flatMap λa=>a.Tree.map λf=>f.Path.size) (List.mem_flatMap.2 ⟨a,ha,mem_map_of_mem (f:=λf:dJ=>f.Path.size) hf⟩)
  omega,(gl a ha f hf).1⟩,(gl a ha f hf).2⟩
end Go.Proofs.YtbbifdfldpfphaaGreat
