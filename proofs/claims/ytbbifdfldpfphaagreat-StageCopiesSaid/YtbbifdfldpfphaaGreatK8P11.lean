import Derived.Test.YtbbifdfldpfphaaGreatK8P3
import Derived.Test.YtbbifdfldpfphaaGreatK8P10
import Derived.Test.YtbbifdfldpfphaaGreatK8P4
import Derived.Test.YtbbifdfldpfphaaGreatK8P5
import Derived.Test.YtbbifdfldpfphaaGreatK8P9
import Derived.Test.YtbbifdfldpfphaaGreatK8P7
import Derived.Test.YtbbifdfldpfphaaGreatK8P6
import Derived.Test.YtbbifdfldpfphaaGreatK8P8
set_option linter.unusedSimpArgs false
set_option linter.unusedVariables false
set_option maxHeartbeats 4000000
set_option maxRecDepth 100000
namespace Go.Proofs.YtbbifdfldpfphaaGreat
open Go.Vm
def lH {β:Type} (p0:List aE) (m:Int) (st:β→List aE→Option β) (s:β) (i:Int):Option (Lp (β×Int) β):=
 if (decide (i < (p0.length:Int)))=true then ((slc p0 i (p0.length:Int)).bind λtl=>(slc p0 i (IntKind.wrap .i64 (i+min m (tl.length:Int)))).bind λrow=>grd (decide (0 < IntKind.wrap .i64 (i+min m (tl.length:Int)))) ((st s row).bind λs'=>some (.go (s',IntKind.wrap .i64 (i+m))))) else some (.brk (s,i))
def ST {β:Type} (u:Nat) (p0:List aE) (m:Int) (st:β→List aE→Option β) (s0:β):Option β:=after (aS (λs=>lH p0 m st s.1 s.2) u (s0,0)) λs=>some s.1
theorem aIM {β:Type} {Hs:β→aF→Prop} {st:β→List aE→Option β} {j:Nat} {p0:List aE} {m:Int} {s0 o:β} {k1 k2:bT} {l D p:Nat} {rec:Loop} {fr0:Fr} {h:aF}
 (hp:rec.params= #[p])
 (h1:∀s h,Hs s h→h k1=some (.obj 33 [.sl none 37 (p0.map aI)])) (h2:∀s h,Hs s h→h k2=some (.obj 3 [nZ m]))
 (hr:∀s row s' h,st s row=some s'→Hs s h→XU Tryz.prog l D p rec fr0 (.sl none 37 (row.map aI)) h (Hs s'))
 (u:ST j p0 m st s0=some o) (h0:Hs s0 h) {E:eZ} {w:World} {us:Array Value} (hi:w6 l D rec fr0 E w) (r:eG E h w) (hv:cI E w [.fn (.yield l) [],.ptr k1 0,.ptr k2 0] us.toList):
 CallsIn Fence.wide 0 Tryz.prog 113 us w (λe w'=>∃v E' h',e= .returned v∧dC E w E' w'∧eG E' h' w'∧Hs o h'):=by
 refine aIL w6.stb 31 Tryz.func113 rfl rfl rfl rfl ?_ hi r hv
 unfold ST at u
 refine PN w6.stb (h:=h) (L:= []) trivial ?_ (ke:=λ_ _ _=>False) (λ_ _ _ _ _ _ q=>q.elim)
 refine v ?_
 intro _
 refine vR ?_
 obtain⟨SL,hSL⟩:∃SL:Int→FR,SL=λi=>.c 0 (.fn (.yield l) []) (.c 1 (.ptr k1 0) (.c 2 (.ptr k2 0) (.c 4 (nZ i) .nil))):=⟨_,rfl⟩
 refine PI w6.stb (λm' fr hh=>∃s i,after (aS (λs=>lH p0 m st s.1 s.2) m' (s,i)) (λs=>some s.1)=some o∧∃h1,Hs s h1∧f0 (fm 31 (SL i).k) h1 fr hh) j ⟨s0,0,u,h,h0, ?_⟩ ?_
 subst hSL
 exact(lx (h:=h) (L:= []) (.k4 .nil) trivial).2
 rintro m' fr hh ⟨s,i,u,h',hs,le⟩
 refine le.awn w6.stb ?_
 cases m' with
 | zero=>cases u
 | succ m'=>
 simp only[aS] at u
 cases hx:lH p0 m st s i with
 | none=>rw[hx] at u; cases u
 | some x=>
 rw[hx] at u
 unfold lH at hx
 subst hSL
 refine PN w6.stb (h:=h') (L:= []) trivial ?_ (ke:=λe _ L=>e= .exit 0∧x= .brk (s,i)∧L= []) ?_
 refine vs (v (bU (gK _ l6 rfl (h1 _ _ hs) rfl) (dH l4 rfl (v (vi hx (λhc hx=> ?_) (λhc hx=> ?_))))))
 refine v ?_
 intro _
 obtain⟨tl,X1,hx⟩:=aD hx
 obtain⟨row,X2,hx⟩:=aD hx
 obtain⟨X3,hx⟩:=pJ hx
 obtain⟨s',X4,hx⟩:=aD hx
 injection hx with hx
 subst hx
 refine DD w6.stb (vR (PN w6.stb (h:=h') (L:= []) trivial ?_ (ke:=λ_ _ _=>False) (λ_ _ _ _ _ _ q=>q.elim)))
 refine v (vq (by kernel_rfl) (bU (gK _ cB rfl (h2 _ _ hs) rfl) (bU (gK _ l6 rfl (h1 _ _ hs) rfl) (bU (o5 X1 nO rfl rfl rfl rfl) (dH l4 rfl (bU (YM rfl rfl) ?_))))))
 intro _
 refine DD w6.stb (SQ XK w6.stb 10 (h:=h') (L:= []) (w:=false) rfl trivial (bU (gK _ l6 rfl (h1 _ _ hs) rfl) (bU (aCZ X2 X3 nO rfl rfl rfl rfl rfl) ?_)))
 intro _
 refine HI hp rfl rfl (hr _ _ _ _ X4 hs) λg2 hs2=>SR XK w6.stb (h:=g2) (L:= []) (w:=false) (λ_ _ _ _ le q=>le.awn w6.stb q) rfl trivial ?_
 intro _
 refine XA (t:=false) (by rw[bF]; rfl) nofun λ_=>PH (aC0 (h:=g2) (L:= []) ?_ trivial ?_)
 rintro fr' hh' fr hh le ⟨n',hn,s,i,u,h1,hs,le'⟩
 exact⟨n',hn,s,i,u,h1,hs,le.trans le'⟩
 refine v (bU (gK _ cB rfl (h2 _ _ hs2) rfl) ?_)
 intro _
 exact⟨m',Nat.lt_succ_self _,s',_,u,g2,hs2,(lx (h:=g2) (L:= []) (.k4 .nil) trivial).2⟩
 refine v ?_
 injection hx with hx
 exact⟨rfl,hx.symm,rfl⟩
 rintro e f L fr hh - ⟨rfl,rfl,rfl⟩ - le
 cases u
 exact⟨.inl rfl,h',_,hs,le⟩
theorem W70 {p0:List aE} {m:Int} (h:aF) (u:decide (m < 1)=false):
 aM Tryz.prog 70 [.sl none 37 (List.map aI p0),nZ m] h (λr h'=>∃k1 k2,bP h [(some k2,.obj 3 [nZ m]),(some k1,.obj 33 [.sl none 37 (List.map aI p0)])]∧r= .fn (.func 113) [.ptr k1 0,.ptr k2 0]∧h'=hp h [(some k2,.obj 3 [nZ m]),(some k1,.obj 33 [.sl none 37 (List.map aI p0)])]):=by
 exact fK 9 [.tmp 4] Tryz.func70 rfl rfl rfl rfl (v (gX rfl rfl λk1 K3=>gX rfl rfl λk2 K3=>vs (vs (v (vl 0 _ cB rfl rfl rfl (v (vf u (v (v (v (vr λw=>dW.of1 (.inl rfl) (gN _ _ (.fn (.func 113) [.ptr k1 0,.ptr k2 0]) rfl) (iE.refl _) (bD.refl _ _) ⟨k1,k2,w,rfl,rfl⟩)))))))))))
theorem aIN:aP Tryz.prog 70=true:=by kernel_rfl
theorem aC1:aP Tryz.prog 113=true:=by kernel_rfl
def P5 (p1:Int):Int:=if (decide (p1 < 1) || decide (64 < p1))=true then 64 else p1
theorem SU (p1:Int):decide (P5 p1 < 1)=false:=by
 unfold P5
 split
 rfl
 rename_i h
 simp only[Bool.or_eq_true,decide_eq_true_eq,not_or] at h
 simp only[decide_eq_false_iff_not]
 omega
def SV (m:Nat) (s:List (List aE)) (row:List aE):Option (List (List aE)):=(M71 m row).bind λr=>app s [r]
def XW (u:Nat) (p0:List aE) (p1:Int):Option (List (List aE)):=ST u p0 (P5 p1) (SV u) []
section
variable (p0:List aE) (m:Int) (k1 k2 k5:bT)
def L28 (tg:Option bT) (s:List (List aE)):HL:=
 [(tg,.tok 33 1 (s.length*1)),(some k2,.obj 3 [nZ m]),(some k1,.obj 33 [.sl none 37 (List.map aI p0)]),(some k5,.obj 50 [ow tg 1 (List.map iQ s)])]
def H28 (h:aF) (s:List (List aE)) (hh:aF):Prop:=∃tg,(tg=none→s= [])∧bP h (L28 p0 m k1 k2 k5 tg s)∧hh=hp h (L28 p0 m k1 k2 k5 tg s)
end
theorem W28 {fuel:Nat} {p0:List aE} {p1:Int} {o:List (List aE)} (h:aF) (u:XW fuel p0 p1=some o):
 aM Tryz.prog 28 [.sl none 37 (List.map aI p0),nZ p1] h (λr h'=>r= .sl none 1 (List.map iQ o)∧h'=h):=by
 unfold XW at u
 refine ACm 23 [.tmp 4] Tryz.func28 rfl rfl rfl rfl (PM (h:=h) (L:= []) trivial (v ?_))
 intro _
 obtain⟨m,em⟩:∃m,m=P5 p1:=⟨_,rfl⟩
 have hpos:=SU p1
 rw[← em] at u hpos
 refine XB (h:=h) (.c 0 (.sl none 37 (List.map aI p0)) (.c 1 (nZ m) .nil)) ?_ ?_
 refine vs ?_
 rcases Bool.eq_false_or_eq_true (decide (p1 < 1)) with c1 | c1
 refine v (vt c1 ?_)
 rw[c1]
 refine v (v ?_)
 have e64:m=64:=by rw[em]; simp[P5,c1]
 subst e64
 exact⟨rfl,lx (.k2 .nil)⟩
 rcases Bool.eq_false_or_eq_true (decide (64 < p1)) with c2 | c2
 refine v (vf c1 ?_)
 rw[c1]
 refine v (vt c2 (v ?_))
 have e64:m=64:=by rw[em]; simp[P5,c1,c2]
 subst e64
 exact⟨rfl,lx (.k2 .nil)⟩
 refine v (vf c1 ?_)
 rw[c1]
 refine v (vf c2 (v ?_))
 have e64:m=p1:=by rw[em]; simp[P5,c1,c2]
 subst e64
 exact⟨rfl,lx (.k2 .nil)⟩
 refine PM (h:=h) (L:= []) trivial (v (ve λj=>bG [sZ] j aET rfl rfl λk5 K5=>qk K5 rfl ?_))
 intro K5
 refine PK (PM (h:=h) K5 (v (ve λj=>dR (W70 _ hpos) rfl aIN rfl ?_)))
 rintro x h' ⟨k1,k2,K1,rfl,rfl⟩
 refine qk (dZ j K1) (dO h _ _) ?_
 intro j
 have le0:=ZB (n:=23) (f:=.c 15 (.fn (.func 113) [.ptr k1 0,.ptr k2 0]) (.c 14 (nZ m) (.c 13 (.sl none 37 (List.map aI p0)) (.c 5 (.ptr k5 0) (.c 0 (.sl none 37 (List.map aI p0)) (.c 1 (nZ m) .nil)))))) (.tok 33 1 (([]:List (List aE)).length*1)) 3 [ow none 1 (List.map iQ [])] rfl (.cons (gQ _ _) .nil) j
 obtain⟨hkL,le0⟩:=le0
 refine le0.awm (KJ (KK (by rw[bF]; rfl) aC1 (λl D rec r1 r2 r3 r4 r5 E w us hi r hv=>aIM (Hs:=H28 p0 m k1 k2 k5 h) (st:=SV fuel) r3 ?_ ?_ ?_ u ⟨none,λ_=>rfl,hkL,rfl⟩ hi r hv) ?_))
 rintro s hh ⟨tg,ot,j,rfl⟩
 exact aW 2 j rfl
 rintro s hh ⟨tg,ot,j,rfl⟩
 exact aW 1 j rfl
 rintro s row s' hh hst ⟨tg,ot,j,rfl⟩
 unfold SV at hst
 obtain⟨row',hr1,hst⟩:=aD hst
 have e6:∀(f:FR) (x:AV),(fm 23 f.k).set 16 x=fm 23 (f.put (some 16) x).k:=λf x=>by
   show iF (fm 23 f.k) (some 16) x=_
   rw[iZ,FR.put_k]
 refine XU.of r1 r2 (fr1:=fm 23 (FR.put (FR.put (.c 15 (.fn (.func 113) [.ptr k1 0,.ptr k2 0]) (.c 14 (nZ m) (.c 13 (.sl none 37 (List.map aI p0)) (.c 5 (.ptr k5 0) (.c 0 (.sl none 37 (List.map aI p0)) (.c 1 (nZ m) .nil)))))) (some 16) (.sl none 37 (List.map aI row))) (some 6) (.sl none 37 (List.map aI row))).k) ?_ ?_
 rw[r4,e6]
 refine SJ rfl ?_
 rw[FR.put_k]
 refine qC (hH (.sl none 37 (List.map aI row)) rfl) (eS ⟨rfl, ?_⟩)
 rw[FR.put_k]
 exact f0.rfl'
 rw[r5]
 refine vR (PE [(5,some k5,.obj 50 [ow tg 1 (List.map iQ s)])] rfl mixed ⟨λ_=>aO 3 j rfl,trivial⟩ (zL 0 0 (ow tg 1 (List.map iQ s)) rfl ZK rfl rfl rfl (zC 1 rfl (fA (.sl none 37 (List.map aI row)) rfl) (zE 2 rfl (dR (W71 _ hr1) rfl aFA rfl ?_)))))
 rintro x h' ⟨t,ot',hk',rfl,rfl⟩
 refine⟨⟨λ_=> ?_,trivial⟩, ?_⟩
 rw[dO]
 exact aO 4 (dZ j hk') rfl
 refine zE 3 rfl (SS (t:=19) (.sl none 37 (List.map aI row')) (GI hk') (dU 37 0 ot' hk' rfl) (ZC (eA (List.map iQ [row']) ZJ rfl rfl rfl rfl) ⟨⟨λ_=>aO 3 j rfl,trivial⟩, ?_⟩))
 refine zE 4 rfl (fG (c:=iQ) 0 hst ZJ rfl rfl rfl ot j rfl λtg' ot' hk'=>⟨⟨λ_=>aO 3 hk' rfl,trivial⟩, ?_⟩)
 refine zE 5 rfl (aL 3 ([ow tg' 1 (List.map iQ s')]) hk' rfl rfl (jF rfl) (pK _ _ _) aES rfl rfl λhk''=>⟨⟨λe=>absurd e (by decide),trivial⟩, ?_⟩)
 exact zX ⟨rfl,_,_,⟨tg',ot',hk'',rfl⟩,f0.rfl'⟩
 rintro hh ⟨tg,ot,j,rfl⟩
 refine⟨rfl,rfl, ?_⟩
 refine SP (PJ (BA rfl rfl (ZC (gK (ow tg 1 (List.map iQ o)) ZK rfl (aW 3 j rfl) rfl) ?_)))
 rw[iZ]
 refine BA rfl rfl (ZC (hH (ow tg 1 (List.map iQ o)) rfl) ?_)
 rw[iZ]
 exact SN (SO (dW.of1 (.inl rfl) (gN _ _ (ow tg 1 (List.map iQ o)) rfl) (aU (List.nil_sublist _) j).1 (dU 1 0 ot j rfl) ⟨rfl,rfl⟩))
theorem aC2:aP Tryz.prog 28=true:=by kernel_rfl
def XX (m:Nat):Option (Bool):=
 (XW m ([({ Kind:=0,Id:=gW,Seq:=1,Of:=0,Off:=0,Len:=0}:aE),({ Kind:=0,Id:=gW,Seq:=2,Of:=0,Off:=0,Len:=0}:aE),({ Kind:=0,Id:=gW,Seq:=3,Of:=0,Off:=0,Len:=0}:aE)]:List aE) 2).bind λy3=>after (if ((y3.length:Int)==2)=true then ((ix y3 0).bind λx0=>if ((x0.length:Int)==2)=true then ((ix y3 1).bind λx1=>if ((x1.length:Int)==1)=true then ((ix y3 1).bind λx2=>(ix x2 0).bind λx3=>some (.brk (x3.Seq==3))) else some (.brk false)) else some (.brk false)) else some (.brk false):Option (Lp (Bool) (Bool))) λj0=>some j0
theorem W27 {u:Nat} {o:Bool} (h:aF) (m:XX u=some o):
 aM Tryz.prog 27 [] h (λr h'=>r= .sc (.bool o)∧h'=h):=by
 refine fK 33 [.tmp 0] Tryz.func27 rfl rfl rfl rfl ?_
 unfold XX at m
 refine v (v (bU (eI (aI ({ Kind:=0,Id:=gW,Seq:=1,Of:=0,Off:=0,Len:=0}:aE)) sL rfl) (bU (eI (aI ({ Kind:=0,Id:=gW,Seq:=2,Of:=0,Off:=0,Len:=0}:aE)) sL rfl) (bU (eI (aI ({ Kind:=0,Id:=gW,Seq:=3,Of:=0,Off:=0,Len:=0}:aE)) sL rfl) (bU (eA (List.map aI ([({ Kind:=0,Id:=gW,Seq:=1,Of:=0,Off:=0,Len:=0}:aE),({ Kind:=0,Id:=gW,Seq:=2,Of:=0,Off:=0,Len:=0}:aE),({ Kind:=0,Id:=gW,Seq:=3,Of:=0,Off:=0,Len:=0}:aE)]:List aE)) lA rfl rfl rfl rfl) (vk W28 aC2 m rfl rfl λ_ m=>vs (fN m (σ:=Bool) (λs=> []) (λs=>.c 0 (.sc (.bool s)) .nil) (λx m=> ?_) ?_)))))))
 refine v (dH ZI rfl ?_)
 apply vi m <;> intro b0 m
 rw[b0]
 refine vx m QY rfl rfl λ_ _ m=>dH l4 rfl ?_
 apply vi m <;> intro b1 m
 rw[b1]
 refine vx m QY rfl rfl λ_ _ m=>dH l4 rfl ?_
 apply vi m <;> intro b2 m
 rw[b2]
 exact vx m QY rfl rfl λ_ _ m=>vx m nO rfl rfl λ_ _ m=>nX m
 rw[b2]
 exact nX m
 rw[b1]
 exact nX m
 rw[b0]
 exact nX m
 rintro _ j0 m
 refine v ?_
 obtain rfl:=eP m
 exact eF rfl
theorem XC:aP Tryz.prog 27=true:=by kernel_rfl
open Go.Vm
def SW (m:Nat) (p0:aA) (p1:Int):Option ((List aE)):=
 after (if (decide (p1 < 0))=true then (some (.brk true)) else if (decide (1 < p1))=true then (some (.brk true)) else (Q4 m p0).bind λy0=>some (.brk (y0 !=0)):Option (Lp (Bool) ((List aE)))) λj0=>if j0=true then (some []) else (VM m p0 (λx0 x1=>M51 m x0 x1 p0 p1)).bind λy1=>some y1
theorem W17 {w:Nat} {p0:aA} {p1:Int} {o:(List aE)} (h:aF) (m:SW w p0 p1=some o):
 aM Tryz.prog 17 [.agg (aC p0),nZ p1] h (λr h'=>r= .sl none 37 (List.map aI o)∧h'=h):=by
 refine fK 19 [.tmp 4] Tryz.func17 rfl rfl rfl rfl ?_
 unfold SW at m
 refine v (gX rfl rfl λk2 K3=>gX rfl rfl λk5 K6=>vs (vs (fN m (σ:=Bool) (λs=> [(some k5,.obj 3 (fL p1)),(some k2,.obj 30 (aC p0))]) (λs=>.c 2 (.ptr k2 0) (.c 3 (.ptr k5 0) (.c 15 (.sc (.bool s)) .nil))) (λx m=> ?_) ?_)))
 refine v (vl 0 _ cB rfl rfl rfl ?_)
 apply vi m <;> intro b0 m
 rw[b0]
 exact gD m
 rw[b0]
 refine vl 0 _ cB rfl rfl rfl ?_
 apply vi m <;> intro b1 m
 rw[b1]
 exact gD m
 rw[b1]
 exact vl 1 (.agg (aC p0)) cZ rfl rfl rfl (vk W31 MW m rfl rfl λ_ m=>gD m)
 rintro _ j0 m
 refine v ?_
 apply vi m <;> intro c0 m
 refine v (v ?_)
 cases m
 exact vr λu=>dW.of1 (.inl rfl) (gN _ _ (.sc (.slice _ _ _)) rfl) (aU (List.nil_sublist _) u).1 (a9 _) ⟨rfl,rfl⟩
 refine v (v (vl 1 (.agg (aC p0)) cZ rfl rfl rfl ?_))
 obtain⟨_,Y0,m⟩:=aD m
 refine vn (λu=>bV (W50 _ aFZ (λ_ _ o h0 hs ho=>W51 _ (hs _ _ (aW 1 u rfl)) (hs _ _ (aW 0 u rfl)) ho) Y0) rfl VO rfl) (v ?_)
 obtain rfl:=eP m
 exact eF rfl
theorem PO:aP Tryz.prog 17=true:=by kernel_rfl
def DE (m:Nat) (p0:aA) (p1:List aR) (p2:Int) (q0:Int):Option (Lp (Int) (Bool)):=
 if (decide (q0 < (p1.length:Int)))=true then (after ((ix p1 q0).bind λx0=>if (decide (0≤x0.Vol))=true then ((ix p1 q0).bind λx1=>if (decide (x1.Vol < (p0.Vols.length:Int)))=true then ((ix p1 q0).bind λx2=>(ix p0.Vols x2.Vol).bind λx3=>some (.brk (x3.Pool==p2))) else some (.brk false)) else some (.brk false):Option (Lp (Bool) (Lp (Int) (Bool)))) λj0=>if j0=true then (some (.ret true)) else some (.go (IntKind.wrap .i64 (q0+1)))) else some (.brk q0)
def SX (m:Nat) (p0:aA) (p1:List aR) (p2:Int):Option (Bool):=
 after (aS (λs=>DE m p0 p1 p2 s) m 0) λr0=>some false
theorem aC4 {u:Nat} {p0:aA} {p1:List aR} {p2:Int} {o:Bool} (h:aF) (m:SX u p0 p1 p2=some o):
 aM Tryz.prog 107 [.agg (aC p0),.sl none 4 (List.map aN p1),nZ p2] h (λr h'=>r= .sc (.bool o)∧h'=h):=by
 refine fK 45 [.tmp 6] Tryz.func107 rfl rfl rfl rfl ?_
 unfold SX at m
 refine v (gX rfl rfl λk2 K3=>v (jP m (σ:=Int) (λs=> [(some k2,.obj 30 (aC p0))]) (λs=>.c 1 (.sl none 4 (List.map aN p1)) (.c 2 (nZ p2) (.c 3 (.ptr k2 0) (.c 7 (nZ s) .nil)))) (lx (.k4 .nil)) ?_ ?_))
 rintro _ q0 x m
 replace m:DE u p0 p1 p2 q0=some x:=m
 unfold DE at m
 refine v (dH kD rfl (v ?_))
 apply vi m <;> intro c0 m
 refine v (v (vs (fN m (σ:=Bool) (λs=> [(some k2,.obj 30 (aC p0))]) (λs=>.c 1 (.sl none 4 (List.map aN p1)) (.c 2 (nZ p2) (.c 3 (.ptr k2 0) (.c 7 (nZ q0) (.c 44 (.sc (.bool s)) .nil))))) (λx m=> ?_) ?_)))
 refine v (vq (by kernel_rfl) (vx m i9 rfl rfl λ_ _ m=> ?_))
 apply vi m <;> intro b0 m
 rw[b0]
 refine vx m i9 rfl rfl λ_ _ m=>vl 0 _ iH rfl rfl rfl (dH qK rfl ?_)
 apply vi m <;> intro b1 m
 rw[b1]
 exact vl 0 _ iH rfl rfl rfl (vx m i9 rfl rfl λ_ _ m=>vx m lZ rfl rfl λ_ _ m=>kY m)
 rw[b1]
 exact kY m
 rw[b0]
 exact kY m
 rintro _ j0 m
 refine v ?_
 apply vi m <;> intro c1 m
 refine v (v (fZ m λm=> ?_))
 obtain rfl:=eP m
 exact eF rfl
 exact v (v (fY m))
 exact v (wE m)
 rintro _ r0 m
 refine v (v ?_)
 obtain rfl:=eP m
 exact eF rfl
theorem T4:aP Tryz.prog 107=true:=by kernel_rfl
def M52 (m:Nat) (p0:aA) (p1:List aR) (p2:Int):Option (Bool):=
 after ((SX m p0 p1 p2).bind λy0=>if (!y0)=true then (if (p2==0)=true then (some (.brk true)) else (SX m p0 p1 0).bind λy1=>some (.brk y1)) else some (.brk false):Option (Lp (Bool) (Bool))) λj0=>some j0
theorem W52 {u:Nat} {p0:aA} {p1:List aR} {p2:Int} {o:Bool} (h:aF) (m:M52 u p0 p1 p2=some o):
 aM Tryz.prog 52 [.agg (aC p0),.sl none 4 (List.map aN p1),nZ p2] h (λr h'=>r= .sc (.bool o)∧h'=h):=by
 refine fK 21 [.tmp 6] Tryz.func52 rfl rfl rfl rfl ?_
 unfold M52 at m
 refine v (gX rfl rfl λk2 K3=>vs (fN m (σ:=Bool) (λs=> [(some k2,.obj 30 (aC p0))]) (λs=>.c 6 (.sc (.bool s)) .nil) (λx m=> ?_) ?_))
 refine v (vl 0 (.agg (aC p0)) cZ rfl rfl rfl (vk aC4 T4 m rfl rfl λ_ m=> ?_))
 apply vi m <;> intro b0 m
 rw[b0]
 apply vi m <;> intro b1 m
 rw[b1]
 exact nX m
 rw[b1]
 exact vl 0 (.agg (aC p0)) cZ rfl rfl rfl (vk aC4 T4 m rfl rfl λ_ m=>nX m)
 rw[b0]
 exact nX m
 rintro _ j0 m
 refine v ?_
 obtain rfl:=eP m
 exact eF rfl
theorem XD:aP Tryz.prog 52=true:=by kernel_rfl
def HJ (m:Nat) (p0:aA) (p1:Int) (q0:List aE) (q1:Int):Option (Lp ((List aE)×Int) ((List aE))):=
 if (decide (q1 < (p0.Chunks.length:Int)))=true then (after ((ix p0.Chunks q1).bind λx0=>(V3 m p0 x0.Id).bind λy0=>if y0=true then ((ix p0.Chunks q1).bind λx1=>(M52 m p0 x1.Locs p1).bind λy1=>some (.brk y1)) else some (.brk false):Option (Lp (Bool) (Lp ((List aE)×Int) ((List aE))))) λj0=>after (if j0=true then ((ix p0.Chunks q1).bind λx2=>(app q0 ([({ Kind:=1,Id:=x2.Id,Seq:=0,Of:=0,Off:=0,Len:=0}:aE)]:List aE)).bind λz0=>some (.brk z0)) else some (.brk q0):Option (Lp ((List aE)) (Lp ((List aE)×Int) ((List aE))))) λj1=>some (.go (j1,IntKind.wrap .i64 (q1+1)))) else some (.brk (q0,q1))
def HK (m:Nat) (p0:aA) (p1:Int) (q0:List aE) (q1:Int):Option (Lp ((List aE)×Int) ((List aE))):=
 if (decide (q1 < (p0.Snaps.length:Int)))=true then ((ix p0.Snaps q1).bind λx0=>(M52 m p0 x0.Locs p1).bind λy0=>after (if y0=true then ((ix p0.Snaps q1).bind λx1=>(app q0 ([({ Kind:=2,Id:=gW,Seq:=x1.Seq,Of:=0,Off:=0,Len:=0}:aE)]:List aE)).bind λz0=>some (.brk z0)) else some (.brk q0):Option (Lp ((List aE)) (Lp ((List aE)×Int) ((List aE))))) λj0=>some (.go (j0,IntKind.wrap .i64 (q1+1)))) else some (.brk (q0,q1))
def HM (m:Nat) (p0:aA) (p1:Int) (q0:List aE) (q1:Int):Option (Lp ((List aE)×Int) ((List aE))):=
 if (decide (q1 < (p0.Exps.length:Int)))=true then ((ix p0.Exps q1).bind λx0=>(M52 m p0 x0.Locs p1).bind λy0=>after (if y0=true then ((ix p0.Exps q1).bind λx1=>(ix p0.Exps q1).bind λx2=>(app q0 ([({ Kind:=3,Id:=gW,Seq:=x1.Seq,Of:=x2.Of,Off:=0,Len:=0}:aE)]:List aE)).bind λz0=>some (.brk z0)) else some (.brk q0):Option (Lp ((List aE)) (Lp ((List aE)×Int) ((List aE))))) λj0=>some (.go (j0,IntKind.wrap .i64 (q1+1)))) else some (.brk (q0,q1))
def M19 (m:Nat) (p0:aA) (p1:Int):Option ((List aE)):=
 after (if (p1 !=0)=true then (some (.brk (p1 !=1))) else some (.brk false):Option (Lp (Bool) ((List aE)))) λj9=>if j9=true then (some []) else after (aS (λs=>HJ m p0 p1 s.1 s.2) m ([],0)) λ⟨r0,r1⟩=>after (aS (λs=>HK m p0 p1 s.1 s.2) m (r0,0)) λ⟨r2,r3⟩=>after (aS (λs=>HM m p0 p1 s.1 s.2) m (r2,0)) λ⟨r4,r5⟩=>some r4
theorem W19 {w:Nat} {p0:aA} {p1:Int} {o:(List aE)} (h:aF) (m:M19 w p0 p1=some o):
 aM Tryz.prog 19 [.agg (aC p0),nZ p1] h (λr h'=>r= .sl none 37 (List.map aI o)∧h'=h):=by
 refine fK 110 [.tmp 4] Tryz.func19 rfl rfl rfl rfl ?_
 unfold M19 at m
 refine v (gX rfl rfl λk2 K3=>v (vs (vs (fN m (σ:=Bool) (λs=> [(some k2,.obj 30 (aC p0))]) (λs=>.c 1 (nZ p1) (.c 2 (.ptr k2 0) (.c 5 (sZ) (.c 14 (.sc (.bool s)) .nil)))) (λx m=> ?_) ?_))))
 refine v ?_
 apply vi m <;> intro b0 m
 rw[b0]
 exact fY m
 rw[b0]
 exact fY m
 rintro _ j9 m
 refine v ?_
 apply vi m <;> intro c0 m
 refine v (v ?_)
 cases m
 exact vr λu=>dW.of1 (.inl rfl) (gN _ _ (.sc (.slice _ _ _)) rfl) (aU (List.nil_sublist _) u).1 (a9 _) ⟨rfl,rfl⟩
 refine v (v (qE (AS (.tok 38 37 (([]:List aE).length*37)) 5 (ow none 37 (List.map aI [])) (gQ _ _)) (nW m (σ:=(List aE)×Int) (τ:=Option bT) (λg s=> [(g,.tok 38 37 ((s.1:List aE).length*37)),(some k2,.obj 30 (aC p0))]) (λg s=>(g=none→s.1= [])) (λg s=>.c 1 (nZ p1) (.c 2 (.ptr k2 0) (.c 5 (ow g 37 (List.map aI s.1)) (.c 6 (nZ s.2) .nil)))) none (λ_=>rfl) (lx (.k4 .nil)) ?_ ?_)))
 rintro tg0 ⟨q0,q1⟩ x t0 m
 replace m:HJ w p0 p1 q0 q1=some x:=m
 unfold HJ at m
 refine v (vl 1 _ fD rfl rfl rfl (dH lI rfl (v ?_)))
 apply vi m <;> intro c1 m
 refine v (v (vs (fN m (σ:=Bool) (λs=> [(tg0,.tok 38 37 ((q0:List aE).length*37)),(some k2,.obj 30 (aC p0))]) (λs=>.c 1 (nZ p1) (.c 2 (.ptr k2 0) (.c 5 (ow tg0 37 (List.map aI q0)) (.c 6 (nZ q1) (.c 40 (.sc (.bool s)) .nil))))) (λx m=> ?_) ?_)))
 refine v (vq (by kernel_rfl) (vl 1 (.agg (aC p0)) cZ rfl rfl rfl (vl 1 _ fD rfl rfl rfl (vx m h9 rfl rfl λx0 _ m=>va (.agg (bC x0.Id)) eY rfl rfl (vk W38 V4 m rfl rfl λ_ m=> ?_)))))
 apply vi m <;> intro b1 m
 rw[b1]
 exact vl 1 (.agg (aC p0)) cZ rfl rfl rfl (vl 1 _ fD rfl rfl rfl (vx m h9 rfl rfl λ_ _ m=>vk W52 XD m rfl rfl λ_ m=>kY m))
 rw[b1]
 exact kY m
 rintro _ j0 m
 refine oG m (σ:=(List aE)) (τ:=Option bT) (λg s=> [(g,.tok 38 37 ((s:List aE).length*37)),(some k2,.obj 30 (aC p0))]) (λg s=>(g=none→s= [])) (λg s=>.c 1 (nZ p1) (.c 2 (.ptr k2 0) (.c 5 (ow g 37 (List.map aI s)) (.c 6 (nZ q1) .nil)))) (λx m=> ?_) ?_
 refine v ?_
 apply vi m <;> intro c2 m
 refine v (vl 1 _ fD rfl rfl rfl (vx m h9 rfl rfl λx1 _ m=>va (.agg (bC x1.Id)) eY rfl rfl (bU (eI (aI ({ Kind:=1,Id:=x1.Id,Seq:=0,Of:=0,Off:=0,Len:=0}:aE)) sL rfl) (bU (eA (List.map aI ([({ Kind:=1,Id:=x1.Id,Seq:=0,Of:=0,Off:=0,Len:=0}:aE)]:List aE)) lA rfl rfl rfl rfl) ?_))))
 obtain⟨z0,Z0,m⟩:=aD m
 exact ve λu=>fG (c:=aI) 0 Z0 lA rfl rfl rfl t0 u rfl λtg1 t1 K0=>qk K0 rfl (eH m tg1 t1 (lx (.k4 .nil)))
 exact v (eH m tg0 t0 (lx (.k4 .nil)))
 rintro tg2 j1 t2 m
 exact v (eH m tg2 t2 (lx (.k4 .nil)))
 exact v (lN m tg0 t0 (lx (.k4 .nil)))
 rintro tg3 ⟨r0,r1⟩ t3 m
 refine v (nW m (σ:=(List aE)×Int) (τ:=Option bT) (λg s=> [(g,.tok 38 37 ((s.1:List aE).length*37)),(some k2,.obj 30 (aC p0))]) (λg s=>(g=none→s.1= [])) (λg s=>.c 1 (nZ p1) (.c 2 (.ptr k2 0) (.c 5 (ow g 37 (List.map aI s.1)) (.c 7 (nZ s.2) .nil)))) tg3 t3 (lx (.k4 .nil)) ?_ ?_)
 rintro tg4 ⟨q2,q3⟩ x t4 m
 replace m:HK w p0 p1 q2 q3=some x:=m
 unfold HK at m
 refine v (vl 1 _ fI rfl rfl rfl (dH kZ rfl (v ?_)))
 apply vi m <;> intro c3 m
 refine v (v (v (vq (by kernel_rfl) (vl 1 (.agg (aC p0)) cZ rfl rfl rfl (vl 1 _ fI rfl rfl rfl (vx m jL rfl rfl λ_ _ m=>vk W52 XD m rfl rfl λ_ m=>oG m (σ:=(List aE)) (τ:=Option bT) (λg s=> [(g,.tok 38 37 ((s:List aE).length*37)),(some k2,.obj 30 (aC p0))]) (λg s=>(g=none→s= [])) (λg s=>.c 1 (nZ p1) (.c 2 (.ptr k2 0) (.c 5 (ow g 37 (List.map aI s)) (.c 7 (nZ q3) .nil)))) (λx m=> ?_) ?_))))))
 refine v ?_
 apply vi m <;> intro c4 m
 refine v (vl 1 _ fI rfl rfl rfl (vx m jL rfl rfl λx2 _ m=>bU (eI (aI ({ Kind:=2,Id:=gW,Seq:=x2.Seq,Of:=0,Off:=0,Len:=0}:aE)) sL rfl) (bU (eA (List.map aI ([({ Kind:=2,Id:=gW,Seq:=x2.Seq,Of:=0,Off:=0,Len:=0}:aE)]:List aE)) lA rfl rfl rfl rfl) ?_)))
 obtain⟨z1,Z1,m⟩:=aD m
 exact ve λu=>fG (c:=aI) 0 Z1 lA rfl rfl rfl t4 u rfl λtg5 t5 K1=>qk K1 rfl (eH m tg5 t5 (lx (.k4 .nil)))
 exact v (eH m tg4 t4 (lx (.k4 .nil)))
 rintro tg6 j2 t6 m
 exact v (eH m tg6 t6 (lx (.k4 .nil)))
 exact v (lN m tg4 t4 (lx (.k4 .nil)))
 rintro tg7 ⟨r2,r3⟩ t7 m
 refine v (nW m (σ:=(List aE)×Int) (τ:=Option bT) (λg s=> [(g,.tok 38 37 ((s.1:List aE).length*37)),(some k2,.obj 30 (aC p0))]) (λg s=>(g=none→s.1= [])) (λg s=>.c 1 (nZ p1) (.c 2 (.ptr k2 0) (.c 5 (ow g 37 (List.map aI s.1)) (.c 8 (nZ s.2) .nil)))) tg7 t7 (lx (.k4 .nil)) ?_ ?_)
 rintro tg8 ⟨q4,q5⟩ x t8 m
 replace m:HM w p0 p1 q4 q5=some x:=m
 unfold HM at m
 refine v (vl 1 _ iG rfl rfl rfl (dH pN rfl (v ?_)))
 apply vi m <;> intro c5 m
 refine v (v (v (vq (by kernel_rfl) (vl 1 (.agg (aC p0)) cZ rfl rfl rfl (vl 1 _ iG rfl rfl rfl (vx m iR rfl rfl λ_ _ m=>vk W52 XD m rfl rfl λ_ m=>oG m (σ:=(List aE)) (τ:=Option bT) (λg s=> [(g,.tok 38 37 ((s:List aE).length*37)),(some k2,.obj 30 (aC p0))]) (λg s=>(g=none→s= [])) (λg s=>.c 1 (nZ p1) (.c 2 (.ptr k2 0) (.c 5 (ow g 37 (List.map aI s)) (.c 8 (nZ q5) .nil)))) (λx m=> ?_) ?_))))))
 refine v ?_
 apply vi m <;> intro c6 m
 refine v (vz [(1000000,some k2,.obj 30 (aC p0))] mixed (λu=>⟨λ_=>aO 1 u rfl,trivial⟩) λu=>zC 0 rfl (fA (ow _ _ _) rfl) (zF 1 rfl eU rfl (zL 2 0 (.sl none 3 (List.map cH p0.Exps)) rfl iG rfl rfl rfl (zI 3 rfl rfl ?_))))
 obtain⟨x3,X0,m⟩:=aD m
 refine zC 4 rfl (lP X0 iR rfl rfl) (zC 5 rfl (m6 xV rfl rfl) (zC 6 rfl (lW (nZ x3.Seq) cB rfl rfl) (zF 7 rfl eU rfl (zL 8 0 (.sl none 3 (List.map cH p0.Exps)) rfl iG rfl rfl rfl (zI 9 rfl rfl ?_)))))
 obtain⟨x4,X1,m⟩:=aD m
 refine zC 10 rfl (lP X1 iR rfl rfl) (zC 11 rfl (m6 GQ rfl rfl) (zC 12 rfl (lW (nZ x4.Of) cB rfl rfl) (zC 13 rfl (eI (aI ({ Kind:=3,Id:=gW,Seq:=x3.Seq,Of:=x4.Of,Off:=0,Len:=0}:aE)) sL rfl) (zC 14 rfl (eA (List.map aI ([({ Kind:=3,Id:=gW,Seq:=x3.Seq,Of:=x4.Of,Off:=0,Len:=0}:aE)]:List aE)) lA rfl rfl rfl rfl) ?_))))
 obtain⟨z2,Z2,m⟩:=aD m
 refine zE 15 rfl (fG (c:=aI) 0 Z2 lA rfl rfl rfl t8 u rfl λtg9 t9 K2=>⟨⟨λ_=>aO 1 K2 rfl,trivial⟩, ?_⟩)
 exact zC 16 rfl (hH (ow _ _ _) rfl) (zX (qk (f:=.c 5 _ (QU 108 _ _ _ _ _ _ _ _ _ _ _ _ _ _ _ _ _)) K2 rfl (eH m tg9 t9 (lx (.k4 .nil)))))
 exact v (eH m tg8 t8 (lx (.k4 .nil)))
 rintro tg10 j3 t10 m
 exact v (eH m tg10 t10 (lx (.k4 .nil)))
 exact v (lN m tg8 t8 (lx (.k4 .nil)))
 rintro tg11 ⟨r4,r5⟩ t11 m
 refine v (v ?_)
 obtain rfl:=eP m
 exact vr λu=>dW.of1 (.inl rfl) (gN _ _ (ow _ _ _) rfl) (aU (List.nil_sublist _) u).1 ((dU _ 0 t11 u rfl)) ⟨rfl,rfl⟩
theorem aIR:aP Tryz.prog 19=true:=by kernel_rfl
def M26 (m:Nat) (p0:aA) (p1:Int):Option ((List aE)):=
 (M69 m p0 p1 true).bind λy6=>some y6
theorem W26 {u:Nat} {p0:aA} {p1:Int} {o:(List aE)} (h:aF) (m:M26 u p0 p1=some o):
 aM Tryz.prog 26 [.agg (aC p0),nZ p1] h (λr h'=>r= .sl none 37 (List.map aI o)∧h'=h):=by
 refine fK 8 [.tmp 4] Tryz.func26 rfl rfl rfl rfl ?_
 unfold M26 at m
 refine v (gX rfl rfl λk2 K3=>v (vl 0 (.agg (aC p0)) cZ rfl rfl rfl (vk W69 aA4 m rfl rfl λ_ m=>v ?_)))
 obtain rfl:=eP m
 exact eF rfl
theorem aIT:aP Tryz.prog 26=true:=by kernel_rfl
open Go.Vm
def PP (m:Nat) (y0:aA) (q0:Int) (y1:(List aE)) (q1:Int):Option (Lp (Int) (Lp (Int) (Bool))):=
 if (decide (q1 < (y1.length:Int)))=true then (after ((ix y1 q1).bind λx0=>if (x0.Kind !=1)=true then (some (.brk ())) else (ix y1 q1).bind λx1=>(M20 m y0 x1.Id).bind λy2=>after (if (decide (y2 < 0))=true then (some (.brk true)) else if (decide ((y0.Chunks.length:Int)≤y2))=true then (some (.brk true)) else (ix y0.Chunks y2).bind λx2=>(TQ m y0 x2.Locs q0).bind λy3=>if y3=true then (some (.brk true)) else (ix y1 q1).bind λx3=>(VK m y0 x3.Id).bind λy4=>some (.brk (!y4)):Option (Lp (Bool) (Lp (Unit) (Lp (Int) (Lp (Int) (Bool)))))) λj0=>if j0=true then (some (.ret (.ret (.ret false)))) else some (.brk ()):Option (Lp (Unit) (Lp (Int) (Lp (Int) (Bool))))) λ_=>some (.go (IntKind.wrap .i64 (q1+1)))) else some (.brk q1)
def PQ (m:Nat) (y0:aA) (q0:Int):Option (Lp (Int) (Bool)):=
 if (decide (q0≤2))=true then ((SW m y0 q0).bind λy1=>(M19 m y0 q0).bind λy2=>(TX m y1 y2).bind λy3=>if (!y3)=true then (some (.ret false)) else after (aS (λs=>PP m y0 q0 y1 s) m 0) λr0=>some (.go (IntKind.wrap .i64 (q0+1)))) else some (.brk q0)
def PR (m:Nat) (y0:aA) (q0:Int):Option (Lp (Int) (Bool)):=
 if (decide (q0≤(y0.Vols.length:Int)))=true then ((M23 m y0 q0).bind λy1=>(M24 m y0 q0).bind λy2=>after ((M25 m y0 q0).bind λy3=>(TX m y1 y3).bind λy4=>if (!y4)=true then (some (.brk true)) else (M26 m y0 q0).bind λy5=>(TX m y2 y5).bind λy6=>if (!y6)=true then (some (.brk true)) else some (.brk (decide ((y1.length:Int) < (y2.length:Int)))):Option (Lp (Bool) (Lp (Int) (Bool)))) λj0=>if j0=true then (some (.ret false)) else some (.go (IntKind.wrap .i64 (q0+1)))) else some (.brk q0)
def M3 (m:Nat) (p0:List Int) (p1:List m7):Option (Bool):=
 after (if (decide (30 < (p0.length:Int)))=true then (some (.brk true)) else (XR m p1).bind λy9=>some (.brk y9):Option (Lp (Bool) (Bool))) λj7=>if j7=true then (some true) else (XS m p0).bind λy0=>(XT m y0 p1).bind λy1=>after (aS (λs=>PQ m y1 s) m (-1)) λr0=>after (aS (λs=>PR m y1 s) m (-1)) λr1=>(XX m).bind λy2=>some y2
theorem W3 {w:Nat} {p0:List Int} {p1:List m7} {o:Bool} (h:aF) (m:M3 w p0 p1=some o):
 aM Tryz.prog 3 [.sl none 1 (List.map fL p0),.sl none 5 (List.map fM p1)] h (λr h'=>r= .sc (.bool o)∧h'=h):=by
 refine fK 121 [.tmp 4] Tryz.func3 rfl rfl rfl rfl ?_
 unfold M3 at m
 refine v (vs (vs (fN m (σ:=Bool) (λs=> []) (λs=>.c 0 (.sl none 1 (List.map fL p0)) (.c 1 (.sl none 5 (List.map fM p1)) (.c 19 (.sc (.bool s)) .nil))) (λx m=> ?_) ?_)))
 refine v (dH L4 rfl ?_)
 apply vi m <;> intro b8 m
 rw[b8]
 exact gD m
 rw[b8]
 exact vk W14 aCJ m rfl rfl λ_ m=>gD m
 rintro _ j7 m
 refine v ?_
 apply vi m <;> intro c0 m
 refine v (v ?_)
 obtain rfl:=eP m
 exact eF rfl
 refine v (v (vk W16 aCK m rfl rfl λ_ m=>vk W15 aCL m rfl rfl λy0 m=>ve λu=>bG (i7) u sK rfl rfl λk19 K0=>qk K0 rfl (ve λu=>aL 0 (aC y0) u rfl rfl rfl rfl m8 rfl rfl λK1=>qk K1 rfl (v (jP m (σ:=Int) (λs=> [(some k19,.obj 30 (aC y0))]) (λs=>.c 5 (.ptr k19 0) (.c 6 (nZ s) .nil)) (lx (.k2 .nil)) ?_ ?_)))))
 rintro _ q0 x m
 replace m:PQ w y0 q0=some x:=m
 unfold PQ at m
 refine v (v ?_)
 apply vi m <;> intro c1 m
 refine v (v (v (vl 0 (.agg (aC y0)) cZ rfl rfl rfl (vk W17 PO m rfl rfl λy1 m=>v (vl 0 (.agg (aC y0)) cZ rfl rfl rfl (vk W19 aIR m rfl rfl λ_ m=>vk W18 RD m rfl rfl λ_ m=>v ?_))))))
 apply vi m <;> intro c2 m
 refine v (v (fZ m λm=> ?_))
 obtain rfl:=eP m
 exact eF rfl
 refine v (v (jP m (σ:=Int) (λs=> [(some k19,.obj 30 (aC y0))]) (λs=>.c 5 (.ptr k19 0) (.c 6 (nZ q0) (.c 7 (.sl none 37 (List.map aI y1)) (.c 8 (nZ s) .nil)))) (lx (.k4 .nil)) ?_ ?_))
 rintro _ q1 x m
 replace m:PP w y0 q0 y1 q1=some x:=m
 unfold PP at m
 refine v (dH l4 rfl (v ?_))
 apply vi m <;> intro c3 m
 refine v (vs (fN m (σ:=Unit) (λs=> [(some k19,.obj 30 (aC y0))]) (λs=>.c 5 (.ptr k19 0) (.c 6 (nZ q0) (.c 7 (.sl none 37 (List.map aI y1)) (.c 8 (nZ q1) .nil)))) (λx m=> ?_) ?_))
 refine v (v (vx m nO rfl rfl λ_ _ m=>v ?_))
 apply vi m <;> intro c4 m
 exact v (fY m)
 refine v (v (vq (by kernel_rfl) (vl 0 (.agg (aC y0)) cZ rfl rfl rfl (vx m nO rfl rfl λx0 _ m=>va (.agg (bC x0.Id)) eY rfl rfl (vk W20 aFY m rfl rfl λ_ m=>vs (fN m (σ:=Bool) (λs=> [(some k19,.obj 30 (aC y0))]) (λs=>.c 5 (.ptr k19 0) (.c 6 (nZ q0) (.c 7 (.sl none 37 (List.map aI y1)) (.c 8 (nZ q1) (.c 85 (.sc (.bool s)) .nil))))) (λx m=> ?_) ?_))))))
 refine v (vq (by kernel_rfl) ?_)
 apply vi m <;> intro b0 m
 rw[b0]
 exact kY m
 rw[b0]
 refine vl 0 _ fD rfl rfl rfl (dH lI rfl ?_)
 apply vi m <;> intro b1 m
 rw[b1]
 exact kY m
 rw[b1]
 refine vl 0 (.agg (aC y0)) cZ rfl rfl rfl (vl 0 _ fD rfl rfl rfl (vx m h9 rfl rfl λ_ _ m=>vk W21 RA m rfl rfl λ_ m=> ?_))
 apply vi m <;> intro b2 m
 rw[b2]
 exact kY m
 rw[b2]
 exact vl 0 (.agg (aC y0)) cZ rfl rfl rfl (vx m nO rfl rfl λx1 _ m=>va (.agg (bC x1.Id)) eY rfl rfl (vk W22 VL m rfl rfl λ_ m=>kY m))
 rintro _ j0 m
 refine v ?_
 apply vi m <;> intro c5 m
 refine v (v (fZ m λm=>fZ m λm=>fZ m λm=> ?_))
 obtain rfl:=eP m
 exact eF rfl
 exact v (fY m)
 rintro _ _ m
 exact v (fY m)
 exact v (wE m)
 rintro _ r0 m
 exact v (wK m)
 exact v (KR m)
 rintro _ r1 m
 refine v (jP m (σ:=Int) (λs=> [(some k19,.obj 30 (aC y0))]) (λs=>.c 5 (.ptr k19 0) (.c 10 (nZ s) .nil)) (lx (.k2 .nil)) ?_ ?_)
 rintro _ q2 x m
 replace m:PR w y0 q2=some x:=m
 unfold PR at m
 refine v (vl 0 _ iH rfl rfl rfl (dH qK rfl (v ?_)))
 apply vi m <;> intro c6 m
 refine v (v (v (vq (by kernel_rfl) (vl 0 (.agg (aC y0)) cZ rfl rfl rfl (vk W23 aGS m rfl rfl λ_ m=>vl 0 (.agg (aC y0)) cZ rfl rfl rfl (vk W24 aG4 m rfl rfl λ_ m=>vs (fN m (σ:=Bool) (λs=> [(some k19,.obj 30 (aC y0))]) (λs=>.c 5 (.ptr k19 0) (.c 10 (nZ q2) (.c 119 (.sc (.bool s)) .nil))) (λx m=> ?_) ?_)))))))
 refine v (vl 0 (.agg (aC y0)) cZ rfl rfl rfl (vk W25 aGW m rfl rfl λ_ m=>vk W18 RD m rfl rfl λ_ m=> ?_))
 apply vi m <;> intro b3 m
 rw[b3]
 exact gD m
 rw[b3]
 refine vl 0 (.agg (aC y0)) cZ rfl rfl rfl (vk W26 aIT m rfl rfl λ_ m=>vk W18 RD m rfl rfl λ_ m=> ?_)
 apply vi m <;> intro b4 m
 rw[b4]
 exact gD m
 rw[b4]
 exact dH l4 rfl (dH l4 rfl (gD m))
 rintro _ j1 m
 refine v ?_
 apply vi m <;> intro c7 m
 refine v (v (fZ m λm=> ?_))
 obtain rfl:=eP m
 exact eF rfl
 exact v (v (wK m))
 exact v (KR m)
 rintro _ r2 m
 refine v (vk W27 XC m rfl rfl λ_ m=>v ?_)
 obtain rfl:=eP m
 exact eF rfl
open Go.Vm
def P6 (c:aA) (p:Int) (l:List aR):Bool:= !l.any (inP c p) && (p==0 || l.any (inP c 0))
theorem m79 {F:Nat} {c:aA} {p:Int} {l:List aR} {b:Bool} (hF:1000≤F) (h:Sm c) (hl:l.length≤300):M51 F l b c p=some (b && P6 c p l):=by
 have hvo:=h.vo
 unfold M51 P6
 simp only[m46 hF (by omega:c.Vols.length < 1000) hl,Option.bind_some]
 cases b <;> cases l.any (inP c p) <;> cases p==0 <;> rfl
def mY (c:aA) (p:Int):List aE:=oO c λl b=>b && P6 c p l
theorem m36 {F:Nat} {c:aA} {p:Int} (hF:1000≤F) (h:Sm c):SW F c p=some (if gA c=true∧0≤p∧p≤1 then mY c p else[]):=by
 unfold SW
 by_cases h1:p < 0
 ·have:¬(gA c=true∧0≤p∧p≤1):=by omega
  simp[h1,this,after]
 ·by_cases h2:1 < p
  ·have:¬(gA c=true∧0≤p∧p≤1):=by omega
   simp[h1,h2,this,after]
  ·rw[m33 hF h]
   have h3:p≤1:=by omega
   have h0:0≤p:=by omega
   cases hg:gA c
   ·simp[h1,h2,hg,after]
   ·simp only[h1,h2,decide_false,Bool.false_eq_true,if_false,if_true,Option.bind_some,bne_self_eq_false,aG,h0,h3,and_self,true_and]
    rw[aG5 (λl b=>b && P6 c p l) hF h (λl b hl=>m79 hF h hl)]
    rfl
theorem m40 {F:Nat} {l:List aE} (hF:1000≤F) (hl:l.length≤900):TX F l l=some true:=by
 unfold TX
 rw[if_neg (by simp),pU (l:=l) (F:=F) (λ_=>false) false (by omega) (λi x hx _ hi=>by
  unfold yI
  rw[iK (by omega)]
  simp[aX,hx,hi,after]) (by unfold yI; simp)]
 simp[after]
theorem m39:XX 1000=some true:=by decide+kernel
open Go.Vm
def vS (m:Nat) (p0:List aE) (q0:List aE) (q1:Int):Option (Lp ((List aE)×Int) ((List aE))):=
 if (decide (q1 < (p0.length:Int)))=true then ((ix p0 q1).bind λx0=>(app q0 ([{ { x0 with Off:=IntKind.wrap .i64 (13+(IntKind.wrap .i64 (20*q1)))} with Len:=20}]:List aE)).bind λz0=>some (.go (z0,IntKind.wrap .i64 (q1+1)))) else some (.brk (q0,q1))
def XY (m:Nat) (p0:List aE):Option ((List aE)):=
 after (aS (λs=>vS m p0 s.1 s.2) m ([],0)) λ⟨r0,r1⟩=>some r0
theorem W30 {w:Nat} {p0:List aE} {o:(List aE)} (h:aF) (m:XY w p0=some o):
 aM Tryz.prog 30 [.sl none 37 (List.map aI p0)] h (λr h'=>r= .sl none 37 (List.map aI o)∧h'=h):=by
 refine fK 26 [.tmp 2] Tryz.func30 rfl rfl rfl rfl ?_
 unfold XY at m
 refine v (v (v (qE (AS (.tok 38 37 (([]:List aE).length*37)) 3 (ow none 37 (List.map aI [])) (gQ _ _)) (nW m (σ:=(List aE)×Int) (τ:=Option bT) (λg s=> [(g,.tok 38 37 ((s.1:List aE).length*37))]) (λg s=>(g=none→s.1= [])) (λg s=>.c 0 (.sl none 37 (List.map aI p0)) (.c 3 (ow g 37 (List.map aI s.1)) (.c 4 (nZ s.2) .nil))) none (λ_=>rfl) (lx (.k3 .nil)) ?_ ?_))))
 rintro tg0 ⟨q0,q1⟩ x t0 m
 replace m:vS w p0 q0 q1=some x:=m
 unfold vS at m
 refine v (dH l4 rfl (v ?_))
 apply vi m <;> intro c0 m
 refine v (v (v (vx m nO rfl rfl λx0 _ m=>va (.agg (aI x0)) B6 rfl rfl (ve λu=>bG (([nZ 0]:List AV)++bC gW++(I9:List AV)) u GO rfl rfl λk79 K0=>qk K0 rfl (ve λu=>aL 0 (aI x0) u rfl rfl rfl rfl GM rfl rfl λK1=>qk K1 rfl (v (ve λu=>aL 0 (aI { x0 with Off:=IntKind.wrap .i64 (13+(IntKind.wrap .i64 (20*q1)))}) u rfl rfl rfl rfl AT rfl rfl λK2=>qk K2 rfl (ve λu=>aL 0 (aI { { x0 with Off:=IntKind.wrap .i64 (13+(IntKind.wrap .i64 (20*q1)))} with Len:=20}) u rfl rfl rfl rfl AT rfl rfl λK3=>qk K3 rfl (v (vl 0 (.agg (aI { { x0 with Off:=IntKind.wrap .i64 (13+(IntKind.wrap .i64 (20*q1)))} with Len:=20})) B6 rfl rfl rfl (bU (eA (List.map aI ([{ { x0 with Off:=IntKind.wrap .i64 (13+(IntKind.wrap .i64 (20*q1)))} with Len:=20}]:List aE)) lA rfl rfl rfl rfl) ?_)))))))))))
 obtain⟨z0,Z0,m⟩:=aD m
 exact ve λu=>fG (c:=aI) 1 Z0 lA rfl rfl rfl t0 u rfl λtg1 t1 K4=>qk K4 rfl (v (eH m tg1 t1 (mE [1] rfl rfl (.k3 .nil))))
 exact v (lN m tg0 t0 (lx (.k3 .nil)))
 rintro tg2 ⟨r0,r1⟩ t2 m
 refine v (v ?_)
 obtain rfl:=eP m
 exact vr λu=>dW.of1 (.inl rfl) (gN _ _ (ow _ _ _) rfl) (aU (List.nil_sublist _) u).1 ((dU _ 0 t2 u rfl)) ⟨rfl,rfl⟩
theorem aIU:aP Tryz.prog 30=true:=by kernel_rfl
def zB (m:Nat) (y0:aA) (q0:Int) (q1:Int):Option (Lp (Int×Int) (Bool)):=
 if (decide (q1 < (y0.Vols.length:Int)))=true then (after ((ix y0.Vols q1).bind λx0=>if (x0.Pool==1)=true then ((ix y0.Vols q1).bind λx1=>some (.brk (x1.State !=3))) else some (.brk false):Option (Lp (Bool) (Lp (Int×Int) (Bool)))) λj0=>after (if j0=true then (some (.brk q1)) else some (.brk q0):Option (Lp (Int) (Lp (Int×Int) (Bool)))) λj1=>some (.go (j1,IntKind.wrap .i64 (q1+1)))) else some (.brk (q0,q1))
def BC (m:Nat) (r0:Int) (y0:(List (List aE))) (q0:aA) (q1:Int):Option (Lp (aA×Int) (Bool)):=
 if (decide (q1 < (y0.length:Int)))=true then ((ix y0 q1).bind λx0=>(XY m x0).bind λy1=>(RQ m q0 ({ Kind:=3,Snap:=({ Seq:=0,Man:=({ Name:=ByteArray.empty,Parts:= []}:bE),Locs:= []}:aH),Chunks:= [],Seq:=0,Vol:=r0,Items:=y1}:aV)).bind λy2=>if (y2.2 !=0)=true then (some (.ret false)) else some (.go (y2.1,IntKind.wrap .i64 (q1+1)))) else some (.brk (q0,q1))
def M4 (m:Nat) (p0:List Int) (p1:List m7):Option (Bool):=
 after (if (decide (30 < (p0.length:Int)))=true then (some (.brk true)) else (XR m p1).bind λy9=>some (.brk y9):Option (Lp (Bool) (Bool))) λj7=>if j7=true then (some true) else (XS m p0).bind λy0=>(XT m y0 p1).bind λy1=>after (aS (λs=>zB m y1 s.1 s.2) m ((-1),0)) λ⟨r0,r1⟩=>if (decide (r0 < 0))=true then ((XX m).bind λy2=>some y2) else (SW m y1 0).bind λy3=>(SW m y1 1).bind λy4=>(XW m y4 7).bind λy5=>after (aS (λs=>BC m r0 y5 s.1 s.2) m (y1,0)) λ⟨r2,r3⟩=>after ((SW m r2 1).bind λy6=>if ((y6.length:Int)==0)=true then ((SW m r2 0).bind λy7=>(TX m y7 y3).bind λy8=>if y8=true then ((XX m).bind λy10=>some (.brk y10)) else some (.brk false)) else some (.brk false):Option (Lp (Bool) (Bool))) λj0=>some j0
theorem W4 {w:Nat} {p0:List Int} {p1:List m7} {o:Bool} (h:aF) (m:M4 w p0 p1=some o):
 aM Tryz.prog 4 [.sl none 1 (List.map fL p0),.sl none 5 (List.map fM p1)] h (λr h'=>r= .sc (.bool o)∧h'=h):=by
 refine fK 90 [.tmp 4] Tryz.func4 rfl rfl rfl rfl ?_
 unfold M4 at m
 refine v (vs (vs (fN m (σ:=Bool) (λs=> []) (λs=>.c 0 (.sl none 1 (List.map fL p0)) (.c 1 (.sl none 5 (List.map fM p1)) (.c 19 (.sc (.bool s)) .nil))) (λx m=> ?_) ?_)))
 refine v (dH L4 rfl ?_)
 apply vi m <;> intro b8 m
 rw[b8]
 exact gD m
 rw[b8]
 exact vk W14 aCJ m rfl rfl λ_ m=>gD m
 rintro _ j7 m
 refine v ?_
 apply vi m <;> intro c0 m
 refine v (v ?_)
 obtain rfl:=eP m
 exact eF rfl
 refine v (v (vk W16 aCK m rfl rfl λ_ m=>vk W15 aCL m rfl rfl λy0 m=>ve λu=>bG (i7) u sK rfl rfl λk19 K0=>qk K0 rfl (ve λu=>aL 0 (aC y0) u rfl rfl rfl rfl m8 rfl rfl λK1=>qk K1 rfl (v (v (jP m (σ:=Int×Int) (λs=> [(some k19,.obj 30 (aC y0))]) (λs=>.c 5 (.ptr k19 0) (.c 6 (nZ s.1) (.c 7 (nZ s.2) .nil))) (lx (.k3 .nil)) ?_ ?_))))))
 rintro _ ⟨q0,q1⟩ x m
 replace m:zB w y0 q0 q1=some x:=m
 unfold zB at m
 refine v (vl 0 _ iH rfl rfl rfl (dH qK rfl (v ?_)))
 apply vi m <;> intro c1 m
 refine v (v (vs (fN m (σ:=Bool) (λs=> [(some k19,.obj 30 (aC y0))]) (λs=>.c 5 (.ptr k19 0) (.c 6 (nZ q0) (.c 7 (nZ q1) (.c 46 (.sc (.bool s)) .nil)))) (λx m=> ?_) ?_)))
 refine v (vl 0 _ iH rfl rfl rfl (vx m lZ rfl rfl λ_ _ m=> ?_))
 apply vi m <;> intro b0 m
 rw[b0]
 exact vl 0 _ iH rfl rfl rfl (vx m lZ rfl rfl λ_ _ m=>fY m)
 rw[b0]
 exact fY m
 rintro _ j0 m
 refine fN m (σ:=Int) (λs=> [(some k19,.obj 30 (aC y0))]) (λs=>.c 5 (.ptr k19 0) (.c 6 (nZ s) (.c 7 (nZ q1) .nil))) (λx m=> ?_) ?_
 refine v ?_
 apply vi m <;> intro c2 m
 exact v (gD m)
 exact v (gD m)
 rintro _ j1 m
 exact v (gD m)
 exact v (Fq m)
 rintro _ ⟨r0,r1⟩ m
 refine v (v ?_)
 apply vi m <;> intro c3 m
 refine v (vk W27 XC m rfl rfl λ_ m=>v ?_)
 obtain rfl:=eP m
 exact eF rfl
 refine v (v (vl 0 (.agg (aC y0)) cZ rfl rfl rfl (vk W17 PO m rfl rfl λy1 m=>v (vl 0 (.agg (aC y0)) cZ rfl rfl rfl (vk W17 PO m rfl rfl λ_ m=>vk W28 aC2 m rfl rfl λy2 m=>v (jP m (σ:=aA×Int) (λs=> [(some k19,.obj 30 (aC s.1))]) (λs=>.c 5 (.ptr k19 0) (.c 6 (nZ r0) (.c 8 (.sl none 37 (List.map aI y1)) (.c 9 (.sl none 1 (List.map iQ y2)) (.c 10 (nZ s.2) .nil))))) (lx (.k5 .nil)) ?_ ?_))))))
 rintro _ ⟨q2,q3⟩ x m
 replace m:BC w r0 y2 q2 q3=some x:=m
 unfold BC at m
 refine v (dH ZI rfl (v ?_))
 apply vi m <;> intro c4 m
 refine v (v (v (vz [(1000000,some k19,.obj 30 (aC q2))] mixed (λu=>⟨λ_=>aO 0 u rfl,trivial⟩) λu=>zL 0 0 (.agg (aC q2)) rfl cZ rfl rfl rfl (zI 1 rfl rfl (zC 2 rfl (fA (.sl _ _ _) rfl) (zI 3 rfl rfl ?_))))))
 obtain⟨x0,X0,m⟩:=aD m
 refine zC 4 rfl (lP X0 QY rfl rfl) (zC 5 rfl (lW (.sl none 37 (List.map aI x0)) l6 rfl rfl) ?_)
 obtain⟨y3,Y0,m⟩:=aD m
 refine zC 6 rfl (bV (W30 _ Y0) rfl aIU rfl) (zC 7 rfl (eI ([nZ 3,nZ 0,.sc (.string ByteArray.empty),sZ,sZ,sZ,nZ 0,nZ r0,.sl none 37 (List.map aI y3)]) B9 rfl) ?_)
 obtain⟨y4,Y1,m⟩:=aD m
 refine zC 8 rfl (bV (JL (.cons (bD.refl _ _) (.cons (bD.agg (.k3 (.cons (a9 _) (.cons (a9 _) (.cons (a9 _) (.k3 .nil)))))) .nil)) (W29 _ Y1)) rfl aHN rfl) (zC 9 rfl (fA (.tup _) rfl) (zC 10 rfl (QH (.agg _) rfl rfl) (zC 11 rfl (QH (.sc (.int _ _)) rfl rfl) (zE 12 rfl (bG (i7) u sK rfl rfl λk196 K2=>⟨⟨λ_=>aO 1 K2 rfl,trivial⟩, ?_⟩)))))
 refine zE 13 rfl (aL 0 (aC y4.1) K2 rfl rfl rfl rfl m8 rfl rfl λK3=>⟨⟨λ_=>aO 1 K3 rfl,trivial⟩, ?_⟩)
 refine zC 14 rfl (hH (.sc (.int _ _)) rfl) (zX (qk (f:=.c 12 _ (.c 11 _ (.c 73 _ (.c 72 _ (.c 62 _ (YY 71 _ _ _ _ _ _ _ _ _ _)))))) K3 rfl (v (v ?_))))
 apply vi m <;> intro c5 m
 refine v (v (fZ m λm=> ?_))
 obtain rfl:=eP m
 exact eF rfl
 exact v (v (vl 0 (.agg (aC y4.1)) cZ rfl rfl rfl (ve λu=>aL 1 (aC y4.1) u rfl rfl rfl rfl m8 rfl rfl λK4=>qk K4 rfl (v (zH m (mE [1] rfl rfl (.k5 .nil)))))))
 exact v (XJ m)
 rintro _ ⟨r2,r3⟩ m
 refine vs (fN m (σ:=Bool) (λs=> [(some k19,.obj 30 (aC r2))]) (λs=>.c 4 (.sc (.bool s)) .nil) (λx m=> ?_) ?_)
 refine v (vl 0 (.agg (aC r2)) cZ rfl rfl rfl (vk W17 PO m rfl rfl λ_ m=>dH l4 rfl ?_))
 apply vi m <;> intro b1 m
 rw[b1]
 refine vl 0 (.agg (aC r2)) cZ rfl rfl rfl (vk W17 PO m rfl rfl λ_ m=>vk W18 RD m rfl rfl λ_ m=> ?_)
 apply vi m <;> intro b2 m
 rw[b2]
 exact vk W27 XC m rfl rfl λ_ m=>nX m
 rw[b2]
 exact nX m
 rw[b1]
 exact nX m
 rintro _ j2 m
 refine v ?_
 obtain rfl:=eP m
 exact eF rfl
open Go.Vm
theorem n71 {F:Nat} {l:List aE} (h:l.length≤1000000):M71 F l=some l:=by unfold M71; rw[bN (by simp; omega)]; simp
def DF {α:Type} (k:Nat):Nat→List α→List (List α)
 | 0,_=> []
 | n+1,l=>if l.length=0 then[] else l.take k::DF k n (l.drop k)
theorem FJ {α:Type} {k:Nat} (hk:0 < k):∀(n:Nat) (l:List α),l.length≤n→(DF k n l).flatten=l
 | 0,l,h=>by have:l= []:=List.length_eq_zero_iff.1 (by omega); subst this; rfl
 | n+1,l,h=>by
  unfold DF
  split
  ·rename_i h0
   have:l= []:=List.length_eq_zero_iff.1 h0
   subst this; rfl
  ·rename_i h0
   rw[List.flatten_cons,FJ hk n _ (by rw[List.length_drop]; omega),List.take_append_drop]
theorem aIV {α:Type} {l:List α} {i k:Nat} (h:i < l.length):slc l (i:Int) (min ((i:Int)+(k:Int)) (l.length:Int))=some ((l.drop i).take k):=by
 unfold slc
 rw[if_pos ⟨by omega,by omega,by omega⟩]
 have e:(min ((i:Int)+(k:Int)) (l.length:Int)).toNat=min (i+k) l.length:=by omega
 have e2:(i:Int).toNat=i:=by omega
 rw[e,e2,List.drop_take]
 congr 1
 by_cases hk:i+k≤l.length
 ·congr 1; omega
 ·rw[List.take_of_length_le (by rw[List.length_drop]; omega),List.take_of_length_le (by rw[List.length_drop]; omega)]
theorem FK {α ρ:Type} {l:List α} {k:Nat} {body:List (List α)×Int→Option (Lp (List (List α)×Int) ρ)} (hk:0 < k) (hk2:k≤64)
    (hgo:∀(s:List (List α)) (i:Nat),i < l.length→s.length≤1000→body (s,(i:Int))=some (.go (s++ [(l.drop i).take k],((i+k:Nat):Int)))) (hbr:∀(s:List (List α)) (i:Nat),l.length≤i→i≤1000→body (s,(i:Int))=some (.brk (s,(i:Int)))) (hl:l.length≤800):
    ∀(n G:Nat) (s:List (List α)) (i:Nat),l.length - i≤n→i≤1000→n < G→s.length+n≤1000→∃j,aS body G (s,(i:Int))=some (.brk (s++DF k n (l.drop i),j))
  | n,0,_,_,_,_,h,_=>by omega
  | n,G+1,s,i,h1,h3,h2,h4=>by
    have hi:(l.drop i).length=l.length - i:=List.length_drop
    unfold aS
    by_cases h:i < l.length
    · rw[hgo s i h (by omega)]
      cases n with
      | zero=>omega
      | succ n=>
        obtain⟨j,e⟩:=FK hk hk2 hgo hbr hl n G (s++ [(l.drop i).take k]) (i+k) (by omega) (by omega) (by omega) (by simp; omega)
        refine⟨j, ?_⟩
        show aS body G _=_
        rw[e]
        rw[show DF k (n+1) (l.drop i)=(l.drop i).take k::DF k n ((l.drop i).drop k) from by
          show (if (l.drop i).length=0 then _ else _)=_
          rw[if_neg (by omega)],List.drop_drop]
        simp
    · rw[hbr s i (by omega) h3]
      refine⟨(i:Int), ?_⟩
      have e:DF k n (l.drop i)= []:=by
        cases n with
        | zero=>rfl
        | succ n=>unfold DF; rw[if_pos (by omega)]
      rw[e,List.append_nil]
def z9 (p1:Int):Nat:=(P5 p1).toNat
theorem I5 (p1:Int):0 < z9 p1∧z9 p1≤64∧P5 p1=(z9 p1:Int):=by
 unfold z9 P5
 split
 ·decide
 ·rename_i h
  simp only[Bool.or_eq_true,decide_eq_true_eq,not_or] at h
  omega
theorem n28 {F:Nat} {l:List aE} {p1:Int} (hF:1000≤F) (hl:l.length≤800):XW F l p1=some (DF (z9 p1) l.length l):=by
 obtain⟨hk,hk2,hm⟩:=I5 p1
 unfold XW ST
 rw[hm]
 have hgo:∀(s:List (List aE)) (i:Nat),i < l.length→s.length≤1000→lH l (z9 p1:Int) (SV F) s (i:Int)=some (.go (s++ [(l.drop i).take (z9 p1)],((i+z9 p1:Nat):Int))):=by
  intro s i h hs
  have hi:(l.drop i).length=l.length - i:=List.length_drop
  unfold lH
  rw[if_pos (by simpa using h)]
  have e1:slc l (i:Int) (l.length:Int)=some (l.drop i):=by
   unfold slc
   rw[if_pos ⟨by omega,by omega,by omega⟩]
   have e2:(i:Int).toNat=i:=by omega
   have e3:(l.length:Int).toNat=l.length:=by omega
   rw[e2,e3,List.take_length]
  have e2:IntKind.wrap .i64 ((i:Int)+min (z9 p1:Int) ((l.drop i).length:Int))=min ((i:Int)+(z9 p1:Int)) (l.length:Int):=by
   rw[hi,wr (by omega) (by omega)]; omega
  have e3:IntKind.wrap .i64 ((i:Int)+(z9 p1:Int))=((i+z9 p1:Nat):Int):=by rw[wr (by omega) (by omega)]; omega
  have e4:SV F s ((l.drop i).take (z9 p1))=some (s++ [(l.drop i).take (z9 p1)]):=by
   unfold SV
   rw[n71 (by rw[List.length_take]; omega)]
   simp only[Option.bind_some]
   exact bN (by simp; omega)
  simp only[e1,Option.bind_some,e2,aIV h,e4,e3]
  unfold grd
  rw[if_pos (by simp; omega)]
 have hbr:∀(s:List (List aE)) (i:Nat),l.length≤i→i≤1000→lH l (z9 p1:Int) (SV F) s (i:Int)=some (.brk (s,(i:Int))):=by
  intro s i h _
  unfold lH
  rw[if_neg (by simpa using h)]
 obtain⟨j,e⟩:=FK (ρ:=List (List aE)) (body:=λs=>lH l (z9 p1:Int) (SV F) s.1 s.2) (l:=l) hk hk2 hgo hbr hl l.length F [] 0 (by omega) (by omega) (by omega) (by simp; omega)
 have e':aS (λs=>lH l (z9 p1:Int) (SV F) s.1 s.2) F (([]:List (List aE)),(0:Int))=_:=e
 rw[e']
 rfl
theorem I6 {α:Type} {k:Nat}:∀(n:Nat) (l:List α),∀x∈DF k n l,x.Sublist l∧x.length≤k∧(0 < k→0 < x.length)
 | 0,l,x,h=>by simp[DF] at h
 | n+1,l,x,h=>by
  unfold DF at h
  split at h
  ·simp at h
  ·rename_i h0
   rcases List.mem_cons.1 h with rfl | h
   ·exact⟨List.take_sublist _ _,by rw[List.length_take]; omega,λhk=>by rw[List.length_take]; omega⟩
   ·obtain⟨h1,h2⟩:=I6 n _ x h
    exact⟨h1.trans (List.drop_sublist _ _),h2⟩
def iC:Nat→List aE→List aE
 | _, []=> []
 | i,x::l=> { x with Off:=13+20*(i:Int),Len:=20}::iC (i+1) l
theorem BD (x:aE):∀(l:List aE) (i:Nat),iC i (l++ [x])=iC i l++ [{ x with Off:=13+20*((i+l.length:Nat):Int),Len:=20}]
 | [],i=>rfl
 | y::l,i=>by
  show _::iC (i+1) (l++ [x])=_
  rw[BD x l (i+1),show i+1+l.length=i+(y::l).length by simp; omega]
  rfl
theorem uI:∀(l:List aE) (i:Nat),(iC i l).length=l.length
 | [],_=>rfl
 | x::l,i=>by
  show (iC (i+1) l).length+1=_
  rw[uI l (i+1)]; rfl
theorem mZ:∀ {l:List aE} {i:Nat},∀y∈iC i l,∃x∈l,y.Kind=x.Kind∧y.Id=x.Id∧y.Seq=x.Seq∧y.Of=x.Of∧13≤y.Off∧y.Off≤13+20*((i+l.length:Nat):Int)∧y.Len=20
 | [],_,y,h=>by cases h
 | x::l,i,y,h=>by
  rcases List.mem_cons.1 h with rfl | h
  ·refine⟨x,List.mem_cons_self,rfl,rfl,rfl,rfl, ?_, ?_,rfl⟩
   ·show (13:Int)≤13+20*(i:Int); omega
   ·show 13+20*(i:Int)≤_; simp; omega
  ·obtain⟨z,hz,a,b,c,d,e,f,g⟩:=mZ y h
   refine⟨z,List.mem_cons_of_mem _ hz,a,b,c,d,e, ?_,g⟩
   simp only[List.length_cons] at f ⊢
   omega
theorem uJ:∀ {l:List aE} {i:Nat},∀x∈l,∃y∈iC i l,y.Kind=x.Kind∧y.Id=x.Id∧y.Seq=x.Seq∧y.Of=x.Of
 | [],_,x,h=>by cases h
 | z::l,i,x,h=>by
  rcases List.mem_cons.1 h with rfl | h
  ·exact⟨_,List.mem_cons_self,rfl,rfl,rfl,rfl⟩
  ·obtain⟨y,hy,e⟩:=uJ (i:=i+1) x h
   exact⟨y,List.mem_cons_of_mem _ hy,e⟩
theorem I7:∀ {l:List aE} {i:Nat},l.Pairwise Un→(iC i l).Pairwise Un
 | [],_,_=>.nil
 | x::l,i,h=>by
  obtain⟨h1,h2⟩:=List.pairwise_cons.1 h
  refine List.pairwise_cons.2 ⟨λy hy=> ?_,I7 h2⟩
  obtain⟨z,hz,a,b,c, -⟩:=mZ y hy
  have:=h1 z hz
  unfold Un at this ⊢
  rw[a,b,c]
  exact this
theorem n30 {F:Nat} {l:List aE} (hF:1000≤F) (hl:l.length≤800):XY F l=some (iC 0 l):=by
 have:=jY (body:=λs:List aE×Int=>vS F l s.1 s.2) (s0:=(([]:List aE),(0:Int))) (n:=l.length) (F:=F) (λi:Nat=>(iC 0 (l.take i),(i:Int))) (by omega) rfl (λi hi=>by
  have hx:l[i]? =some l[i]:=List.getElem?_eq_getElem hi
  unfold vS
  simp only
  rw[iK (by omega),List.take_succ_eq_append_getElem hi,BD]
  simp only[aX,hx,Option.bind_some,Int.ofNat_lt,hi,decide_true,if_true]
  rw[bN (by rw[uI]; simp; omega),wr (n:=20*(i:Int)) (by omega) (by omega),wr (n:=13+20*(i:Int)) (by omega) (by omega)]
  simp[Nat.min_eq_left (Nat.le_of_lt hi)]) (by unfold vS; simp)
 unfold XY
 rw[this]
 simp[aG]
open Go.Vm
def Mo (v:Int) (a b:List aR):Prop:=(∀l∈a,l∈b)∧∀l∈b,l∈a∨l.Vol=v
theorem Mo.refl (v:Int) (a:List aR):Mo v a a:=⟨λ_ h=>h,λ_ h=>.inl h⟩
theorem Mo.trans {v:Int} {a b c:List aR} (h:Mo v a b) (k:Mo v b c):Mo v a c:=⟨λl hl=>k.1 l (h.1 l hl),λl hl=>by
 rcases k.2 l hl with h1 | h1
 ·exact h.2 l h1
 ·exact .inr h1⟩
theorem Mo.put (a:List aR) (x:aR):Mo x.Vol a (fR a x):=⟨λl hl=>jW.2 (.inl hl),λl hl=>by
 rcases jW.1 hl with h | h
 ·exact .inl h
 ·exact .inr (by rw[h])⟩
def PS (v:Int) (l:List aR):Prop:=∃x∈l,x.Vol=v
theorem PS.mo {v:Int} {a b:List aR} (h:PS v a) (k:Mo v a b):PS v b:=by
 obtain⟨x,hx,e⟩:=h
 exact⟨x,k.1 x hx,e⟩
structure Fk (v:Int) (g:aB→aB):Prop where
 i:∀y,(g y).Id=y.Id
 l:∀y,Mo v y.Locs (g y).Locs
structure Fs (v:Int) (f:aH→aH):Prop where
 i:∀y,(f y).Seq=y.Seq∧(f y).Man=y.Man
 l:∀y,Mo v y.Locs (f y).Locs
structure Fe (v:Int) (f:aT→aT):Prop where
 i:∀y,(f y).Seq=y.Seq∧(f y).Of=y.Of
 l:∀y,Mo v y.Locs (f y).Locs
theorem Fk.comp {v:Int} {f g:aB→aB} (h:Fk v f) (k:Fk v g):Fk v (g ∘ f):=⟨λy=>(k.i _).trans (h.i y),λy=>(h.l y).trans (k.l _)⟩
theorem Fs.comp {v:Int} {f g:aH→aH} (h:Fs v f) (k:Fs v g):Fs v (g ∘ f):=⟨λy=>⟨(k.i _).1.trans (h.i y).1,(k.i _).2.trans (h.i y).2⟩,λy=>(h.l y).trans (k.l _)⟩
theorem Fe.comp {v:Int} {f g:aT→aT} (h:Fe v f) (k:Fe v g):Fe v (g ∘ f):=⟨λy=>⟨(k.i _).1.trans (h.i y).1,(k.i _).2.trans (h.i y).2⟩,λy=>(h.l y).trans (k.l _)⟩
theorem aC6 {i:aE} {a:aR}:Fk a.Vol (pE i a):=⟨qA i a,λy=>by
 unfold pE
 split
 ·exact Mo.put _ a
 ·exact Mo.refl _ _⟩
theorem T5 {v p:Int} {l:List aE}:Fk v (dP p l):=⟨uH p l,λy=>by
 have:(dP p l y).Locs=y.Locs:=by
  unfold dP
  induction l generalizing y with
  | nil=>rfl
  | cons i l ih=>
   rw[List.foldl_cons,ih]
   unfold qN
   split <;> rfl
 rw[this]
 exact Mo.refl _ _⟩
theorem T6 {i:aE} {a:aR}:Fs a.Vol (wW i a):=⟨oY i a,λy=>by
 unfold wW
 split
 ·exact Mo.put _ a
 ·exact Mo.refl _ _⟩
def T7 (i:aE) (a:aR) (s:aT):aT:=if i.Kind=3∧s.Seq=i.Seq then { s with Locs:=fR s.Locs a} else s
theorem PT {i:aE} {a:aR}:Fe a.Vol (T7 i a):=⟨λy=>by unfold T7; split <;> exact⟨rfl,rfl⟩,λy=>by
 unfold T7
 split
 ·exact Mo.put _ a
 ·exact Mo.refl _ _⟩
theorem FL {l:List aT} {i:aE} {a:aR} (h:l.Pairwise λy x=>y.Seq < x.Seq) (k:i.Kind=3) (hz:∃z∈l,z.Seq=i.Seq):mC l i a=l.map (T7 i a):=by
 obtain⟨z,hz,e⟩:=hz
 obtain⟨p,hp,rfl⟩:=List.getElem_of_mem hz
 have hx:l[p]? =some l[p]:=List.getElem?_eq_getElem hp
 obtain⟨s1, -,s3⟩:=yW h (Nat.le_of_lt hp) (q:=i.Seq) (λj x hj hjp=>by
  have:=KD h hj hx hjp
  omega) (λx hx'=>by rw[hx] at hx'; cases hx'; omega)
 obtain⟨f1,f2⟩:=s3 _ hx e
 unfold mC vO
 rw[f2,s1,f1]
 have:=oX (λy:aT=>y.Seq=i.Seq) (λy=> { y with Locs:=fR y.Locs a}) hx e (λy hy e2=>by
  obtain⟨j,hj,rfl⟩:=List.getElem_of_mem hy
  simp only[List.length_take] at hj
  rw[List.getElem_take] at e2
  have:=KD h (List.getElem?_eq_getElem (show j < l.length by omega)) hx (by omega)
  omega) (λy hy e2=>by
  obtain⟨j,hj,rfl⟩:=List.getElem_of_mem hy
  simp only[List.length_drop] at hj
  rw[List.getElem_drop] at e2
  have:=KD h hx (List.getElem?_eq_getElem (show p+1+j < l.length by omega)) (by omega)
  omega)
 rw[List.set_eq_take_append_cons_drop,if_pos hp] at this
 refine this.trans (List.map_congr_left λy _=> ?_)
 unfold T7
 simp only[k,true_and]
def aC7 (c:aA) (i:aE):Prop:=(i.Kind=1→kF c.Chunks i.Id=true)∧(i.Kind=2→c.Snaps.any (λs=>s.Seq==i.Seq)=true)∧(i.Kind=3→∃z∈c.Exps,z.Seq=i.Seq∧z.Of=i.Of)
theorem FM {v f:Int} {c:aA} (hp:c.Exps.Pairwise λy x=>y.Seq < x.Seq):∀l:List aE,(∀i∈l,i.Kind=3→∃z∈c.Exps,z.Seq=i.Seq)→(∀i∈l,i.Kind=3→i.Seq < c.Seq)→
    (gU v f c l).Seq=c.Seq∧(∃g,Fk v g∧(gU v f c l).Chunks=c.Chunks.map g)∧(∃g,Fs v g∧(gU v f c l).Snaps=c.Snaps.map g)∧∃g,Fe v g∧(gU v f c l).Exps=c.Exps.map g:=kQ
  (λ_ _=>⟨rfl,⟨id,⟨λ_=>rfl,λ_=>Mo.refl _ _⟩,by simp[gU]⟩,⟨id,⟨λ_=>⟨rfl,rfl⟩,λ_=>Mo.refl _ _⟩,by simp[gU]⟩,⟨id,⟨λ_=>⟨rfl,rfl⟩,λ_=>Mo.refl _ _⟩,by simp[gU]⟩⟩)
  λl i ih h1 h2=>by
    obtain⟨q,⟨g,hg,eg⟩,⟨f',hf,ef⟩,x,hx,ex⟩:=ih (λj hj=>h1 j (List.mem_append_left _ hj)) (λj hj=>h2 j (List.mem_append_left _ hj))
    rw[kP]
    refine⟨?_,⟨pE i (jO v f i) ∘ g,hg.comp (aC6 (a:=jO v f i)), ?_⟩,⟨wW i (jO v f i) ∘ f',hf.comp (T6 (a:=jO v f i)), ?_⟩,T7 i (jO v f i) ∘ x,hx.comp (PT (a:=jO v f i)), ?_⟩
    · show (if i.Kind=3 then max (gU v f c l).Seq (i.Seq+1) else (gU v f c l).Seq)=_
      split
      · rename_i k
        have:=h2 i (by simp) k
        omega
      · exact q
    · show (gU v f c l).Chunks.map _=_
      rw[eg,List.map_map]
    · show (gU v f c l).Snaps.map _=_
      rw[ef,List.map_map]
    · show (if i.Kind=3 then mC (gU v f c l).Exps i (jO v f i) else (gU v f c l).Exps)=_
      split
      · rename_i k
        obtain⟨z,hz,e⟩:=h1 i (by simp) k
        rw[FL (by rw[ex]; exact List.pairwise_map.2 (hp.imp fun {a b} h=>by rw[(hx.i a).1,(hx.i b).1]; exact h)) k ⟨x z,by rw[ex]; exact List.mem_map_of_mem hz,by rw[(hx.i z).1,e]⟩,ex,List.map_map]
      · rename_i k
        rw[ex,← List.map_map,kA (f:=T7 i (jO v f i)) λy _=>if_neg λh=>k h.1]
theorem PU {v f:Int} {c:aA}:∀l:List aE,∀i∈l,i.Kind=2→∀y∈(gU v f c l).Snaps,y.Seq=i.Seq→PS v y.Locs:=kQ (λi hi=>by cases hi) λl j ih i hi k y hy e=>by
 rw[kP] at hy
 obtain⟨z,hz,rfl⟩:=List.mem_map.1 hy
 rw[(oY _ _ _).1] at e
 rcases List.mem_append.1 hi with h | h
 ·exact(ih i h k z hz e).mo ((T6 (i:=j) (a:=jO v f j)).l z)
 ·rw[List.mem_singleton.1 h] at e k
  unfold wW
  rw[if_pos ⟨k,e⟩]
  exact⟨_,jW.2 (.inr rfl),rfl⟩
theorem PW {v f:Int} {c:aA} (hp:c.Exps.Pairwise λy x=>y.Seq < x.Seq):∀l:List aE,(∀i∈l,i.Kind=3→∃z∈c.Exps,z.Seq=i.Seq)→(∀i∈l,i.Kind=3→i.Seq < c.Seq)→∀i∈l,i.Kind=3→∀y∈(gU v f c l).Exps,y.Seq=i.Seq→PS v y.Locs:=kQ (λ_ _ i hi=>by cases hi) λl j ih h1 h2 i hi k y hy e=>by
 obtain⟨-, -, -,x,hx,ex⟩:=FM (v:=v) (f:=f) hp l (λj hj=>h1 j (List.mem_append_left _ hj)) (λj hj=>h2 j (List.mem_append_left _ hj))
 have ih:=ih (λj hj=>h1 j (List.mem_append_left _ hj)) (λj hj=>h2 j (List.mem_append_left _ hj))
 rw[kP] at hy
 have hy:y∈(if j.Kind=3 then mC (gU v f c l).Exps j (jO v f j) else (gU v f c l).Exps):=hy
 split at hy
 ·rename_i k3
  obtain⟨z,hz,ez⟩:=h1 j (by simp) k3
  rw[FL (by rw[ex]; exact List.pairwise_map.2 (hp.imp fun {a b} h=>by rw[(hx.i a).1,(hx.i b).1]; exact h)) k3 ⟨x z,by rw[ex]; exact List.mem_map_of_mem hz,by rw[(hx.i z).1,ez]⟩] at hy
  obtain⟨w,hw,rfl⟩:=List.mem_map.1 hy
  rw[((PT (i:=j) (a:=jO v f j)).i w).1] at e
  rcases List.mem_append.1 hi with h | h
  ·exact(ih i h k w hw e).mo ((PT (i:=j) (a:=jO v f j)).l w)
  ·rw[List.mem_singleton.1 h] at e
   unfold T7
   rw[if_pos ⟨k3,e⟩]
   exact⟨_,jW.2 (.inr rfl),rfl⟩
 ·rename_i k3
  rcases List.mem_append.1 hi with h | h
  ·exact ih i h k y hy e
  ·rw[List.mem_singleton.1 h] at k
   exact absurd k k3
structure Xt (v:Int) (n:Nat) (c e:aA) (S:List aE):Prop where
 sm:Sm e
 gd:Gd e
 bd:Bd n e
 q:e.Seq=c.Seq
 k:∃g,Fk v g∧e.Chunks=c.Chunks.map g
 s:∃g,Fs v g∧e.Snaps=c.Snaps.map g
 x:∃g,Fe v g∧e.Exps=c.Exps.map g
 wl:e.Vols.length=c.Vols.length
 wp:∀j:Nat,(e.Vols[j]?).map (·.Pool)=(c.Vols[j]?).map (·.Pool)
 wo:∀j:Nat,j≠v.toNat→e.Vols[j]? =c.Vols[j]?
 wv:∃x,e.Vols[v.toNat]? =some x∧x.State≠3
 gk:∀i∈S,i.Kind=1→∀y∈e.Chunks,y.Id=i.Id→PS v y.Locs
 gs:∀i∈S,i.Kind=2→∀y∈e.Snaps,y.Seq=i.Seq→PS v y.Locs
 ge:∀i∈S,i.Kind=3→∀y∈e.Exps,y.Seq=i.Seq→PS v y.Locs
theorem Xt.init {v:Int} {n:Nat} {c:aA} (h:Sm c) (G:Gd c) (B:Bd n c) (hx:∃x,c.Vols[v.toNat]? =some x∧x.State≠3):Xt v n c c []:=
 ⟨h,G,B,rfl,⟨id,⟨λ_=>rfl,λ_=>Mo.refl _ _⟩,by simp⟩,⟨id,⟨λ_=>⟨rfl,rfl⟩,λ_=>Mo.refl _ _⟩,by simp⟩,⟨id,⟨λ_=>⟨rfl,rfl⟩,λ_=>Mo.refl _ _⟩,by simp⟩,rfl,λ_=>rfl,λ_ _=>rfl,hx,λ_ h=>(by cases h),λ_ h=>(by cases h),λ_ h=>(by cases h)⟩
structure Row (c:aA) (l:List aE):Prop where
 n:0 < l.length∧l.length≤64
 it:∀i∈l,mF i.Id∧(0≤i.Seq∧i.Seq≤1073741824)∧gI i.Of∧1≤i.Kind∧i.Kind≤3
 h:∀i∈l,aC7 c i
 u:l.Pairwise Un
def pF (v:Int) (l:List aE):aV:= { Kind:=3,Snap:= { Seq:=0,Man:= { Name:=ByteArray.empty,Parts:= []},Locs:= []},Chunks:= [],Seq:=0,Vol:=v,Items:=iC 0 l}
theorem Xt.step {F:Nat} {v:Int} {n:Nat} {c e:aA} {S l:List aE} (hF:1000≤F) (G:Gd c) (X:Xt v n c e S) (hn:n≤190) (hv:0≤v) (gv:gI v) (R:Row c l):
    ∃e',RQ F e (pF v l)=some (e',0)∧Xt v (n+1) c e' (S++l):=by
  obtain⟨x,hx,hs⟩:=X.wv
  obtain⟨gk,hgk,egk⟩:=X.k
  obtain⟨gs,hgs,egs⟩:=X.s
  obtain⟨gx,hgx,egx⟩:=X.x
  have hq:=X.q
  have bq:=X.bd.q
  have e3:∀i∈iC 0 l,i.Kind=3→(∃z∈e.Exps,z.Seq=i.Seq∧z.Of=i.Of)∧0≤i.Of∧i.Of < i.Seq∧i.Seq < e.Seq:=λi hi k=>by
    obtain⟨j,hj,a,b,s,o, -⟩:=mZ i hi
    obtain⟨z,hz,z1,z2⟩:=(R.h j hj).2.2 (by omega)
    have:=G.eq z hz
    simp only[fF,Bool.and_eq_true,decide_eq_true_eq] at this
    refine⟨⟨gx z,by rw[egx]; exact List.mem_map_of_mem hz,by rw[(hgx.i z).1,z1,s],by rw[(hgx.i z).2,z2,o]⟩,by omega,by omega,by omega⟩
  have W:Wok n e (pF v l) x:=by
    refine⟨⟨by show (iC 0 l).length≤64; rw[uI]; exact R.n.2,λi hi=> ?_⟩,I7 R.u,hx,hv,gv, ?_,λi hi=> ?_,λi hi=> ?_,λi hi k=> ?_⟩
    · obtain⟨j,hj,a,b,s,o,o1,o2,o3⟩:=mZ i hi
      have:=R.it j hj
      have hl:=R.n.2
      rw[b,s,o,o3]
      exact⟨this.1,this.2.1,this.2.2.1,(show gI i.Off from⟨by omega,by omega⟩),(show gI 20 from⟨by decide,by decide⟩)⟩
    · have hne:iC 0 l≠ []:=λh=>by
        have:=uI l 0
        rw[h] at this
        have:=R.n.1
        simp at*; omega
      have hany:(iC 0 l).any (λi=>decide (i.Kind < 1) || decide (3 < i.Kind))=false:=List.any_eq_false.2 λi hi=>by
        obtain⟨j,hj,a, -⟩:=mZ i hi
        have:=(R.it j hj).2.2.2
        simp; omega
      show (!(x.State==3) && !(iC 0 l).isEmpty && !_)=true
      rw[show (pF v l).Items=iC 0 l from rfl,hany]
      simp[hs,hne]
    · obtain⟨j,hj,a,b,s, -⟩:=mZ i hi
      have hh:=R.h j hj
      unfold jS
      split
      · rename_i k
        rw[egk,n7 hgk.i,b]
        exact hh.1 (by omega)
      · split
        · rename_i k
          have:=hh.2.1 (by omega)
          rw[egs,List.any_map,s]
          rw[show ((λt:aH=>t.Seq==j.Seq) ∘ gs)=λt=>t.Seq==j.Seq from funext λt=>by simp[(hgs.i t).1]]
          exact this
        · rfl
    · obtain⟨j,hj, -, -, -, -,o1,o2,o3⟩:=mZ i hi
      have hl:=R.n.2
      omega
    · have:=e3 i hi k
      omega
  obtain⟨GE,BE⟩:=W9 X.sm X.gd X.bd hn W
  have SE:=C9 X.sm X.gd W.w gv hx W.kd
  have hap:=OO hF X.sm X.gd rfl W.w gv hv hx
  rw[if_pos W.k,if_pos (List.all_eq_true.2 λi hi=>W.p i hi),if_pos (kN.2 GE)] at hap
  refine⟨jA e (pF v l) x,hap, ?_⟩
  obtain⟨o1,o2,o3⟩:=PA (c:=e) (d:=pF v l) (x:=x)
  obtain⟨m1,⟨fk,hfk,efk⟩,⟨fs,hfs,efs⟩,fx,hfx,efx⟩:=FM (v:=v) (f:=x.Files+1) (c:=ws e v x) X.gd.eo (iC 0 l) (λi hi k=>by obtain⟨⟨z,hz,h1, -⟩, -⟩:=e3 i hi k; exact⟨z,hz,h1⟩) (λi hi k=>(e3 i hi k).2.2.2)
  have efs:(gU v (x.Files+1) (ws e v x) (iC 0 l)).Snaps=e.Snaps.map fs:=efs
  have efk:(gU v (x.Files+1) (ws e v x) (iC 0 l)).Chunks=e.Chunks.map fk:=efk
  have efx:(gU v (x.Files+1) (ws e v x) (iC 0 l)).Exps=e.Exps.map fx:=efx
  have m1:(gU v (x.Files+1) (ws e v x) (iC 0 l)).Seq=e.Seq:=m1
  have hng:∀s∈(gU v (x.Files+1) (ws e v x) (iC 0 l)).Snaps,i6 (iC 0 l) s=false:=λs hs=>by
    rw[efs] at hs
    obtain⟨t,ht,rfl⟩:=List.mem_map.1 hs
    unfold i6
    rw[List.any_eq_false]
    intro i hi
    by_cases k:i.Kind=3
    · obtain⟨⟨z,hz,z1,z2⟩, -⟩:=e3 i hi k
      have:=X.gd.ex z hz t ht
      rw[(hfs.i t).1]
      simp[k]; omega
    · simp[k]
  have es:(jA e (pF v l) x).Snaps=e.Snaps.map fs:=by
    rw[o3]
    show ((gU v (x.Files+1) (ws e v x) (iC 0 l)).Snaps.filter λs=> !i6 (iC 0 l) s)=_
    rw[List.filter_eq_self.2 λs hs=>by rw[hng s hs]; rfl,efs]
  have hw1:iP e (pF v l) x= { gU v (x.Files+1) (ws e v x) (iC 0 l) with Chunks:=(gU v (x.Files+1) (ws e v x) (iC 0 l)).Chunks.map (dP x.Pool (iC 0 l))}:=nJ _ _ _ _ _
  have ek:(jA e (pF v l) x).Chunks=e.Chunks.map (dP x.Pool (iC 0 l) ∘ fk):=by
    have h1:(iP e (pF v l) x).Chunks=e.Chunks.map (dP x.Pool (iC 0 l) ∘ fk):=by rw[hw1,← List.map_map,← efk]
    have h2:(rO e (pF v l) x).Snaps=(iP e (pF v l) x).Snaps:=by
      show (iP e (pF v l) x).Snaps.filter _=_
      have h3:(iP e (pF v l) x).Snaps=(gU v (x.Files+1) (ws e v x) (iC 0 l)).Snaps:=by rw[hw1]
      rw[List.filter_eq_self.2 λs hs=>by rw[h3] at hs; rw[show (pF v l).Items=iC 0 l from rfl,hng s hs]; rfl]
    unfold jA
    rw[h2,if_neg (Nat.lt_irrefl _)]
    exact h1
  have ex:(jA e (pF v l) x).Exps=e.Exps.map fx:=by rw[o2]; exact efx
  have ev:(jA e (pF v l) x).Vols=e.Vols.set v.toNat { x with State:=2,Files:=x.Files+1}:=by
    have:(iP e (pF v l) x).Vols=e.Vols.set v.toNat { x with State:=2,Files:=x.Files+1}:=n8 _ _ _ _ _
    unfold jA
    split <;> exact this
  have hl:=(List.getElem?_eq_some_iff.1 hx).1
  have ak:Fk v (dP x.Pool (iC 0 l) ∘ fk):=hfk.comp T5
  refine⟨SE,GE,BE,by rw[o1]; exact m1.trans hq,⟨_,hgk.comp ak,by rw[ek,egk,List.map_map]⟩,⟨_,hgs.comp hfs,by rw[es,egs,List.map_map]⟩,⟨_,hgx.comp hfx,by rw[ex,egx,List.map_map]⟩,by rw[ev,List.length_set]; exact X.wl,λj=> ?_,λj hj=> ?_,⟨{ x with State:=2,Files:=x.Files+1},by rw[ev,List.getElem?_set_self hl],by show (2:Int)≠3; decide⟩, ?_, ?_, ?_⟩
  · rw[ev,← X.wp j]
    by_cases hj:j=v.toNat
    · subst hj
      rw[List.getElem?_set_self hl,hx]; rfl
    · rw[List.getElem?_set_ne λh=>hj h.symm]
  · rw[ev,List.getElem?_set_ne λh=>hj h.symm]
    exact X.wo j hj
  · intro i hi k y hy e1
    rw[ek] at hy
    obtain⟨z,hz,rfl⟩:=List.mem_map.1 hy
    rw[ak.i z] at e1
    rcases List.mem_append.1 hi with h | h
    · exact(X.gk i h k z hz e1).mo (ak.l z)
    · obtain⟨j,hj,a,b, -⟩:=uJ (i:=0) i h
      have:=IZ (v:=v) (f:=x.Files+1) (c:=ws e v x) (iC 0 l) j hj (by omega) (fk z) (by rw[efk]; exact List.mem_map_of_mem hz) (by rw[hfk.i z,e1,b])
      exact PS.mo ⟨_,this,rfl⟩ ((T5 (v:=v) (p:=x.Pool) (l:=iC 0 l)).l (fk z))
  · intro i hi k y hy e1
    rw[es] at hy
    obtain⟨z,hz,rfl⟩:=List.mem_map.1 hy
    rw[(hfs.i z).1] at e1
    rcases List.mem_append.1 hi with h | h
    · exact(X.gs i h k z hz e1).mo (hfs.l z)
    · obtain⟨j,hj,a,b,s, -⟩:=uJ (i:=0) i h
      exact PU (v:=v) (f:=x.Files+1) (c:=ws e v x) (iC 0 l) j hj (by omega) (fs z) (by rw[efs]; exact List.mem_map_of_mem hz) (by rw[(hfs.i z).1,e1,s])
  · intro i hi k y hy e1
    rw[ex] at hy
    obtain⟨z,hz,rfl⟩:=List.mem_map.1 hy
    rw[(hfx.i z).1] at e1
    rcases List.mem_append.1 hi with h | h
    · exact(X.ge i h k z hz e1).mo (hfx.l z)
    · obtain⟨j,hj,a,b,s, -⟩:=uJ (i:=0) i h
      exact PW (v:=v) (f:=x.Files+1) (c:=ws e v x) X.gd.eo (iC 0 l) (λi hi k=>by obtain⟨⟨z,hz,h1, -⟩, -⟩:=e3 i hi k; exact⟨z,hz,h1⟩) (λi hi k=>(e3 i hi k).2.2.2) j hj (by omega) (fx z) (by rw[efx]; exact List.mem_map_of_mem hz) (by rw[(hfx.i z).1,e1,s])
open Go.Vm
theorem SY {c:aA} (G:Gd c) (g:List aR→Bool→Bool):(oO c g).Pairwise Un:=by
 unfold oO
 refine List.pairwise_append.2 ⟨List.pairwise_append.2 ⟨List.pairwise_map.2 ((G.co.filter _).imp fun {a b} h=> ?_),List.pairwise_map.2 ((G.so.filter _).imp fun {a b} h=> ?_),λx hx y hy=> ?_⟩,List.pairwise_map.2 ((G.eo.filter _).imp fun {a b} h=> ?_),λx hx y hy=> ?_⟩
 ·rintro⟨-,k, -⟩
  have k:a.Id=b.Id:=k rfl
  rw[k] at h; omega
 ·rintro⟨-, -,k⟩
  have k:a.Seq=b.Seq:=k (by decide:(2:Int)≠1)
  omega
 ·obtain⟨a, -,rfl⟩:=List.mem_map.1 hx
  obtain⟨b, -,rfl⟩:=List.mem_map.1 hy
  rintro⟨k, -⟩
  exact absurd k (by decide:¬(1:Int)=2)
 ·rintro⟨-, -,k⟩
  have k:a.Seq=b.Seq:=k (by decide:(3:Int)≠1)
  omega
 ·obtain⟨b, -,rfl⟩:=List.mem_map.1 hy
  rcases List.mem_append.1 hx with hx | hx
  ·obtain⟨a, -,rfl⟩:=List.mem_map.1 hx
   rintro⟨k, -⟩
   exact absurd k (by decide:¬(1:Int)=3)
  ·obtain⟨a, -,rfl⟩:=List.mem_map.1 hx
   rintro⟨k, -⟩
   exact absurd k (by decide:¬(2:Int)=3)
theorem FN {c:aA} {g:List aR→Bool→Bool} {i:aE} (h:i∈oO c g):(∃x∈c.Chunks,i=P2 x)∨(∃x∈c.Snaps,i=P3 x)∨∃x∈c.Exps,i=RE x:=by
 unfold oO at h
 rcases List.mem_append.1 h with h | h
 ·rcases List.mem_append.1 h with h | h
  ·obtain⟨a,ha,rfl⟩:=List.mem_map.1 h
   exact .inl ⟨a,(List.mem_filter.1 ha).1,rfl⟩
  ·obtain⟨a,ha,rfl⟩:=List.mem_map.1 h
   exact .inr (.inl ⟨a,(List.mem_filter.1 ha).1,rfl⟩)
 ·obtain⟨a,ha,rfl⟩:=List.mem_map.1 h
  exact .inr (.inr ⟨a,(List.mem_filter.1 ha).1,rfl⟩)
theorem XE {c:aA} {g:List aR→Bool→Bool} {l:List aE} (h:Sm c) (G:Gd c) (hs:l.Sublist (oO c g)) (h0:0 < l.length) (h1:l.length≤64):Row c l:=by
 have hq:=G.q
 simp only[fF,Bool.and_eq_true,decide_eq_true_eq] at hq
 refine⟨⟨h0,h1⟩,λi hi=> ?_,λi hi=> ?_,(SY G g).sublist hs⟩
 ·rcases FN (hs.subset hi) with⟨x,hx,rfl⟩ | ⟨x,hx,rfl⟩ | ⟨x,hx,rfl⟩
  ·exact⟨(h.g.2.2.1 x hx).1,(show (0:Int)≤0∧(0:Int)≤1073741824 by decide),(show gI 0 from⟨by decide,by decide⟩),(show (1:Int)≤1∧(1:Int)≤3 by decide)⟩
  ·have:=G.sq x hx
   simp only[fF,Bool.and_eq_true,decide_eq_true_eq] at this
   exact⟨E8,(show 0≤x.Seq∧x.Seq≤1073741824 by omega),(show gI 0 from⟨by decide,by decide⟩),(show (1:Int)≤2∧(2:Int)≤3 by decide)⟩
  ·have:=G.eq x hx
   simp only[fF,Bool.and_eq_true,decide_eq_true_eq] at this
   exact⟨E8,(show 0≤x.Seq∧x.Seq≤1073741824 by omega),(h.g.2.2.2.1 x hx).2.1,(show (1:Int)≤3∧(3:Int)≤3 by decide)⟩
 ·rcases FN (hs.subset hi) with⟨x,hx,rfl⟩ | ⟨x,hx,rfl⟩ | ⟨x,hx,rfl⟩
  ·exact⟨λ_=>List.any_eq_true.2 ⟨x,hx,decide_eq_true rfl⟩,λk=>absurd k (by show ¬(1:Int)=2; decide),λk=>absurd k (by show ¬(1:Int)=3; decide)⟩
  ·exact⟨λk=>absurd k (by show ¬(2:Int)=1; decide),λ_=>List.any_eq_true.2 ⟨x,hx,beq_iff_eq.2 rfl⟩,λk=>absurd k (by show ¬(2:Int)=3; decide)⟩
  ·exact⟨λk=>absurd k (by show ¬(3:Int)=1; decide),λk=>absurd k (by show ¬(3:Int)=2; decide),λ_=>⟨x,hx,rfl,rfl⟩⟩
theorem KL {F:Nat} {v:Int} {n:Nat} {c:aA} {L:List (List aE)} {body:aA×Int→Option (Lp (aA×Int) Bool)} (hF:1000≤F) (G:Gd c) (X:Xt v n c c []) (hn:n+L.length≤190) (hv:0≤v) (gv:gI v) (hR:∀l∈L,Row c l)
    (hb:∀(e e':aA) (i:Nat) (l:List aE),L[i]? =some l→i < L.length→XY F l=some (iC 0 l)→RQ F e (pF v l)=some (e',0)→body (e,(i:Int))=some (.go (e',((i+1:Nat):Int)))) (he:∀e,body (e,(L.length:Int))=some (.brk (e,(L.length:Int)))):
    ∃e,aS body F (c,0)=some (.brk (e,(L.length:Int)))∧Xt v (n+L.length) c e L.flatten:=by
  obtain⟨⟨e,j⟩,⟨h1,h2⟩,h3⟩:=mS (body:=body) (I:=λi s=>s.2=(i:Int)∧Xt v (n+i) c s.1 (L.take i).flatten) (n:=L.length) (λi s hi hI=>by
    obtain⟨e,j⟩:=s
    obtain⟨rfl,X⟩:=hI
    have hx:L[i]? =some L[i]:=List.getElem?_eq_getElem hi
    have R:=hR _ (List.getElem_mem hi)
    obtain⟨e',h1,X'⟩:=X.step hF G (by omega) hv gv R
    refine⟨(e',((i+1:Nat):Int)),hb e e' i _ hx hi (n30 hF (by have:=R.n.2; omega)) h1,rfl, ?_⟩
    rw[List.take_succ_eq_append_getElem hi,List.flatten_append,List.flatten_singleton]
    exact X') (λs hs=>by
    obtain⟨e,j⟩:=s
    obtain⟨rfl, -⟩:=hs
    exact he e) F 0 (c,0) (Nat.zero_le _) (by omega) ⟨rfl,by simpa using X⟩
  simp only at h1
  subst h1
  rw[List.take_length] at h2
  exact⟨e,h3,h2⟩
section
variable {v:Int} {n:Nat} {c e:aA} {S:List aE}
theorem Xt.inP (X:Xt v n c e S) (p:Int) (x:aR):Go.Proofs.YtbbifdfldpfphaaGreat.inP e p x=Go.Proofs.YtbbifdfldpfphaaGreat.inP c p x:=by
 unfold Go.Proofs.YtbbifdfldpfphaaGreat.inP
 rw[X.wl]
 have:=X.wp x.Vol.toNat
 congr 1
 revert this
 cases e.Vols[x.Vol.toNat]? <;> cases c.Vols[x.Vol.toNat]? <;> simp
 intro h; rw[h]
theorem Xt.used (X:Xt v n c e S) (d:bH):jH e d=jH c d:=by
 obtain⟨g,hg,eg⟩:=X.s
 unfold jH
 rw[eg,List.any_map]
 refine congrArg (λf=>c.Snaps.any f) (funext λs=> ?_)
 simp only[Function.comp,(hg.i s).2]
theorem Xt.any0 (X:Xt v n c e S) {a b:List aR} {p q:Int} (m:Mo v a b) (hq:(c.Vols[v.toNat]?).map (·.Pool)=some q) (hp:q≠p):b.any (Go.Proofs.YtbbifdfldpfphaaGreat.inP e p)=a.any (Go.Proofs.YtbbifdfldpfphaaGreat.inP c p):=by
 rw[Bool.eq_iff_iff,List.any_eq_true,List.any_eq_true]
 constructor
 ·rintro⟨x,hx,h⟩
  rw[X.inP] at h
  rcases m.2 x hx with h1 | h1
  ·exact⟨x,h1,h⟩
  ·exfalso
   unfold Go.Proofs.YtbbifdfldpfphaaGreat.inP at h
   rw[h1] at h
   revert h hq
   cases c.Vols[v.toNat]? <;> simp
   intro h1 h2 h3
   exact hp (h1.symm.trans h3)
 ·rintro⟨x,hx,h⟩
  exact⟨x,m.1 x hx,by rw[X.inP]; exact h⟩
theorem Xt.any1 (X:Xt v n c e S) {b:List aR} {p:Int} (hv:0≤v) (hq:(c.Vols[v.toNat]?).map (·.Pool)=some p) (h:PS v b):b.any (Go.Proofs.YtbbifdfldpfphaaGreat.inP e p)=true:=by
 obtain⟨x,hx,rfl⟩:=h
 refine List.any_eq_true.2 ⟨x,hx, ?_⟩
 rw[X.inP]
 unfold Go.Proofs.YtbbifdfldpfphaaGreat.inP fF
 cases h:c.Vols[x.Vol.toNat]? with
 | none=>rw[h] at hq; cases hq
 | some w=>
  rw[h] at hq
  have hl:=(List.getElem?_eq_some_iff.1 h).1
  have:w.Pool=p:=by simpa using hq
  simp[this]; omega
theorem Xt.anyM (X:Xt v n c e S) {a b:List aR} {p:Int} (m:Mo v a b) (h:a.any (Go.Proofs.YtbbifdfldpfphaaGreat.inP c p)=true):b.any (Go.Proofs.YtbbifdfldpfphaaGreat.inP e p)=true:=by
 obtain⟨x,hx,h⟩:=List.any_eq_true.1 h
 exact List.any_eq_true.2 ⟨x,m.1 x hx,by rw[X.inP]; exact h⟩
theorem PX {g:List aR→Bool→Bool} (h1:∀x∈e.Chunks,g x.Locs (jH e x.Id)=false) (h2:∀x∈e.Snaps,g x.Locs true=false) (h3:∀x∈e.Exps,g x.Locs true=false):oO e g= []:=by
 unfold oO
 rw[List.filter_eq_nil_iff.2 λx hx=>by rw[h1 x hx]; decide,List.filter_eq_nil_iff.2 λx hx=>by rw[h2 x hx]; decide,List.filter_eq_nil_iff.2 λx hx=>by rw[h3 x hx]; decide]
 rfl
theorem Xt.same (X:Xt v n c e S) {g g':List aR→Bool→Bool} (hg:∀a b u,Mo v a b→g' b u=g a u):oO e g'=oO c g:=by
 obtain⟨gk,hgk,egk⟩:=X.k
 obtain⟨gs,hgs,egs⟩:=X.s
 obtain⟨gx,hgx,egx⟩:=X.x
 unfold oO
 rw[egk,egs,egx,List.filter_map,List.filter_map,List.filter_map,List.map_map,List.map_map,List.map_map]
 congr 1
 ·congr 1
  ·rw[show (P2 ∘ gk)=P2 from funext λy=>by simp[P2,hgk.i]]
   refine congrArg (List.map P2) (List.filter_congr λy _=> ?_)
   simp only[Function.comp]
   rw[hgk.i,X.used]
   exact hg _ _ _ (hgk.l y)
  ·rw[show (P3 ∘ gs)=P3 from funext λy=>by simp[P3,(hgs.i y).1]]
   exact congrArg (List.map P3) (List.filter_congr λy _=>hg _ _ _ (hgs.l y))
 ·rw[show (RE ∘ gx)=RE from funext λy=>by simp[RE,(hgx.i y).1,(hgx.i y).2]]
  exact congrArg (List.map RE) (List.filter_congr λy _=>hg _ _ _ (hgx.l y))
theorem Xt.none (X:Xt v n c e S) {g g':List aR→Bool→Bool} (hS:∀i∈oO c g,i∈S) (h1:∀a b u,Mo v a b→g a u=false→g' b u=false) (h2:∀b u,PS v b→g' b u=false):oO e g'= []:=by
 obtain⟨gk,hgk,egk⟩:=X.k
 obtain⟨gs,hgs,egs⟩:=X.s
 obtain⟨gx,hgx,egx⟩:=X.x
 refine PX (λx hx=> ?_) (λx hx=> ?_) λx hx=> ?_
 ·have hx':=hx
  rw[egk] at hx
  obtain⟨y,hy,rfl⟩:=List.mem_map.1 hx
  rw[hgk.i,X.used]
  cases h:g y.Locs (jH c y.Id) with
  | false=>exact h1 _ _ _ (hgk.l y) h
  | true=>
   refine h2 _ _ (X.gk (P2 y) (hS _ ?_) rfl _ hx' (hgk.i y))
   unfold oO
   exact List.mem_append_left _ (List.mem_append_left _ (List.mem_map_of_mem (List.mem_filter.2 ⟨hy,h⟩)))
 ·have hx':=hx
  rw[egs] at hx
  obtain⟨y,hy,rfl⟩:=List.mem_map.1 hx
  cases h:g y.Locs true with
  | false=>exact h1 _ _ _ (hgs.l y) h
  | true=>
   refine h2 _ _ (X.gs (P3 y) (hS _ ?_) rfl _ hx' (hgs.i y).1)
   unfold oO
   exact List.mem_append_left _ (List.mem_append_right _ (List.mem_map_of_mem (List.mem_filter.2 ⟨hy,h⟩)))
 ·have hx':=hx
  rw[egx] at hx
  obtain⟨y,hy,rfl⟩:=List.mem_map.1 hx
  cases h:g y.Locs true with
  | false=>exact h1 _ _ _ (hgx.l y) h
  | true=>
   refine h2 _ _ (X.ge (RE y) (hS _ ?_) rfl _ hx' (hgx.i y).1)
   unfold oO
   exact List.mem_append_right _ (List.mem_map_of_mem (List.mem_filter.2 ⟨hy,h⟩))
end
open Go.Vm
theorem I8 {α:Type} {k:Nat} (hk:0 < k):∀(n:Nat) (l:List α),(DF k n l).length*k≤l.length+(k - 1)
 | 0,l=>by simp[DF]
 | n+1,l=>by
  unfold DF
  split
  ·simp
  ·have:=I8 hk n (l.drop k)
   rw[List.length_cons,Nat.add_mul,Nat.one_mul]
   rw[List.length_drop] at this
   by_cases h:k≤l.length
   ·omega
   ·have e:l.drop k= []:=List.drop_eq_nil_of_le (by omega)
    rw[e]
    cases n <;> simp[DF] <;> omega
theorem vT {c:aA} {g:List aR→Bool→Bool} (G:Gd c):(oO c g).length≤408:=by
 have h1:=G.cn
 have h2:=G.sn
 have h3:=G.en
 have a1:=List.length_filter_le (λx:aB=>g x.Locs (jH c x.Id)) c.Chunks
 have a2:=List.length_filter_le (λx:aH=>g x.Locs true) c.Snaps
 have a3:=List.length_filter_le (λx:aT=>g x.Locs true) c.Exps
 unfold oO
 simp only[List.length_append,List.length_map]
 omega
theorem aC8 (c:aA) (l:List aR):P6 c 0 l= !l.any (inP c 0):=by unfold P6; simp
theorem aC9 (c:aA) (l:List aR):P6 c 1 l=(!l.any (inP c 1) && l.any (inP c 0)):=by unfold P6; simp
theorem DG {q:List Int} {l:List m7} (gq:gL gI q) (gl:gL H3 l):M4 1000 q l=some true:=by
 have hF:1000≤1000:=Nat.le_refl _
 have key:T (M4 1000 q l) λb=>b=true:=by
  unfold M4
  refine .after (.ite (λ_=>.brk (T.ite (λ_=>.some rfl) λh=>absurd rfl h)) λ_=>.bind _ (t27 hF) λb hb=>.brk (T.ite (λ_=>.some rfl) λhb0=> ?_))
  have ho:=hb (by simpa using hb0)
  refine .bind _ (t29 hF gq) λq hq=>.bind _ (aIK hF hq.1 hq.2.1 hq.2.2 gl ho) λc hc=> ?_
  obtain⟨h,hg,B⟩:=hc
  have G:=kN.1 hg
  have hvo:=h.vo
  obtain⟨⟨v,j⟩,⟨-,hv⟩,e1⟩:=mS (body:=λs:Int×Int=>zB 1000 c s.1 s.2) (I:=λi s=>s.2=(i:Int)∧(s.1= -1∨0≤s.1∧s.1≤20∧∃x,c.Vols[s.1.toNat]? =some x∧x.Pool=1∧x.State≠3)) (n:=c.Vols.length) (λi s hi hI=>by
   obtain⟨a,j⟩:=s
   obtain⟨rfl,hI⟩:=hI
   have hx:c.Vols[i]? =some c.Vols[i]:=List.getElem?_eq_getElem hi
   generalize c.Vols[i]=x at hx
   by_cases h1:x.Pool=1∧x.State≠3
   ·refine⟨((i:Int),((i+1:Nat):Int)), ?_,rfl,.inr ⟨by simp,by show (i:Int)≤20; omega,x,by simpa using hx,h1.1,h1.2⟩⟩
    unfold zB
    rw[iK (by omega)]
    simp only[aX,hx,Option.bind_some,Int.ofNat_lt,hi,decide_true,if_true,h1.1,beq_self_eq_true,bne_iff_ne.2 h1.2,aG]
   ·refine⟨(a,((i+1:Nat):Int)), ?_,rfl,hI⟩
    unfold zB
    rw[iK (by omega)]
    simp only[aX,hx,Option.bind_some,Int.ofNat_lt,hi,decide_true,if_true]
    by_cases h2:x.Pool=1
    ·have h3:x.State=3:=Classical.not_not.1 λk=>h1 ⟨h2,k⟩
     simp[h2,h3,aG]
    ·simp[h2,aG]) (λs hs=>by
   obtain⟨a,j⟩:=s
   obtain⟨rfl, -⟩:=hs
   unfold zB
   simp) 1000 0 (-1,0) (Nat.zero_le _) (by omega) ⟨rfl,.inl rfl⟩
  rw[e1,aG]
  refine T.ite (λ_=>.bindEq m39 (.some rfl)) λhn=> ?_
  obtain⟨v0,v1,w,hw,w1,w3⟩:0≤v∧v≤20∧∃x,c.Vols[v.toNat]? =some x∧x.Pool=1∧x.State≠3:=by
   rcases hv with hv | hv
   ·exact absurd (by rw[show v= -1 from hv]; rfl) hn
   ·exact hv
  have hp:(c.Vols[v.toNat]?).map (·.Pool)=some 1:=by rw[hw]; exact congrArg some w1
  refine .bindEq (by rw[m36 hF h,if_pos ⟨hg,by decide,by decide⟩]) (.bindEq (by rw[m36 hF h,if_pos ⟨hg,by decide,by decide⟩]) (.bindEq (n28 (l:=mY c 1) hF (Nat.le_trans (vT G) (by decide))) ?_))
  have hl:(mY c 1).length≤408:=vT G
  have hk:=I5 7
  have hc7:(DF (z9 7) (mY c 1).length (mY c 1)).length≤59:=by
   have:=I8 hk.1 (mY c 1).length (mY c 1)
   rw[show z9 7=7 from rfl] at this ⊢
   omega
  obtain⟨e,e2,X⟩:=KL (F:=1000) (v:=v) (n:=30) (c:=c) (L:=DF (z9 7) (mY c 1).length (mY c 1)) (body:=λs:aA×Int=>BC 1000 v (DF (z9 7) (mY c 1).length (mY c 1)) s.1 s.2) hF G (Xt.init h G B ⟨w,hw,w3⟩) (by omega) v0 ⟨by omega,by omega⟩ (λx hx=>by
   obtain⟨s1,s2,s3⟩:=I6 _ _ x hx
   exact XE h G s1 (s3 hk.1) (by omega)) (λe e' i x hx hi h1 h2=>by
   unfold BC
   have h2:RQ 1000 e { Kind:=3,Snap:= { Seq:=0,Man:= { Name:=ByteArray.empty,Parts:= []},Locs:= []},Chunks:= [],Seq:=0,Vol:=v,Items:=iC 0 x}=some (e',0):=h2
   rw[iK (by omega)]
   simp only[aX,hx,Option.bind_some,Int.ofNat_lt,hi,decide_true,if_true,h1,h2,bne_self_eq_false,Bool.false_eq_true,if_false]) (λe=>by unfold BC; simp)
  rw[FJ hk.1 _ _ (Nat.le_refl _)] at X
  rw[e2,aG]
  have n1:mY e 1= []:=X.none (g:=λl b=>b && P6 c 1 l) (λi hi=>hi) (λa b u m hu=>by
   cases u with
   | false=>rfl
   | true=>
    rw[Bool.true_and] at hu ⊢
    rw[aC9] at hu ⊢
    rw[X.any0 (p:=0) m hp (by decide)]
    cases h1:a.any (inP c 1) with
    | true=>rw[X.anyM m h1]; rfl
    | false=>
     rw[h1] at hu
     have hu:a.any (inP c 0)=false:=by simpa using hu
     rw[hu,Bool.and_false]) λb u hb=>by
   show (u && P6 e 1 b)=false
   rw[aC9,X.any1 v0 hp hb]; simp
  have n0:mY e 0=mY c 0:=X.same λa b u m=>by rw[aC8,aC8,X.any0 m hp (by decide)]
  have ge:=kN.2 X.gd
  refine .after (.bindEq (by rw[m36 hF X.sm,if_pos ⟨ge,by decide,by decide⟩,n1]) (T.ite (λ_=> ?_) λk=>absurd rfl k))
  refine .bindEq (by rw[m36 hF X.sm,if_pos ⟨ge,by decide,by decide⟩,n0]) (.bindEq (m40 (l:=mY c 0) hF (Nat.le_trans (vT G) (by decide))) (T.ite (λ_=>.bindEq m39 (.brk (.some rfl))) λk=>absurd rfl k))
 obtain⟨b,e,rfl⟩:=key
 exact e
end Go.Proofs.YtbbifdfldpfphaaGreat
