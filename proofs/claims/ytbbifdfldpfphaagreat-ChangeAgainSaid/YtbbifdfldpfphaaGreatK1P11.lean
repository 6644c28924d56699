import Derived.Test.YtbbifdfldpfphaaGreatK1P7
import Derived.Test.YtbbifdfldpfphaaGreatK1P10
import Derived.Test.YtbbifdfldpfphaaGreatK1P9
set_option linter.unusedSimpArgs false
set_option linter.unusedVariables false
set_option maxHeartbeats 4000000
set_option maxRecDepth 100000
namespace Go.Proofs.YtbbifdfldpfphaaGreat
open Go.Vm
def M8 (m:Nat) (p0:List Int) (p1:List lI) (p2:lI):Option (Bool):=
 after (if (decide (30 < (p0.length:Int)))=true then (some (.brk true)) else (UH m p1).bind λy0=>if y0=true then (some (.brk true)) else (UH m ([p2]:List lI)).bind λy1=>some (.brk y1):Option (Lp (Bool) (Bool))) λj0=>if j0=true then (some true) else (ZM m p0).bind λy2=>(ZN m y2 p1).bind λy3=>(UG m y3 p2).bind λy4=>if (!y4.2)=true then ((JF m).bind λy5=>some y5) else (zU m y3 y4.1).bind λy6=>if (y6.2 !=0)=true then ((JF m).bind λy7=>some y7) else (zU m y6.1 y4.1).bind λy8=>if (y4.1.Kind==1)=true then (after (if (y8.2==1)=true then (if ((y8.1.Vols.length:Int)==0)=true then ((JF m).bind λy9=>some (.brk y9)) else some (.brk false)) else some (.brk false):Option (Lp (Bool) (Bool))) λj1=>some j1) else if (y4.1.Kind==2)=true then (after (if (y8.2==8)=true then (if ((y8.1.Vols.length:Int)==0)=true then ((JF m).bind λy90=>some (.brk y90)) else some (.brk false)) else some (.brk false):Option (Lp (Bool) (Bool))) λj2=>some j2) else after (if (y4.1.Kind==4)=true then (some (.brk (y4.1.Kind==4))) else some (.brk (y4.1.Kind==5)):Option (Lp (Bool) (Bool))) λj3=>if j3=true then (after (if (y8.2==1)=true then (if ((y8.1.Vols.length:Int)==0)=true then ((JF m).bind λy10=>some (.brk y10)) else some (.brk false)) else some (.brk false):Option (Lp (Bool) (Bool))) λj4=>some j4) else after (if (decide (y4.1.Vol < 0))=true then (some (.brk true)) else if (decide ((y6.1.Vols.length:Int)≤y4.1.Vol))=true then (some (.brk true)) else if (y8.2==0)=true then (if (decide ((y8.1.Vols.length:Int)≤y4.1.Vol))=true then (some (.brk true)) else (ix y8.1.Vols y4.1.Vol).bind λx0=>(ix y6.1.Vols y4.1.Vol).bind λx1=>some (.brk (x0.Files !=(IntKind.wrap .i64 (x1.Files+1))))) else some (.brk false):Option (Lp (Bool) (Bool))) λj5=>if j5=true then (some false) else (JF m).bind λy11=>some y11
theorem W8 {w:Nat} {p0:List Int} {p1:List lI} {p2:lI} {o:Bool} (h:aE) (m:M8 w p0 p1 p2=some o):
 aL Tryz.prog 8 [.sl none 1 (List.map iQ p0),.sl none 5 (List.map eP p1),.agg (eP p2)] h (λr h'=>r= .sc (.bool o)∧h'=h):=by
 refine fY 138 [.tmp 6] Tryz.func8 rfl rfl rfl rfl ?_
 unfold M8 at m
 refine v (gZ rfl rfl λk2 K3=>vs (vs (fR m (σ:=Bool) (λs=> [(some k2,.obj 67 (eP p2))]) (λs=>.c 0 (.sl none 1 (List.map iQ p0)) (.c 1 (.sl none 5 (List.map eP p1)) (.c 5 (.ptr k2 0) (.c 25 (.sc (.bool s)) .nil)))) (λx m=> ?_) ?_)))
 refine v (dL IG rfl ?_)
 apply vi m <;> intro b0 m
 rw[b0]
 exact hD m
 rw[b0]
 refine vk W14 ZL m rfl rfl λ_ m=> ?_
 apply vi m <;> intro b1 m
 rw[b1]
 exact hD m
 rw[b1]
 exact vl 0 (.agg (eP p2)) R7 rfl rfl rfl (bU (eI (List.map eP ([p2]:List lI)) aBF rfl rfl rfl rfl) (vk W14 ZL m rfl rfl λ_ m=>hD m))
 rintro _ j0 m
 refine v ?_
 apply vi m <;> intro c0 m
 refine v (v ?_)
 obtain rfl:=eY m
 exact eK rfl
 refine v (v (vk W16 aEI m rfl rfl λ_ m=>vk W15 aEJ m rfl rfl λy0 m=>ve λu=>bI (gQ) u oM rfl rfl λk28 K0=>qk K0 rfl (ve λu=>aJ 0 (aF y0) u rfl rfl rfl rfl lA rfl rfl λK1=>qk K1 rfl (v (vl 0 (.agg (aF y0)) eV rfl rfl rfl (vl 1 (.agg (eP p2)) R7 rfl rfl rfl (vk W35 ZK m rfl rfl λy1 m=>ve λu=>bI (uY) u IN rfl rfl λk35 K2=>qk K2 rfl (ve λu=>aJ 0 (aD y1.1) u rfl rfl rfl rfl tK rfl rfl λK4=>qk K4 rfl (v (v ?_))))))))))
 apply vi m <;> intro c1 m
 refine v (vk UI JG m rfl rfl λ_ m=>v ?_)
 obtain rfl:=eY m
 exact eK rfl
 refine v (v (vl 1 (.agg (aF y0)) eV rfl rfl rfl (vl 0 (.agg (aD y1.1)) nF rfl rfl rfl (vk W29 TC m rfl rfl λy2 m=>ve λu=>bI (gQ) u oM rfl rfl λk48 K5=>qk K5 rfl (ve λu=>aJ 0 (aF y2.1) u rfl rfl rfl rfl lA rfl rfl λK6=>qk K6 rfl (v (v ?_)))))))
 apply vi m <;> intro c2 m
 refine v (vk UI JG m rfl rfl λ_ m=>v ?_)
 obtain rfl:=eY m
 exact eK rfl
 refine v (v (vl 0 (.agg (aF y2.1)) eV rfl rfl rfl (vl 1 (.agg (aD y1.1)) nF rfl rfl rfl (vk W29 TC m rfl rfl λy3 m=>ve λu=>bI (gQ) u oM rfl rfl λk61 K7=>qk K7 rfl (ve λu=>aJ 0 (aF y3.1) u rfl rfl rfl rfl lA rfl rfl λK8=>qk K8 rfl (v (vl 2 _ cE rfl rfl rfl (v (v (v ?_))))))))))
 apply vi m <;> intro c3 m
 refine vs (fR m (σ:=Bool) (λs=> [(some k61,.obj 30 (aF y3.1)),(some k48,.obj 30 (aF y2.1)),(some k35,.obj 62 (aD y1.1)),(some k28,.obj 30 (aF y0)),(some k2,.obj 67 (eP p2))]) (λs=>.c 6 (.sc (.bool s)) .nil) (λx m=> ?_) ?_)
 refine v ?_
 apply vi m <;> intro b2 m
 rw[b2]
 refine vl 0 _ gH rfl rfl rfl (dL o6 rfl ?_)
 apply vi m <;> intro b3 m
 rw[b3]
 exact vk UI JG m rfl rfl λ_ m=>iD m
 rw[b3]
 exact iD m
 rw[b2]
 exact iD m
 rintro _ j1 m
 refine v ?_
 obtain rfl:=eY m
 exact eK rfl
 refine v (v ?_)
 apply vi m <;> intro c4 m
 refine vs (fR m (σ:=Bool) (λs=> [(some k61,.obj 30 (aF y3.1)),(some k48,.obj 30 (aF y2.1)),(some k35,.obj 62 (aD y1.1)),(some k28,.obj 30 (aF y0)),(some k2,.obj 67 (eP p2))]) (λs=>.c 6 (.sc (.bool s)) .nil) (λx m=> ?_) ?_)
 refine v ?_
 apply vi m <;> intro b4 m
 rw[b4]
 refine vl 0 _ gH rfl rfl rfl (dL o6 rfl ?_)
 apply vi m <;> intro b5 m
 rw[b5]
 exact vk UI JG m rfl rfl λ_ m=>iD m
 rw[b5]
 exact iD m
 rw[b4]
 exact iD m
 rintro _ j2 m
 refine v ?_
 obtain rfl:=eY m
 exact eK rfl
 refine v (fR m (σ:=Bool) (λs=> [(some k61,.obj 30 (aF y3.1)),(some k48,.obj 30 (aF y2.1)),(some k35,.obj 62 (aD y1.1)),(some k28,.obj 30 (aF y0)),(some k2,.obj 67 (eP p2))]) (λs=>.c 8 (.ptr k35 0) (.c 10 (.ptr k48 0) (.c 12 (.ptr k61 0) (.c 13 (nZ y3.2) (.c 82 (.sc (.bool s)) .nil))))) (λx m=> ?_) ?_)
 refine v ?_
 apply vi m <;> intro c5 m
 exact v (mO m)
 exact v (mO m)
 rintro _ j3 m
 refine v ?_
 apply vi m <;> intro c6 m
 refine vs (fR m (σ:=Bool) (λs=> [(some k61,.obj 30 (aF y3.1)),(some k48,.obj 30 (aF y2.1)),(some k35,.obj 62 (aD y1.1)),(some k28,.obj 30 (aF y0)),(some k2,.obj 67 (eP p2))]) (λs=>.c 6 (.sc (.bool s)) .nil) (λx m=> ?_) ?_)
 refine v ?_
 apply vi m <;> intro b6 m
 rw[b6]
 refine vl 0 _ gH rfl rfl rfl (dL o6 rfl ?_)
 apply vi m <;> intro b7 m
 rw[b7]
 exact vk UI JG m rfl rfl λ_ m=>iD m
 rw[b7]
 exact iD m
 rw[b6]
 exact iD m
 rintro _ j4 m
 refine v ?_
 obtain rfl:=eY m
 exact eK rfl
 refine v (vs (vs (fR m (σ:=Bool) (λs=> [(some k61,.obj 30 (aF y3.1)),(some k48,.obj 30 (aF y2.1)),(some k35,.obj 62 (aD y1.1)),(some k28,.obj 30 (aF y0)),(some k2,.obj 67 (eP p2))]) (λs=>.c 136 (.sc (.bool s)) .nil) (λx m=> ?_) ?_)))
 refine v (vq (by kernel_rfl) (vl 2 _ cE rfl rfl rfl ?_))
 apply vi m <;> intro b8 m
 rw[b8]
 exact iD m
 rw[b8]
 refine vl 2 _ cE rfl rfl rfl (vl 1 _ gH rfl rfl rfl (dL o6 rfl ?_))
 apply vi m <;> intro b9 m
 rw[b9]
 exact iD m
 rw[b9]
 apply vi m <;> intro b10 m
 rw[b10]
 refine vl 2 _ cE rfl rfl rfl (vl 0 _ gH rfl rfl rfl (dL o6 rfl ?_))
 apply vi m <;> intro b11 m
 rw[b11]
 exact iD m
 rw[b11]
 exact vl 0 _ gH rfl rfl rfl (vl 2 _ cE rfl rfl rfl (vx m kZ rfl rfl λ_ _ m=>vl 1 _ gH rfl rfl rfl (vl 2 _ cE rfl rfl rfl (vx m kZ rfl rfl λ_ _ m=>iD m))))
 rw[b10]
 exact iD m
 rintro _ j5 m
 refine v ?_
 apply vi m <;> intro c7 m
 refine v (v ?_)
 obtain rfl:=eY m
 exact eK rfl
 refine v (v (vk UI JG m rfl rfl λ_ m=>v ?_))
 obtain rfl:=eY m
 exact eK rfl
open Go.Vm
theorem EK (c:aB) (d:aS) (x:aP):(GL c d x).Vols=c.Vols.set d.Vol.toNat { x with State:=2,Files:=x.Files+1}:=by
 have:(qN c d x).Vols=c.Vols.set d.Vol.toNat { x with State:=2,Files:=x.Files+1}:=sK _ _ _ _ _
 unfold GL
 split <;> exact this
theorem CO {q:List Int} {l:List lI} {a:lI} (gq:gL gI q) (gl:gL DO l) (ga:DO a):M8 1000 q l a=some true:=by
 have hF:1000≤1000:=Nat.le_refl _
 have key:T (M8 1000 q l a) λb=>b=true:=by
  unfold M8
  refine .after (.ite (λ_=>.brk (T.ite (λ_=>.some rfl) λh=>absurd rfl h)) λ_=>.bind _ (t27 hF) λb hb=>.ite (λ_=>.brk (T.ite (λ_=>.some rfl) λh=>absurd rfl h)) λhb0=>.bind _ (t27 hF) λb2 hb2=>.brk (T.ite (λ_=>.some rfl) λhb20=> ?_))
  have ho:=hb (by simpa using hb0)
  have ho2:=hb2 (by simpa using hb20)
  refine .bind _ (t29 hF gq) λq hq=>.bind _ (t28 hF hq.1 hq.2.1 hq.2.2 gl ho) λc hc=> ?_
  obtain⟨h,hg⟩:=hc
  have G:=lB.1 hg
  refine .bind _ (t66 hF ⟨h,rng hg⟩ G λf hf=>⟨ho2 a (by simp) f hf,(ga.2.2.2.1 f hf).2⟩) λy hy=> ?_
  obtain⟨hd,hm⟩:=hy
  obtain⟨d,ok⟩:=y
  simp only at hd hm
  refine .ite (λ_=>.bindEq EJ (.some rfl)) λ_=> ?_
  obtain⟨e,n,he,hn⟩:=T0 hF h G hd hm
  refine .bindEq he ?_
  rcases hn with⟨hn, -⟩ | ⟨rfl,hS,hGe,heff⟩
  ·exact .ite (λ_=>.bindEq EJ (.some rfl)) λh0=>absurd (by simpa using h0) hn
  refine .ite (λh0=>absurd h0 (by simp)) λ_=> ?_
  have wd:=hm.wd G hd
  cases heff with
  | add k qq nn w=>
   have:=M4 hF hS hGe hd k
   rw[if_neg (by subst w; intro hh; have:d.Snap.Seq=c.Seq+1:=hh.1; omega)] at this
   refine .bindEq this ?_
   simp[k,aK,EJ,dA,T]
  | drop k qq w=>
   have:=HR hF hS hGe k
   rw[if_neg (by
    subst w
    rw[List.any_eq_true]
    rintro⟨s,hs,e2⟩
    have hs:s∈c.Snaps.filter λs=> !(s.Seq==d.Seq):=hs
    have:=(List.mem_filter.1 hs).2
    simp[e2] at this)] at this
   refine .bindEq this ?_
   simp[k,aK,EJ,dA,T]
  | ret k x hx qq w=>
   have hl:=(List.getElem?_eq_some_iff.1 hx).1
   have hx2:e.Vols[d.Vol.toNat]? =some { x with State:=3,Files:=0}:=by
    subst w
    show (c.Vols.set _ _)[_]? =_
    rw[List.getElem?_set_self hl]
   have:=zZ hF hS hGe k hm.v.1 hx2
   rw[if_neg (by show ¬(3:Int)=2; decide)] at this
   refine .bindEq this ?_
   simp[k,aK,EJ,dA,T]
  | rel k x hx qq w=>
   have hl:=(List.getElem?_eq_some_iff.1 hx).1
   have ep:=GS G hx
   have hx2:e.Vols[d.Vol.toNat]? =some { x with State:=1,Epoch:=x.Epoch+1}:=by
    subst w
    show (c.Vols.set _ _)[_]? =_
    rw[List.getElem?_set_self hl]
   have ep2:=GS hGe hx2
   have:=xU hF hS hGe k hm.v.1 hx2 ep2 (NJ hS hx2 ⟨ep2.2,ep2.1⟩)
   rw[if_neg (by show ¬(1:Int)=3; decide)] at this
   refine .bindEq this ?_
   simp[k,aK,EJ,dA,T]
  | wrote k x hx qq pp w=>
   have hl:=(List.getElem?_eq_some_iff.1 hx).1
   have hv:=hm.v
   have hev:e.Vols=c.Vols.set d.Vol.toNat { x with State:=2,Files:=x.Files+1}:=by subst w; exact EK c d x
   have hx2:e.Vols[d.Vol.toNat]? =some { x with State:=2,Files:=x.Files+1}:=by
    rw[hev,List.getElem?_set_self hl]
   have hlen:(e.Vols.length:Int)=c.Vols.length:=by rw[hev,List.length_set]
   have:=EG hF hS hGe k wd hd.vol hm.v.1 hx2
   have fin:∀(z:aB) (n:Int),(n=0→z=GL e d { x with State:=2,Files:=x.Files+1})→zU 1000 e d=some (z,n)→_:=λz n hz h29=>T.bindEq (Q:=λb=>b=true) (k:=λy59=>if (d.Kind==1)=true then (after (if (y59.2==1)=true then (if ((y59.1.Vols.length:Int)==0)=true then ((JF 1000).bind λy77=>some (.brk y77)) else some (.brk false)) else some (.brk false):Option (Lp (Bool) (Bool))) λj74=>some j74) else if (d.Kind==2)=true then (after (if (y59.2==8)=true then (if ((y59.1.Vols.length:Int)==0)=true then ((JF 1000).bind λy90=>some (.brk y90)) else some (.brk false)) else some (.brk false):Option (Lp (Bool) (Bool))) λj87=>some j87) else after (if (d.Kind==4)=true then (some (.brk (d.Kind==4))) else some (.brk (d.Kind==5)):Option (Lp (Bool) (Bool))) λj96=>if j96=true then (after (if (y59.2==1)=true then (if ((y59.1.Vols.length:Int)==0)=true then ((JF 1000).bind λy108=>some (.brk y108)) else some (.brk false)) else some (.brk false):Option (Lp (Bool) (Bool))) λj105=>some j105) else after (if (decide (d.Vol < 0))=true then (some (.brk true)) else if (decide ((e.Vols.length:Int)≤d.Vol))=true then (some (.brk true)) else if (y59.2==0)=true then (if (decide ((y59.1.Vols.length:Int)≤d.Vol))=true then (some (.brk true)) else (ix y59.1.Vols d.Vol).bind λx126=>(ix e.Vols d.Vol).bind λx128=>some (.brk (x126.Files !=(IntKind.wrap .i64 (x128.Files+1))))) else some (.brk false):Option (Lp (Bool) (Bool))) λj121=>if j121=true then (some false) else (JF 1000).bind λy134=>some y134) h29 (by
    have c0:decide (d.Vol < 0)=false:=decide_eq_false (by omega)
    have c1:decide ((e.Vols.length:Int)≤d.Vol)=false:=decide_eq_false (by omega)
    simp only[k,c0,c1,show ((3:Int)==1)=false from rfl,show ((3:Int)==2)=false from rfl,show ((3:Int)==4)=false from rfl,show ((3:Int)==5)=false from rfl,Bool.false_eq_true,if_false,aK]
    by_cases n0:n=0
    ·have hz:=hz n0
     have hzv:z.Vols=e.Vols.set d.Vol.toNat { x with State:=2,Files:=x.Files+1+1}:=by rw[hz]; exact EK e d _
     have hzl:decide ((z.Vols.length:Int)≤d.Vol)=false:=by rw[hzv,List.length_set]; exact c1
     have hx3:z.Vols[d.Vol.toNat]? =some { x with State:=2,Files:=x.Files+1+1}:=by
      rw[hzv,List.getElem?_set_self (by rw[hev,List.length_set]; exact hl)]
     have hxb:=G.v x (List.mem_of_getElem? hx)
     have gf:0≤x.Files∧x.Files≤65535:=by
      unfold nH gP at hxb
      simp only[Bool.and_eq_true,Bool.or_eq_true,decide_eq_true_eq,beq_iff_eq] at hxb
      omega
     rw[if_pos (by simpa using n0),hzl]
     simp only[Bool.false_eq_true,if_false,qF _ hv.1,hx3,hx2,Option.bind_some,wr (n:=x.Files+1+1) (by omega) (by omega),aK,bne_self_eq_false,EJ]
     exact⟨_,rfl,rfl⟩
    ·rw[if_neg (by simpa using n0)]
     simp only[aK,Bool.false_eq_true,if_false,EJ,Option.bind_some]
     exact⟨_,rfl,rfl⟩)
   split at this
   ·split at this
    ·split at this
     ·exact fin _ _ (λ_=>rfl) this
     ·exact fin _ 1 (λh=>absurd h (by decide)) this
    ·exact fin _ 8 (λh=>absurd h (by decide)) this
   ·exact fin _ 1 (λh=>absurd h (by decide)) this
 obtain⟨b,hb,rfl⟩:=key
 exact hb
end Go.Proofs.YtbbifdfldpfphaaGreat
