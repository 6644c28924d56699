import Derived.Test.YtbbifdfldpfphaaGreatK7P4
import Derived.Test.YtbbifdfldpfphaaGreatK7P3
set_option linter.unusedSimpArgs false
set_option linter.unusedVariables false
set_option maxHeartbeats 4000000
set_option maxRecDepth 100000
namespace Go.Proofs.YtbbifdfldpfphaaGreat
open Go.Vm
def jA:List (Int×Nat):= [(1,72),(2,73),(3,74),(4,75),(5,76)]
def nU (m:Nat) (f:Nat) (d:aD) (x:aR):Option (aD×Int):=
 if f=72 then (M3 m d x).bind λo=>some ({ d with Seq:=o.2.1,Snaps:=o.2.2.1,Chunks:=o.2.2.2},o.1)
 else none
def M7 (m:Nat) (p0:aD) (p1:aR):Option (aD×Int):=
 match jA.find? (λe=>e.1==p1.Kind) with
 | none=>some (jD,1)
 | some e=>(JK m p0).bind λy=>if (y !=0)=true then some (jD,1) else (E5 m p0).bind λd=>
 after ((nU m e.2 d p1).bind λs=>some (.brk s):Option (Lp (aD×Int) (aD×Int))) λs=>if (s.2 !=0)=true then some (jD,s.2) else (JK m s.1).bind λy2=>if (y2 !=0)=true then some (jD,1) else some (s.1,0)
abbrev zH (k:aY) (d:aD) (a b c:cC) (v:eM):HL:= [OC k d.Seq a.a b.a c.a v,cE a d.Snaps,bR b d.Chunks,cM c d.Exps,bP v d.Vols]++((cQ a d.Snaps)++((bW b d.Chunks)++(cS c d.Exps)))
abbrev zJ (k:aY) (d:aD) (a b c v:eM):HL:= [OC k d.Seq a b c v,dF a d.Snaps,dA b d.Chunks,fR c d.Exps,bP v d.Vols]
theorem M8 {h:aA} {k:aY} {d:aD} {a b c:cC} {v:eM} (oa:n6 aF.Locs 4 4 a d.Snaps) (ob:n6 aB.Locs 35 4 b d.Chunks) (oc:n6 aV.Locs 3 4 c d.Exps) (m:aS h (zH k d a b c v)) {n:Nat} {f:FR}:
 aS h (zJ k d a.a b.a c.a v)∧eQ (fm n f.k) (hp h (zJ k d a.a b.a c.a v)) (fm n f.k) (hp h (zH k d a b c v)):=by
 obtain⟨k1,l1⟩:=MW (ty:=81) (n:=n) (f:=f) (h0:=h) (L':= [OC k d.Seq a.a b.a c.a v,dF a.a d.Snaps,bR b d.Chunks,cM c d.Exps,bP v d.Vols]++((bW b d.Chunks)++(cS c d.Exps))) [[_], [_], [_], [_], [_],_,_,_] rfl 1 5 p7 BN oa.k rfl rfl (by decide) rfl m
 obtain⟨k2,l2⟩:=MW (ty:=81) (n:=n) (f:=f) (h0:=h) (L':= [OC k d.Seq a.a b.a c.a v,dF a.a d.Snaps,dA b.a d.Chunks,cM c d.Exps,bP v d.Vols]++(cS c d.Exps)) [[_], [_], [_], [_], [_],_,_] rfl 2 5 p7 yV ob.k rfl rfl (by decide) rfl k1
 obtain⟨k3,l3⟩:=MW (ty:=81) (n:=n) (f:=f) (h0:=h) (L':=zJ k d a.a b.a c.a v) [[_], [_], [_], [_], [_],_] rfl 3 5 p7 E3 oc.k rfl rfl (by decide) rfl k2
 exact⟨k3,(l1.trans l2).trans l3⟩
theorem E6 {w:Nat} {f:Nat} {d:aD} {x:aR} {s:aD×Int} (h:aA) {k:aY} {a b c:cC} {v:eM} (oa:n6 aF.Locs 4 4 a d.Snaps) (ob:n6 aB.Locs 35 4 b d.Chunks) (oc:n6 aV.Locs 3 4 c d.Exps) (ov:cV v 4 d.Vols.length) (u:aS h (zH k d a b c v)) (m:nU w f d x=some s):
 aG Tryz.prog f [.ptr k 0,.agg (aC x)] (hp h (zH k d a b c v)) (λr h'=>∃a' b' c' v':eM,cV a' 4 s.1.Snaps.length∧cV b' 35 s.1.Chunks.length∧cV c' 3 s.1.Exps.length∧cV v' 4 s.1.Vols.length∧aS h (zJ k s.1 a' b' c' v')∧r=nZ s.2∧h'=hp h (zJ k s.1 a' b' c' v')):=by
 obtain⟨kp,lp⟩:=M8 oa ob oc u (n:= [AV.ptr k 0,AV.agg (aC x)].length) (f:=p6 0 [AV.ptr k 0,AV.agg (aC x)])
 unfold nU at m
 split at m
 rename_i e; subst e
 obtain⟨o,ho,m⟩:=aE m
 cases m
 refine wA lp (r7 (QN (p0:=d) h oa.k.a ob.k.a oc.k.a ov kp ho) ?_)
 rintro r h' ⟨a',oa',b',ob',hk',e1,e2⟩
 exact⟨a',b',c.a,v,oa',ob',oc.k.a,ov,hk',e1,e2⟩
 cases m
theorem BQ {f:Nat} {u:Nat} {d:aD} {x:aR} {s:aD×Int} (m:nU u f d x=some s):aJ Tryz.prog f=true:=by
 unfold nU at m
 split at m
 rename_i e; subst e; exact M4
 cases m
theorem QO {j:Nat} {p0:aD} {p1:aR} {o:aD×Int} (h:aA) (m:M7 j p0 p1=some o):
 aG Tryz.prog 29 [.agg (aM p0),.agg (aC p1)] h (λr h'=>r= .tup [.agg (aM o.1),nZ o.2]∧h'=h):=by
 refine fC 44 [.cell 4 30,.tmp 5] Tryz.func29 rfl rfl rfl rfl ?_
 unfold M7 at m
 repeat refine vs ?_
 refine v0 ?_
 refine gH rfl rfl λk2 K3=> ?_
 refine gH rfl rfl λk3 K3=> ?_
 refine ve λu=>bN (fU) u s4 rfl rfl λk4 K9=>qk K9 rfl ?_
 repeat refine vs ?_
 refine v0 ?_
 refine ve λu=>uG u λkm K3=>qk K3 rfl ?_
 refine ve λu=>nT (l:= []) 0 u nH u3 rfl rfl rfl rfl rfl λK3=>qk K3 rfl ?_
 refine ve λu=>nT 0 u nH u3 rfl rfl rfl rfl rfl λK3=>qk K3 rfl ?_
 refine ve λu=>nT 0 u nH u3 rfl rfl rfl rfl rfl λK3=>qk K3 rfl ?_
 refine ve λu=>nT 0 u nH u3 rfl rfl rfl rfl rfl λK3=>qk K3 rfl ?_
 refine ve λu=>nT 0 u nH u3 rfl rfl rfl rfl rfl λK3=>qk K3 rfl ?_
 repeat refine vs ?_
 refine v0 (nD D3 rfl rfl (vl 2 _ bQ rfl rfl rfl ?_))
 have hz:(Tryz.prog.info? 117).bind (·.zero)=some (.nilFunc):=by kernel_rfl
 cases hf:jA.find? (λe=>e.1==p1.Kind) with
 | none=>
 rw[hf] at m
 refine vn (λu=>fP (uV (l:=jA) nH hz u3 rfl rfl (bF 0 u rfl)) (aN.of_eq (y:=.tup [.any,.sc (.bool false)]) (by rw[hf]))) ?_
 repeat refine vs ?_
 refine v0 (v0 ?_)
 repeat refine vs ?_
 refine v0 (dK (gQ (fU) vP rfl) ?_)
 refine ve λu=>aQ 1 (fU) u rfl rfl rfl rfl mK rfl rfl λK0=>qk K0 rfl ?_
 refine v0 ?_
 cases m
 exact vr λu=>eS.of2 (.inl rfl) (zY (.agg (fU)) fN rfl (bF 1 u rfl) rfl) (mA _ _ (.sc (.int _ _)) rfl) (aW (List.nil_sublist _) u).1 (aN.agg (.cons (aN.refl _ _) (.cons (aP _) (.cons (aP _) (.cons (aP _) (.cons (aP _) .nil)))))) (aN.refl _ _) ⟨rfl,rfl⟩
 | some e=>
 rw[hf] at m
 refine vn (λu=>fP (uV (l:=jA) nH hz u3 rfl rfl (bF 0 u rfl)) (aN.of_eq (y:=.tup [.fn (.func e.2) [],.sc (.bool true)]) (by rw[hf]))) ?_
 repeat refine vs ?_
 refine v0 (vl 3 (.agg (aM p0)) fN rfl rfl rfl ?_)
 refine vk OR G7 m rfl rfl λ_ m=> ?_
 refine v0 ?_
 apply vi m <;> intro hc m
 repeat refine vs ?_
 refine v0 (dK (gQ (fU) vP rfl) ?_)
 refine ve λu=>aQ 1 (fU) u rfl rfl rfl rfl mK rfl rfl λK0=>qk K0 rfl ?_
 refine v0 ?_
 cases m
 exact vr λu=>eS.of2 (.inl rfl) (zY (.agg (fU)) fN rfl (bF 1 u rfl) rfl) (mA _ _ (.sc (.int _ _)) rfl) (aW (List.nil_sublist _) u).1 (aN.agg (.cons (aN.refl _ _) (.cons (aP _) (.cons (aP _) (.cons (aP _) (.cons (aP _) .nil)))))) (aN.refl _ _) ⟨rfl,rfl⟩
 refine v0 ?_
 repeat refine vs ?_
 refine v0 (vl 3 (.agg (aM p0)) fN rfl rfl rfl ?_)
 obtain⟨d,Y0,m⟩:=aE m
 refine ve λu=>cG (M5 _ Y0) rfl M6 rfl ?_
 rintro x h' ⟨gs,oks,gc,okc,ge,oke,gv,okv,K1,rfl,rfl⟩
 have w:=iP (L':= [cE gs d.Snaps,bR gc d.Chunks,cM ge d.Exps,bP gv d.Vols,(some km,.mp (jZ jA)),(some k4,.obj 30 (fU)),(some k3,.obj 62 (aC p1)),(some k2,.obj 30 (aM p0))]++((cQ gs d.Snaps)++((bW gc d.Chunks)++(cS ge d.Exps)))) u K1 [[_], [_], [_], [_],_,_,_] [[_], [_], [_], [_]] rfl rfl [0,1,2,3,7,8,9,10,4,5,6] rfl rfl
 refine qk w.2 w.1 ?_
 refine ve λu=>bN (fU) u s4 rfl rfl λk9 K2=>qk K2 rfl ?_
 refine ve λu=>aQ 0 ([nZ d.Seq,aZ gs.a,aZ gc.a,aZ ge.a,aZ gv]) u rfl rfl rfl (by repeat (first | exact rfl | refine dM (cU _ _ _) ?_ | refine dM rfl ?_)) mK rfl rfl λK4=>qk K4 rfl ?_
 repeat refine vs ?_
 refine FB m (σ:=aD×Int) (τ:=eM×eM×eM×eM) (λg s=> [OC k9 s.1.Seq g.1 g.2.1 g.2.2.1 g.2.2.2,dF g.1 s.1.Snaps,dA g.2.1 s.1.Chunks,fR g.2.2.1 s.1.Exps,bP g.2.2.2 s.1.Vols,(some km,.mp (jZ jA)),(some k4,.obj 30 (fU)),(some k3,.obj 62 (aC p1)),(some k2,.obj 30 (aM p0))]) (λg s=>cV g.1 4 s.1.Snaps.length∧cV g.2.1 35 s.1.Chunks.length∧cV g.2.2.1 3 s.1.Exps.length∧cV g.2.2.2 4 s.1.Vols.length) (λg s=>.c 4 (.ptr k4 0) (.c 9 (.ptr k9 0) (.c 10 (nZ s.2) .nil))) (λx m=> ?_) ?_
 refine v0 (vl 7 (.agg (aC p1)) mL rfl rfl rfl ?_)
 obtain⟨s,hs,m⟩:=aE m
 refine ve λu=> ?_
 have pq:=i9 (A:=zH k9 d gs gc ge gv) (R:= [(some km,.mp (jZ jA)),(some k4,.obj 30 (fU)),(some k3,.obj 62 (aC p1)),(some k2,.obj 30 (aM p0))]) u [[_], [_], [_], [_], [_], [_], [_], [_], [_],_,_,_] rfl [0,1,2,3,4,9,10,11] [5,6,7,8] rfl rfl rfl
 refine eX pq.1 (cG (E6 _ oks okc oke okv pq.2.2 hs) rfl (BQ hs) rfl ?_)
 rintro r h' ⟨a',b',c',v',oa,ob,oc,ov,hk',rfl,rfl⟩
 have hq2:=iP (L':= [OC k9 s.1.Seq a' b' c' v',dF a' s.1.Snaps,dA b' s.1.Chunks,fR c' s.1.Exps,bP v' s.1.Vols,(some km,.mp (jZ jA)),(some k4,.obj 30 (fU)),(some k3,.obj 62 (aC p1)),(some k2,.obj 30 (aM p0))]) pq.2.1 hk' [[_], [_], [_], [_], [_]] [[_], [_], [_], [_]] rfl rfl [0,1,2,3,4,5,6,7,8] rfl rfl
 refine qk hq2.2 hq2.1 ?_
 exact kP m (a',b',c',v') ⟨oa,ob,oc,ov⟩ (lx (.k3 .nil))
 rintro⟨a',b',c',v'⟩ ⟨dd,ee⟩ ⟨oa,ob,oc,ov⟩ m
 repeat refine vs ?_
 refine v0 ?_
 repeat refine vs ?_
 refine v0 (v0 ?_)
 apply vi m <;> intro hc m
 repeat refine vs ?_
 refine v0 (dK (gQ (fU) vP rfl) ?_)
 refine ve λu=>aQ 6 (fU) u rfl rfl rfl rfl mK rfl rfl λK0=>qk K0 rfl ?_
 refine v0 ?_
 cases m
 exact vr λu=>eS.of2 (.inl rfl) (zY (.agg (fU)) fN rfl (bF 6 u rfl) rfl) (mA _ _ (.sc (.int _ _)) rfl) (aW (List.nil_sublist _) u).1 (aN.agg (.cons (aN.refl _ _) (.cons (aP _) (.cons (aP _) (.cons (aP _) (.cons (aP _) .nil)))))) (aN.refl _ _) ⟨rfl,rfl⟩
 repeat refine vs ?_
 refine v0 (vl 0 (.agg ([nZ dd.Seq,aZ a',aZ b',aZ c',aZ v'])) fN rfl rfl rfl ?_)
 obtain⟨_,Y1,m⟩:=aE m
 refine vn (λu=>cK (i5 (.cons (Br.agg (.cons (Br.refl _ _) (.cons (Br.aw 1 kQ oa u rfl) (.cons (Br.aw 2 fM ob u rfl) (.cons (Br.aw 3 qA oc u rfl) (.cons (Br.aw 4 qB ov u rfl) .nil)))))) .nil) rfl (OR _ Y1)) rfl G7 rfl) (v0 ?_)
 apply vi m <;> intro c0 m
 repeat refine vs ?_
 refine v0 (dK (gQ (fU) vP rfl) ?_)
 refine ve λu=>aQ 6 (fU) u rfl rfl rfl rfl mK rfl rfl λK0=>qk K0 rfl ?_
 refine v0 ?_
 cases m
 exact vr λu=>eS.of2 (.inl rfl) (zY (.agg (fU)) fN rfl (bF 6 u rfl) rfl) (mA _ _ (.sc (.int _ _)) rfl) (aW (List.nil_sublist _) u).1 (aN.agg (.cons (aN.refl _ _) (.cons (aP _) (.cons (aP _) (.cons (aP _) (.cons (aP _) .nil)))))) (aN.refl _ _) ⟨rfl,rfl⟩
 refine v0 ?_
 repeat refine vs ?_
 refine v0 (vl 0 (.agg ([nZ dd.Seq,aZ a',aZ b',aZ c',aZ v'])) fN rfl rfl rfl ?_)
 refine ve λu=>aQ 6 ([nZ dd.Seq,aZ a',aZ b',aZ c',aZ v']) u rfl rfl rfl (by repeat (first | exact rfl | refine dM (cU _ _ _) ?_ | refine dM rfl ?_)) mK rfl rfl λK5=>qk K5 rfl ?_
 refine v0 ?_
 cases m
 refine OJ λu=> ?_
 obtain⟨K6,le0⟩:=eQ.fzO (n:=44) (f:=_) 1 5 ([nZ dd.Seq,.sl none 4 (List.map bI dd.Snaps),aZ b',aZ c',aZ v']) u rfl (.cons (Fz.refl _ _ _) (.cons (Fz.aw 1 kQ oa u rfl (.refl _)) (.cons (Fz.refl _ _ _) (.cons (Fz.refl _ _ _) (.cons (Fz.refl _ _ _) .nil)))))
 obtain⟨K7,le1⟩:=eQ.fzO (n:=44) (f:=_) 1 4 ([nZ dd.Seq,.sl none 4 (List.map bI dd.Snaps),.sl none 35 (List.map aI dd.Chunks),aZ c',aZ v']) K6 rfl (.cons (Fz.refl _ _ _) (.cons (Fz.refl _ _ _) (.cons (Fz.aw 1 fM ob K6 rfl (.refl _)) (.cons (Fz.refl _ _ _) (.cons (Fz.refl _ _ _) .nil)))))
 obtain⟨K8,le2⟩:=eQ.fzO (n:=44) (f:=_) 1 3 ([nZ dd.Seq,.sl none 4 (List.map bI dd.Snaps),.sl none 35 (List.map aI dd.Chunks),.sl none 3 (List.map eB dd.Exps),aZ v']) K7 rfl (.cons (Fz.refl _ _ _) (.cons (Fz.refl _ _ _) (.cons (Fz.refl _ _ _) (.cons (Fz.aw 1 qA oc K7 rfl (.refl _)) (.cons (Fz.refl _ _ _) .nil)))))
 obtain⟨K82,le3⟩:=eQ.fzO (n:=44) (f:=_) 1 2 ([nZ dd.Seq,.sl none 4 (List.map bI dd.Snaps),.sl none 35 (List.map aI dd.Chunks),.sl none 3 (List.map eB dd.Exps),.sl none 4 (List.map cD dd.Vols)]) K8 rfl (.cons (Fz.refl _ _ _) (.cons (Fz.refl _ _ _) (.cons (Fz.refl _ _ _) (.cons (Fz.refl _ _ _) (.cons (Fz.aw 1 qB ov K8 rfl (.refl _)) .nil)))))
 exact AS.mk (eQ.trans (eQ.trans (eQ.trans le0 le1) le2) le3) (eS.of2 (.inl rfl) (zY (.agg (aM dd)) fN rfl (bF 2 K82 rfl) rfl) (mA _ _ (.sc (.int _ _)) rfl) (aW (List.nil_sublist _) K82).1 (aN.refl _ _) (aN.refl _ _) ⟨rfl,rfl⟩)
theorem M9:aJ Tryz.prog 29=true:=by kernel_rfl
open Go.Vm
def lf (v:Int) (l:List cA):List cA:=l.filter λy=> !(y.Vol==v)
def NA (v:Int) (s:aF):aF:= { s with Locs:=lf v s.Locs}
def NB (v:Int) (s:aB):aB:= { s with Locs:=lf v s.Locs}
def NC (v:Int) (s:aV):aV:= { s with Locs:=lf v s.Locs}
def IU (y:aB):Bool:= !y.Staged && ((y.Locs.length:Int)==0)
def ret (c:aD) (v:Int) (x:e8):aD:=
 { Seq:=c.Seq,Snaps:=c.Snaps.map (NA v),Chunks:=(c.Chunks.map (NB v)).filter λy=> !IU y,Exps:=(c.Exps.map (NC v)).filter λy=> !((y.Locs.length:Int)==0),Vols:=c.Vols.set v.toNat { x with State:=3,Files:=0}}
def NZ (c:aD) (v:Int) (x:e8):aD:= { c with Vols:=c.Vols.set v.toNat { x with State:=1,Epoch:=x.Epoch+1}}
open Go.Vm
theorem E7 {l:List aB}:HW l↔(∀x∈l,JL x.Id)∧l.Pairwise λy x=>ky y.Id < ky x.Id:=by
 unfold HW
 refine and_congr_right λ_=> ?_
 rw[List.pairwise_iff_getElem]
 constructor
 ·intro h i j hi hj hij
  exact h i j _ _ (List.getElem?_eq_getElem hi) (List.getElem?_eq_getElem hj) hij
 ·intro h i j x y hx hy hij
  obtain⟨hi,rfl⟩:=List.getElem?_eq_some_iff.1 hx
  obtain⟨hj,rfl⟩:=List.getElem?_eq_some_iff.1 hy
  exact h i j hi hj hij
structure At (l:List aB) (d:cF) (p:Nat):Prop where
 le:p≤l.length
 lo:∀x∈l.take p,ky x.Id < ky d
 hi:∀x∈l.drop p,ky d≤ky x.Id
open Go.Vm
def PC (y:aB):Bool:=y.Staged || decide (0 < (y.Locs.length:Int))
end Go.Proofs.YtbbifdfldpfphaaGreat
namespace Go.Vm
def T {α:Type} (m:Option α) (Q:α→Prop):Prop:=∃a,m=some a∧Q a
def L3 {σ ρ:Type} (G B:σ→Prop) (R:ρ→Prop):Lp σ ρ→Prop
 | .go s=>G s
 | .brk s=>B s
 | .ret r=>R r
section
variable {α β σ ρ:Type} {Q:β→Prop}
theorem T.some {a:β} (h:Q a):T (some a) Q:=⟨a,rfl,h⟩
theorem T.mono {P:β→Prop} {m:Option β} (h:T m P) (k:∀a,P a→Q a):T m Q:=by obtain⟨a,e,p⟩:=h; exact⟨a,e,k a p⟩
theorem T.of {m:Option β} {a:β} (h:m= .some a) (hq:Q a):T m Q:=⟨a,h,hq⟩
theorem T.bind {m:Option α} {k:α→Option β} (P:α→Prop) (h:T m P) (hk:∀a,P a→T (k a) Q):T (m.bind k) Q:=by
 obtain⟨a,e,p⟩:=h
 rw[e]; exact hk a p
theorem T.bindEq {m:Option α} {k:α→Option β} {a:α} (h:m= .some a) (hk:T (k a) Q):T (m.bind k) Q:=by rw[h]; exact hk
theorem T.ite {c:Prop} [Decidable c] {a b:Option β} (h1:c→T a Q) (h2:¬c→T b Q):T (if c then a else b) Q:=by
 by_cases h:c
 ·rw[if_pos h]; exact h1 h
 ·rw[if_neg h]; exact h2 h
theorem T.grd {b:Bool} {k:Option β} (hb:b=true) (h:T k Q):T (grd b k) Q:=by unfold Go.Vm.grd; rw[if_pos hb]; exact h
theorem T.ix {l:List α} {i:Int} {k:α→Option β} (h0:0≤i) (h1:i < l.length) (hk:∀x,l[i.toNat]? =Option.some x→x∈l→T (k x) Q):T ((ix l i).bind k) Q:=by
 have hx:l[i.toNat]? =Option.some l[i.toNat]:=List.getElem?_eq_getElem (by omega)
 rw[EN l h0,hx]
 exact hk _ hx (List.getElem_mem _)
theorem T.app {xs ys:List α} {k:List α→Option β} (h:xs.length+ys.length≤1000000000) (hk:T (k (xs++ys)) Q):T ((app xs ys).bind k) Q:=by rw[cL h]; exact hk
variable {R:ρ→Prop} {G B:σ→Prop}
theorem T.go {s:σ} (h:G s):T (.some (Lp.go s)) (L3 G B R):=⟨_,rfl,h⟩
theorem T.brk {s:σ} (h:B s):T (.some (Lp.brk s)) (L3 G B R):=⟨_,rfl,h⟩
theorem T.ret {r:ρ} (h:R r):T (.some (Lp.ret r)) (L3 G B R):=⟨_,rfl,h⟩
theorem T.after {m:Option (Lp σ ρ)} {k:σ→Option ρ} (h:T m (L3 (λ_=>False) (λs=>T (k s) R) R)):T (after m k) R:=by
 obtain⟨a,e,p⟩:=h
 rw[e]
 cases a with
 | go s=>exact p.elim
 | brk s=>exact p
 | ret r=>exact⟨_,rfl,p⟩
theorem T.loopAt {step:σ→Option (Lp σ ρ)} (I:σ→Prop) (μ:σ→Nat) (hs:∀s,I s→T (step s) (L3 (λs'=>I s'∧μ s' < μ s) B R)):∀(F:Nat) (s:σ),I s→μ s < F→T (bC step F s) (L3 (λ_=>False) B R)
 | 0,_,_,h=>by omega
 | F+1,s,hi,hm=>by
  obtain⟨a,e,p⟩:=hs s hi
  unfold bC
  rw[e]
  cases a with
  | go s'=>exact T.loopAt I μ hs F s' p.1 (by have:=p.2; omega)
  | brk s'=>exact⟨_,rfl,p⟩
  | ret r=>exact⟨_,rfl,p⟩
theorem T.loop {step:σ→Option (Lp σ ρ)} {F:Nat} {s0:σ} {k:σ→Option ρ} (I:σ→Prop) (μ:σ→Nat) (B:σ→Prop) (hm:μ s0 < F) (h0:I s0) (hs:∀s,I s→T (step s) (L3 (λs'=>I s'∧μ s' < μ s) B R)) (hk:∀s,B s→T (k s) R):
    T (Go.Vm.after (bC step F s0) k) R:=T.after ((T.loopAt I μ hs F s0 h0 hm).mono λa=>by
      cases a with
      | go s=>exact λh=>h.elim
      | brk s=>exact hk s
      | ret r=>exact id)
end
end Go.Vm
namespace Go.Proofs.YtbbifdfldpfphaaGreat
open Go.Vm
open Go.Vm
def ND (l:List (List Int)) (n:Nat):Prop:=l.length≤n∧∀x∈l,x.length≤300∧gL gB x
structure FE (c:aD) (n:Int) (x:bL):Prop where
 id:JL x.Id
 q:0≤x.Seq∧x.Seq≤1073741824
 of:gI x.Of
 off:gI x.Off
 len:gI x.Len
 w:(x.Kind=1∧x.Seq=0∧∃j:Nat,(j:Int) < n∧∃y,c.Chunks[j]? =some y∧y.Id=x.Id)∨(x.Kind=2∧x.Id=lB∧∃j:Nat,(c.Chunks.length:Int)+j < n∧∃y,c.Snaps[j]? =some y∧y.Seq=x.Seq)∨
  (x.Kind=3∧x.Id=lB∧∃j:Nat,(c.Chunks.length:Int)+c.Snaps.length+j < n∧∃y,c.Exps[j]? =some y∧y.Seq=x.Seq∧y.Of=x.Of)
def Nd (q:List bL):Prop:=q.Pairwise λa b=>a.Kind=b.Kind→a.Id=b.Id→a.Seq≠b.Seq
structure NE (c:aD) (n:Int) (q:List bL):Prop where
 a:∀x∈q,FE c n x
 d:Nd q
theorem FE.mono {c:aD} {n m:Int} {x:bL} (h:FE c n x) (hm:n≤m):FE c m x:=⟨h.id,h.q,h.of,h.off,h.len,by
 rcases h.w with⟨a,b,j,k,e⟩ | ⟨a,b,j,k,e⟩ | ⟨a,b,j,k,e⟩
 ·exact .inl ⟨a,b,j,by omega,e⟩
 ·exact .inr (.inl ⟨a,b,j,by omega,e⟩)
 ·exact .inr (.inr ⟨a,b,j,by omega,e⟩)⟩
theorem PD {α:Type} {R:α→α→Prop} {l:List α} (h:l.Pairwise R) {i j:Nat} {x y:α} (hx:l[i]? =some x) (hy:l[j]? =some y) (hij:i < j):R x y:=by
 obtain⟨h1,rfl⟩:=List.getElem?_eq_some_iff.1 hx
 obtain⟨h2,rfl⟩:=List.getElem?_eq_some_iff.1 hy
 exact List.pairwise_iff_getElem.1 h i j h1 h2 hij
theorem NE.put {c:aD} {n:Int} {q:List bL} {y:bL} (hG:Gd c) (h:NE c n q) (hy:FE c (n+1) y) (hn:¬FE c n y):NE c (n+1) (q++ [y]):=by
 refine⟨λx hx=> ?_,List.pairwise_append.2 ⟨h.d,List.pairwise_singleton _ _,λx hx z hz e1 e2 e3=> ?_⟩⟩
 ·rcases List.mem_append.1 hx with h1 | h1
  ·exact(h.a x h1).mono (by omega)
  ·rw[List.mem_singleton.1 h1]; exact hy
 ·rw[List.mem_singleton.1 hz] at e1 e2 e3
  refine hn ⟨hy.id,hy.q,hy.of,hy.off,hy.len, ?_⟩
  rcases(h.a x hx).w with⟨a,b,j,k,u,u1,u2⟩ | ⟨a,b,j,k,u,u1,u2⟩ | ⟨a,b,j,k,u,u1,u2,u3⟩
  ·exact .inl ⟨by omega,by omega,j,k,u,u1,by rw[u2,e2]⟩
  ·exact .inr (.inl ⟨by omega,by rw[← e2,b],j,k,u,u1,by omega⟩)
  ·rcases hy.w with⟨a',_⟩ | ⟨a',_⟩ | ⟨a',b',j',k',v,v1,v2,v3⟩
   ·omega
   ·omega
   ·rcases Nat.lt_trichotomy j j' with w | w | w
    ·have:=PD hG.eo u1 v1 w; omega
    ·subst w
     exact .inr (.inr ⟨a',b',j,k,v,v1,v2,v3⟩)
    ·have:=PD hG.eo v1 u1 w; omega
open Go.Vm
def nV (l:List aB):Bool:= !l.any λx=> !x.Staged || decide (0 < (x.Locs.length:Int))
theorem NF {F:Nat} {l:List aB} (hF:1000≤F) (hl:l.length≤400):v9 F l=some (nV l):=by
 unfold v9 tQ nV
 rw[OZ (f:=λx0=>yZ F x0) (λx=> !x.Staged || decide (0 < (x.Locs.length:Int))) (by omega) (by omega) (λx _=>by
  unfold yZ
  cases x.Staged <;> rfl)]
 simp only[Option.bind_some]
 cases ha:l.any (λx=> !x.Staged || decide (0 < (x.Locs.length:Int))) with
 | false=>rw[lV ha]; rfl
 | true=>
  obtain⟨i,x,h1, -⟩:=lU ha
  rw[h1]
  simp
open Go.Vm
def jL (l:List cA) (x:cA):List cA:=(l.reverse.dropWhile λy=>BF y x).reverse++x::(l.reverse.takeWhile λy=>BF y x).reverse
theorem uW (l:List cA) (x:cA):∃a b,l=a++b∧jL l x=a++x::b:=by
 refine⟨_,_, ?_,rfl⟩
 rw[← List.reverse_append,List.takeWhile_append_dropWhile,List.reverse_reverse]
theorem zK {l:List cA} {x y:cA}:y∈jL l x↔y∈l∨y=x:=by
 obtain⟨a,b,e,e2⟩:=uW l x
 rw[e2,e]
 simp only[List.mem_append,List.mem_cons]
 constructor
 ·rintro(h | h | h)
  ·exact .inl (.inl h)
  ·exact .inr h
  ·exact .inl (.inr h)
 ·rintro((h | h) | h)
  ·exact .inl h
  ·exact .inr (.inr h)
  ·exact .inr (.inl h)
theorem r8 {l:List cA} {x:cA}:(jL l x).length=l.length+1:=by
 obtain⟨a,b,e,e2⟩:=uW l x
 rw[e2,e]
 simp; omega
open Go.Vm
structure It (i:bL):Prop where
 id:JL i.Id
 q0:0≤i.Seq∧i.Seq≤1073741824
 k:1≤i.Kind∧i.Kind≤3
 of:gI i.Of
 off:gI i.Off
 len:gI i.Len
def JM (i:bL) (a:cA) (y:aB):aB:=if i.Kind=1∧y.Id=i.Id then { y with Locs:=jL y.Locs a} else y
def IV (i:bL) (a:cA) (s:aF):aF:=if i.Kind=2∧s.Seq=i.Seq then { s with Locs:=jL s.Locs a} else s
def tU (l:List aV) (i:bL):aV:=match l.find? λx=>decide (x.Seq=i.Seq) with | some x=>x | none=> { Seq:=i.Seq,Of:=i.Of,Locs:= []}
def n7 (l:List aV) (i:bL) (a:cA):List aV:=(l.filter λx=>decide (x.Seq < i.Seq))++ { tU l i with Locs:=jL (tU l i).Locs a}::l.filter λx=>decide (i.Seq < x.Seq)
def PE (c:aD) (i:bL) (a:cA):aD:= { c with
 Seq:=if i.Kind=3 then max c.Seq (i.Seq+1) else c.Seq
 Snaps:=c.Snaps.map (IV i a)
 Chunks:=c.Chunks.map (JM i a)
 Exps:=if i.Kind=3 then n7 c.Exps i a else c.Exps}
structure Wm (n:Nat) (c:aD):Prop where
 g:o2 c
 r:HW c.Chunks
 cn:c.Chunks.length≤400
 cl:∀x∈c.Chunks,x.Locs.length≤n∧x.Data.length≤300
 so:c.Snaps.Pairwise λy x=>y.Seq < x.Seq
 sn:c.Snaps.length≤12
 sl:∀x∈c.Snaps,x.Locs.length≤n
 man:∀s∈c.Snaps,s.Man.Name.size≤100∧s.Man.Parts.length≤10∧∀p∈s.Man.Parts,p.Path.size≤100∧p.Ids.length≤40
 eo:c.Exps.Pairwise λy x=>y.Seq < x.Seq
 en:c.Exps.length≤n
 el:∀x∈c.Exps,x.Locs.length≤n
 eq:∀x∈c.Exps,0≤x.Seq∧x.Seq≤1073741824∧x.Seq < c.Seq
 q:0≤c.Seq∧c.Seq≤1073741826
 vo:c.Vols.length≤20
theorem Wm.sm {n:Nat} {c:aD} (h:Wm n c) (hn:n≤300):Sm c:=
 ⟨h.g,h.sn,h.cn,Nat.le_trans h.en hn,h.vo,λs hs=>Nat.le_trans (h.sl s hs) hn,λs hs=>⟨Nat.le_trans (h.cl s hs).1 hn,(h.cl s hs).2⟩,λs hs=>Nat.le_trans (h.el s hs) hn,h.man⟩
open Go.Vm
def JN (p:Int) (i:bL) (y:aB):aB:=if p=0∧i.Kind=1∧y.Id=i.Id then { y with Staged:=false,Data:= []} else y
def BR (p:Int) (c:aD) (i:bL) (a:cA):aD:= { PE c i a with Chunks:=(PE c i a).Chunks.map (JN p i)}
theorem E8 (i:bL) (a:cA) (y:aB):(JM i a y).Id=y.Id:=by unfold JM; split <;> rfl
theorem E9 (p:Int) (i:bL) (y:aB):(JN p i y).Id=y.Id:=by unfold JN; split <;> rfl
theorem uX (i:bL) (a:cA) (y:aF):(IV i a y).Seq=y.Seq∧(IV i a y).Man=y.Man:=by unfold IV; split <;> exact⟨rfl,rfl⟩
theorem zM (l:List aV) (i:bL):(tU l i).Seq=i.Seq:=by
 unfold tU
 cases e:l.find? λx=>decide (x.Seq=i.Seq) with
 | none=>rfl
 | some x=>simpa using List.find?_some e
theorem BS (l:List aV) (i:bL):tU l i∈l∨tU l i= { Seq:=i.Seq,Of:=i.Of,Locs:= []}:=by
 unfold tU
 cases e:l.find? λx=>decide (x.Seq=i.Seq) with
 | none=>exact .inr rfl
 | some x=>exact .inl (List.mem_of_find?_eq_some e)
theorem zO (l:List aV) (i:bL) (a:cA):(n7 l i a).length≤l.length+1:=by
 have:∀m:List aV,(m.filter λx=>decide (x.Seq < i.Seq)).length+(m.filter λx=>decide (i.Seq < x.Seq)).length≤m.length:=by
  intro m
  induction m with
  | nil=>simp
  | cons b m ih=>
   by_cases h1:b.Seq < i.Seq
   ·have h2:¬i.Seq < b.Seq:=by omega
    simp[List.filter_cons,h1,h2]; omega
   ·by_cases h2:i.Seq < b.Seq <;> simp[List.filter_cons,h1,h2] <;> omega
 have:=this l
 unfold n7
 simp only[List.length_append,List.length_cons]
 omega
theorem zQ {P:aV→Prop} {l:List aV} {i:bL} {a:cA} (h:∀x∈l,P x) (h1:∀x∈l,P { x with Locs:=jL x.Locs a}) (h2:P { Seq:=i.Seq,Of:=i.Of,Locs:=jL [] a}):∀x∈n7 l i a,P x:=by
 intro x hx
 unfold n7 at hx
 rcases List.mem_append.1 hx with hx | hx
 ·exact h x (List.mem_filter.1 hx).1
 ·rcases List.mem_cons.1 hx with rfl | hx
  ·rcases BS l i with e | e
   ·exact h1 _ e
   ·rw[e]; exact h2
  ·exact h x (List.mem_filter.1 hx).1
theorem BT {l:List aV} {i:bL} {a:cA} (h:l.Pairwise λy x=>y.Seq < x.Seq):(n7 l i a).Pairwise λy x=>y.Seq < x.Seq:=by
 unfold n7
 have hs:=zM l i
 refine List.pairwise_append.2 ⟨h.sublist List.filter_sublist,List.pairwise_cons.2 ⟨λy hy=> ?_,h.sublist List.filter_sublist⟩,λy hy z hz=> ?_⟩
 ·have:=of_decide_eq_true (List.mem_filter.1 hy).2
  simp only[hs]; exact this
 ·have h1:=of_decide_eq_true (List.mem_filter.1 hy).2
  rcases List.mem_cons.1 hz with rfl | hz
  ·simp only[hs]; exact h1
  ·have:=of_decide_eq_true (List.mem_filter.1 hz).2
   omega
theorem tV {l:List cA} {a:cA} (h:gL i7 l) (ha:i7 a):gL i7 (jL l a):=λx hx=>by
 rcases zK.1 hx with h1 | rfl
 ·exact h x h1
 ·exact ha
theorem uY {l:List aB} {f:aB→aB} (h:∀y,(f y).Id=y.Id) (hr:HW l):HW (l.map f):=by
 rw[E7] at*
 refine⟨λx hx=> ?_,List.pairwise_map.2 (hr.2.imp fun {a b} e=>by rw[h a,h b]; exact e)⟩
 obtain⟨y,hy,rfl⟩:=List.mem_map.1 hx
 rw[h y]; exact hr.1 y hy
theorem Wm.step {n:Nat} {c:aD} {i:bL} {a:cA} (p:Int) (h:Wm n c) (hi:It i) (ha:i7 a):Wm (n+1) (BR p c i a):=by
 obtain⟨g0,g1,g2,g3,g4⟩:=h.g
 have hq:=h.q
 have hiq:=hi.q0
 have hsq:0≤(BR p c i a).Seq∧(BR p c i a).Seq≤1073741826∧c.Seq≤(BR p c i a).Seq∧(i.Kind=3→i.Seq < (BR p c i a).Seq):=by
  show 0≤(if i.Kind=3 then max c.Seq (i.Seq+1) else c.Seq)∧(if i.Kind=3 then max c.Seq (i.Seq+1) else c.Seq)≤_∧c.Seq≤(if i.Kind=3 then max c.Seq (i.Seq+1) else c.Seq)∧(i.Kind=3→i.Seq < (if i.Kind=3 then max c.Seq (i.Seq+1) else c.Seq))
  split <;> omega
 have el:∀P:aV→Prop,(∀x∈c.Exps,P x)→(∀x∈c.Exps,P { x with Locs:=jL x.Locs a})→(i.Kind=3→P { Seq:=i.Seq,Of:=i.Of,Locs:=jL [] a})→∀x∈(BR p c i a).Exps,P x:=λP h1 h2 h3 x hx=>by
  have hx:x∈(if i.Kind=3 then n7 c.Exps i a else c.Exps):=hx
  split at hx
  ·rename_i k; exact zQ h1 h2 (h3 k) x hx
  ·exact h1 x hx
 have cl:∀P:aB→Prop,(∀x∈c.Chunks,∀l d s,(l=x.Locs∨l=jL x.Locs a)→(d=x.Data∨d= [])→P { Id:=x.Id,Staged:=s,Data:=d,Locs:=l})→∀x∈(BR p c i a).Chunks,P x:=λP h1 x hx=>by
  obtain⟨y,hy,rfl⟩:=List.mem_map.1 hx
  obtain⟨z,hz,rfl⟩:=List.mem_map.1 hy
  unfold JN JM
  split <;> split <;> first | exact h1 z hz _ _ _ (.inr rfl) (.inr rfl) | exact h1 z hz _ _ _ (.inl rfl) (.inr rfl) | exact h1 z hz _ _ _ (.inr rfl) (.inl rfl) | exact h1 z hz _ _ _ (.inl rfl) (.inl rfl)
 have sl:∀P:aF→Prop,(∀x∈c.Snaps,∀l,(l=x.Locs∨l=jL x.Locs a)→P { x with Locs:=l})→∀x∈(BR p c i a).Snaps,P x:=λP h1 x hx=>by
  obtain⟨z,hz,rfl⟩:=List.mem_map.1 hx
  unfold IV
  split
  ·exact h1 z hz _ (.inr rfl)
  ·exact h1 z hz _ (.inl rfl)
 have pl:∀l l':List cA,(l'=l∨l'=jL l a)→l.length≤n→l'.length≤n+1:=λl l' e hl=>by
  rcases e with rfl | rfl
  ·omega
  ·rw[r8]; omega
 have pg:∀l l':List cA,(l'=l∨l'=jL l a)→gL i7 l→gL i7 l':=λl l' e hl=>by
  rcases e with rfl | rfl
  ·exact hl
  ·exact tV hl ha
 have p0:(jL [] a).length≤n+1:=by rw[r8]; simp
 refine⟨⟨⟨by omega,by omega⟩,sl _ λx hx l e=>⟨(g1 x hx).1,(g1 x hx).2.1,pg _ _ e (g1 x hx).2.2⟩,cl _ λx hx l d s e e2=>⟨(g2 x hx).1,trivial, ?_,pg _ _ e (g2 x hx).2.2.2⟩,el _ g3 (λx hx=>⟨(g3 x hx).1,(g3 x hx).2.1,tV (g3 x hx).2.2 ha⟩) λ_=>⟨⟨by show _≤i.Seq; omega,by show i.Seq < _; omega⟩,hi.of,tV (λ_ h=>by cases h) ha⟩,g4⟩,uY (E9 p i) (uY (E8 i a) h.r), ?_,cl _ λx hx l d s e e2=>⟨pl _ _ e (h.cl x hx).1, ?_⟩,List.pairwise_map.2 (h.so.imp fun {y z} e=>by rw[(uX i a y).1,(uX i a z).1]; exact e), ?_,sl _ λx hx l e=>pl _ _ e (h.sl x hx),sl _ λx hx l e=>h.man x hx, ?_, ?_,el _ (λx hx=>Nat.le_succ_of_le (h.el x hx)) (λx hx=>pl _ _ (.inr rfl) (h.el x hx)) λ_=>p0, ?_,⟨hsq.1,hsq.2.1⟩,h.vo⟩
 ·rcases e2 with rfl | rfl
  ·exact(g2 x hx).2.2.1
  ·intro z hz; cases hz
 ·show ((c.Chunks.map _).map _).length≤_
  simp; exact h.cn
 ·rcases e2 with rfl | rfl
  ·exact(h.cl x hx).2
  ·simp
 ·show (c.Snaps.map _).length≤_
  simp; exact h.sn
 ·show List.Pairwise _ (if i.Kind=3 then n7 c.Exps i a else c.Exps)
  split
  ·exact BT h.eo
  ·exact h.eo
 ·show (if i.Kind=3 then n7 c.Exps i a else c.Exps).length≤_
  have:=h.en
  split
  ·have:=zO c.Exps i a; omega
  ·omega
 ·refine λx hx=>⟨?_, ?_, ?_⟩
  ·exact el (λx=>0≤x.Seq) (λx hx=>(h.eq x hx).1) (λx hx=>(h.eq x hx).1) (λ_=>hiq.1) x hx
  ·exact el (λx=>x.Seq≤1073741824) (λx hx=>(h.eq x hx).2.1) (λx hx=>(h.eq x hx).2.1) (λ_=>hiq.2) x hx
  ·exact el (λx=>x.Seq < (BR p c i a).Seq) (λx hx=>by have:=(h.eq x hx).2.2; omega) (λx hx=>by have:=(h.eq x hx).2.2; simp only; omega) (λk=>hsq.2.2.2 k) x hx
open Go.Vm
def gs (l:List bL):List Int:=l.foldl (λa i=>if i.Kind==3 then mJ a i.Of else a) []
open Go.Vm
def lY (m:Nat) (p0:List Int) (p1:Int) (p2:Int):Option ((List Int)):=
 (o1 m [] p1 p2).bind λy3=>(app p0 y3.1).bind λz0=>some z0
theorem qT {w:Nat} {p0:List Int} {p1:Int} {p2:Int} {o:(List Int)} (h:aA) {t_p0:Option aY} (ot_p0:t_p0=none→p0= []) (K0:aS h [(t_p0,.tok 5 1 ((p0:List Int).length*1))]) (m:lY w p0 p1 p2=some o):
 aG Tryz.prog 95 [ow t_p0 1 (List.map bZ p0),nZ p1,nZ p2] (hp h [(t_p0,.tok 5 1 ((p0:List Int).length*1))]) (λr h'=>∃t,(t=none→o= [])∧aS h [(t,.tok 5 1 (o.length*1))]∧r=ow t 1 (List.map bZ o)∧h'=hp h [(t,.tok 5 1 (o.length*1))]):=by
 refine JH K0 18 [.tmp 6] Tryz.func95 rfl rfl rfl rfl ?_
 unfold lY at m
 refine v (v ?_)
 obtain⟨_,Y4,m⟩:=aE m
 refine ve λu=>cG (fZ (.cons (aP _) (.k2 .nil)) (B5 _ Y4)) rfl B6 rfl ?_
 rintro x h' ⟨tg5,t6,K7,rfl,rfl⟩
 refine qk (aS.co u K7) (eL _ _ _) (v ?_)
 obtain⟨z0,Z0,m⟩:=aE m
 refine ve λu=>fS (c:=bZ) 1 Z0 fO rfl rfl rfl ot_p0 u (vK t6) λtg0 t0 K1=>qk K1 rfl (v ?_)
 obtain rfl:=cX m
 exact vr λu=>eS.one (.inl rfl) (aW (.cons _ (.cons_cons _ (List.nil_sublist _))) u).1 (aN.refl _ _) ⟨tg0,t0,(aW (.cons _ (.cons_cons _ (List.nil_sublist _))) u).2,rfl,rfl⟩
theorem qU:aJ Tryz.prog 95=true:=by kernel_rfl
def mN (m:Nat) (p0:Int) (p1:Int):Option (Bool):=
 after (if (decide (0≤p0))=true then (some (.brk (decide (p0≤p1)))) else some (.brk false):Option (Lp (Bool) (Bool))) λj4=>some j4
theorem r9 {u:Nat} {p0:Int} {p1:Int} {o:Bool} (h:aA) (m:mN u p0 p1=some o):
 aG Tryz.prog 161 [nZ p0,nZ p1] h (λr h'=>r= .sc (.bool o)∧h'=h):=by
 refine fC 12 [.tmp 4] Tryz.func161 rfl rfl rfl rfl ?_
 unfold mN at m
 refine v (vs (eN m (σ:=Bool) (λs=> []) (λs=>.c 4 (.sc (.bool s)) .nil) (λx m=> ?_) ?_))
 refine v ?_
 apply vi m <;> intro b5 m
 rw[b5]
 exact dJ m
 rw[b5]
 exact dJ m
 rintro _ j4 m
 refine v ?_
 obtain rfl:=cX m
 exact cH rfl
theorem mF:aJ Tryz.prog 161=true:=by kernel_rfl
def zR (m:Nat) (p0:bL):Option (Bool):=
 after ((mN m p0.Seq 4294967295).bind λy0=>if (!y0)=true then (some (.brk true)) else (mN m p0.Of 4294967295).bind λy1=>if (!y1)=true then (some (.brk true)) else (mN m p0.Off 16777215).bind λy2=>if (!y2)=true then (some (.brk true)) else (mN m p0.Len 65535).bind λy3=>some (.brk (!y3)):Option (Lp (Bool) (Bool))) λj0=>if j0=true then (some false) else if (p0.Kind==1)=true then (after (if (p0.Seq==0)=true then (some (.brk (p0.Of==0))) else some (.brk false):Option (Lp (Bool) (Bool))) λj1=>some j1) else if (p0.Kind==2)=true then (after (if (decide (p0.Id=lB))=true then (some (.brk (p0.Of==0))) else some (.brk false):Option (Lp (Bool) (Bool))) λj2=>some j2) else after (if (p0.Kind==3)=true then (some (.brk (decide (p0.Id=lB)))) else some (.brk false):Option (Lp (Bool) (Bool))) λj3=>some j3
theorem NG {u:Nat} {p0:bL} {o:Bool} (h:aA) (m:zR u p0=some o):
 aG Tryz.prog 163 [.agg (bB p0)] h (λr h'=>r= .sc (.bool o)∧h'=h):=by
 refine fC 57 [.tmp 2] Tryz.func163 rfl rfl rfl rfl ?_
 unfold zR at m
 refine v (gH rfl rfl λk2 K3=>vs (vs (eN m (σ:=Bool) (λs=> [(some k2,.obj 38 (bB p0))]) (λs=>.c 1 (.ptr k2 0) (.c 24 (.sc (.bool s)) .nil)) (λx m=> ?_) ?_)))
 refine v (vl 0 _ bQ rfl rfl rfl (vk r9 mF m rfl rfl λ_ m=> ?_))
 apply vi m <;> intro b0 m
 rw[b0]
 exact iE m
 rw[b0]
 refine vl 0 _ bQ rfl rfl rfl (vk r9 mF m rfl rfl λ_ m=> ?_)
 apply vi m <;> intro b1 m
 rw[b1]
 exact iE m
 rw[b1]
 refine vl 0 _ bQ rfl rfl rfl (vk r9 mF m rfl rfl λ_ m=> ?_)
 apply vi m <;> intro b2 m
 rw[b2]
 exact iE m
 rw[b2]
 exact vl 0 _ bQ rfl rfl rfl (vk r9 mF m rfl rfl λ_ m=>iE m)
 rintro _ j0 m
 refine v ?_
 apply vi m <;> intro c0 m
 refine v (v ?_)
 obtain rfl:=cX m
 exact cH rfl
 refine v (v (vl 0 _ bQ rfl rfl rfl (v (v (v ?_)))))
 apply vi m <;> intro c1 m
 refine vs (eN m (σ:=Bool) (λs=> [(some k2,.obj 38 (bB p0))]) (λs=>.c 2 (.sc (.bool s)) .nil) (λx m=> ?_) ?_)
 refine v (vl 0 _ bQ rfl rfl rfl ?_)
 apply vi m <;> intro b3 m
 rw[b3]
 exact vl 0 _ bQ rfl rfl rfl (dJ m)
 rw[b3]
 exact dJ m
 rintro _ j1 m
 refine v ?_
 obtain rfl:=cX m
 exact cH rfl
 refine v (v ?_)
 apply vi m <;> intro c2 m
 refine vs (eN m (σ:=Bool) (λs=> [(some k2,.obj 38 (bB p0))]) (λs=>.c 2 (.sc (.bool s)) .nil) (λx m=> ?_) ?_)
 refine v (vl 0 (.agg (bH p0.Id)) fW rfl rfl rfl (dK (pY (bH lB) (show oW Tryz.prog 36=some (List.replicate 32 (.int .u8 0),(List.range 32).map λi=>(i,1)) from by kernel_rfl) rfl) (dK (w9 rP A4 u5 BZ rfl rfl) ?_)))
 apply vi m <;> intro b4 m
 rw[b4]
 exact vl 0 _ bQ rfl rfl rfl (dJ m)
 rw[b4]
 exact dJ m
 rintro _ j2 m
 refine v ?_
 obtain rfl:=cX m
 exact cH rfl
 refine v (vs (eN m (σ:=Bool) (λs=> [(some k2,.obj 38 (bB p0))]) (λs=>.c 2 (.sc (.bool s)) .nil) (λx m=> ?_) ?_))
 refine v (vl 0 _ bQ rfl rfl rfl ?_)
 apply vi m <;> intro b5 m
 rw[b5]
 exact vl 0 (.agg (bH p0.Id)) fW rfl rfl rfl (dK (pY (bH lB) (show oW Tryz.prog 36=some (List.replicate 32 (.int .u8 0),(List.range 32).map λi=>(i,1)) from by kernel_rfl) rfl) (dK (w9 rP A4 u5 BZ rfl rfl) (dJ m)))
 rw[b5]
 exact dJ m
 rintro _ j3 m
 refine v ?_
 obtain rfl:=cX m
 exact cH rfl
theorem IW:aJ Tryz.prog 163=true:=by kernel_rfl
def BU (m:Nat) (p0:bL):Option (Bool):=
 (zR m p0).bind λy6=>some (!y6)
theorem NH {u:Nat} {p0:bL} {o:Bool} (h:aA) (m:BU u p0=some o):
 aG Tryz.prog 162 [.agg (bB p0)] h (λr h'=>r= .sc (.bool o)∧h'=h):=by
 refine fC 6 [.tmp 2] Tryz.func162 rfl rfl rfl rfl ?_
 unfold BU at m
 refine v (gH rfl rfl λk2 K3=>v (vl 0 (.agg (bB p0)) vQ rfl rfl rfl (vk NG IW m rfl rfl λ_ m=>v ?_)))
 cases m
 exact cH rfl
theorem IX:aJ Tryz.prog 162=true:=by kernel_rfl
def zS (m:Nat) (p0:aR):Option (Bool):=
 after (if (p0.Snap.Seq==0)=true then (if (p0.Snap.Man.Name.toList==(ByteArray.mk #[]).toList)=true then (some (.brk ((IntKind.wrap .i64 ((p0.Snap.Man.Parts.length:Int)+(p0.Snap.Locs.length:Int)))==0))) else some (.brk false)) else some (.brk false):Option (Lp (Bool) (Bool))) λj8=>if (p0.Kind==1)=true then (after (if (p0.Seq==0)=true then (if (p0.Vol==0)=true then (some (.brk ((p0.Items.length:Int)==0))) else some (.brk false)) else some (.brk false):Option (Lp (Bool) (Bool))) λj0=>some j0) else if (p0.Kind==2)=true then (after (if j8=true then (if ((p0.Chunks.length:Int)==0)=true then (if (p0.Vol==0)=true then (some (.brk ((p0.Items.length:Int)==0))) else some (.brk false)) else some (.brk false)) else some (.brk false):Option (Lp (Bool) (Bool))) λj1=>some j1) else if (p0.Kind==3)=true then (after (if j8=true then (if ((p0.Chunks.length:Int)==0)=true then (some (.brk (p0.Seq==0))) else some (.brk false)) else some (.brk false):Option (Lp (Bool) (Bool))) λj2=>some j2) else after (if j8=true then (if ((p0.Chunks.length:Int)==0)=true then (if (p0.Seq==0)=true then (some (.brk ((p0.Items.length:Int)==0))) else some (.brk false)) else some (.brk false)) else some (.brk false):Option (Lp (Bool) (Bool))) λj3=>some j3
theorem NI {u:Nat} {p0:aR} {o:Bool} (h:aA) (m:zS u p0=some o):
 aG Tryz.prog 158 [.agg (aC p0)] h (λr h'=>r= .sc (.bool o)∧h'=h):=by
 refine fC 98 [.tmp 2] Tryz.func158 rfl rfl rfl rfl ?_
 unfold zS at m
 refine v (gH rfl rfl λk2 K3=>vs (eN m (σ:=Bool) (λs=> [(some k2,.obj 62 (aC p0))]) (λs=>.c 1 (.ptr k2 0) (.c 3 (.sc (.bool s)) .nil)) (λx m=> ?_) ?_))
 refine v (vl 0 _ bQ rfl rfl rfl ?_)
 apply vi m <;> intro b9 m
 rw[b9]
 refine vl 0 _ mQ rfl rfl rfl (dK (sN rfl rfl rfl trivial) ?_)
 apply vi m <;> intro b0 m
 rw[b0]
 exact vl 0 _ fX rfl rfl rfl (cI kR rfl (vl 0 _ gK rfl rfl rfl (cI i6 rfl (iE m))))
 rw[b0]
 exact iE m
 rw[b9]
 exact iE m
 rintro _ j8 m
 refine v (vl 0 _ bQ rfl rfl rfl (v (v (v ?_))))
 apply vi m <;> intro c0 m
 refine vs (eN m (σ:=Bool) (λs=> [(some k2,.obj 62 (aC p0))]) (λs=>.c 2 (.sc (.bool s)) .nil) (λx m=> ?_) ?_)
 refine v (vl 0 _ bQ rfl rfl rfl ?_)
 apply vi m <;> intro b1 m
 rw[b1]
 refine vl 0 _ bQ rfl rfl rfl ?_
 apply vi m <;> intro b2 m
 rw[b2]
 exact vl 0 _ jX rfl rfl rfl (cI jW rfl (dJ m))
 rw[b2]
 exact dJ m
 rw[b1]
 exact dJ m
 rintro _ j0 m
 refine v ?_
 obtain rfl:=cX m
 exact cH rfl
 refine v (v ?_)
 apply vi m <;> intro c1 m
 refine vs (eN m (σ:=Bool) (λs=> [(some k2,.obj 62 (aC p0))]) (λs=>.c 2 (.sc (.bool s)) .nil) (λx m=> ?_) ?_)
 refine v ?_
 apply vi m <;> intro b3 m
 rw[b3]
 refine vl 0 _ dW rfl rfl rfl (cI gJ rfl ?_)
 apply vi m <;> intro b4 m
 rw[b4]
 refine vl 0 _ bQ rfl rfl rfl ?_
 apply vi m <;> intro b5 m
 rw[b5]
 exact vl 0 _ jX rfl rfl rfl (cI jW rfl (dJ m))
 rw[b5]
 exact dJ m
 rw[b4]
 exact dJ m
 rw[b3]
 exact dJ m
 rintro _ j1 m
 refine v ?_
 obtain rfl:=cX m
 exact cH rfl
 refine v (v ?_)
 apply vi m <;> intro c2 m
 refine vs (eN m (σ:=Bool) (λs=> [(some k2,.obj 62 (aC p0))]) (λs=>.c 2 (.sc (.bool s)) .nil) (λx m=> ?_) ?_)
 refine v ?_
 apply vi m <;> intro b6 m
 rw[b6]
 refine vl 0 _ dW rfl rfl rfl (cI gJ rfl ?_)
 apply vi m <;> intro b7 m
 rw[b7]
 exact vl 0 _ bQ rfl rfl rfl (dJ m)
 rw[b7]
 exact dJ m
 rw[b6]
 exact dJ m
 rintro _ j2 m
 refine v ?_
 obtain rfl:=cX m
 exact cH rfl
 refine v (vs (eN m (σ:=Bool) (λs=> [(some k2,.obj 62 (aC p0))]) (λs=>.c 2 (.sc (.bool s)) .nil) (λx m=> ?_) ?_))
 refine v ?_
 apply vi m <;> intro b8 m
 rw[b8]
 refine vl 0 _ dW rfl rfl rfl (cI gJ rfl ?_)
 apply vi m <;> intro b49 m
 rw[b49]
 refine vl 0 _ bQ rfl rfl rfl ?_
 apply vi m <;> intro b50 m
 rw[b50]
 exact vl 0 _ jX rfl rfl rfl (cI jW rfl (dJ m))
 rw[b50]
 exact dJ m
 rw[b49]
 exact dJ m
 rw[b8]
 exact dJ m
 rintro _ j3 m
 refine v ?_
 obtain rfl:=cX m
 exact cH rfl
theorem IY:aJ Tryz.prog 158=true:=by kernel_rfl
def zT (m:Nat) (p0:aB):Option (Bool):=
 some (decide (255 < (p0.Data.length:Int)))
theorem NJ {u:Nat} {p0:aB} {o:Bool} (h:aA) (m:zT u p0=some o):
 aG Tryz.prog 160 [.agg (aI p0)] h (λr h'=>r= .sc (.bool o)∧h'=h):=by
 refine fC 7 [.tmp 2] Tryz.func160 rfl rfl rfl rfl ?_
 unfold zT at m
 refine v (gH rfl rfl λk2 K3=>v (vl 0 _ lM rfl rfl rfl (cI iG rfl (v ?_))))
 cases m
 exact cH rfl
theorem IZ:aJ Tryz.prog 160=true:=by kernel_rfl
def I0 (m:Nat) (p0:aR):Option (Bool):=
 (zS m p0).bind λy7=>if (!y7)=true then (some false) else if (p0.Kind==1)=true then ((tQ m p0.Chunks (λx0=>zT m x0)).bind λy0=>after ((mN m p0.Snap.Seq 4294967295).bind λy1=>if y1=true then (if ((p0.Snap.Locs.length:Int)==0)=true then ((rT m p0.Snap.Man).bind λy2=>if (y2==0)=true then (if (decide ((p0.Chunks.length:Int)≤65535))=true then ((v9 m p0.Chunks).bind λy3=>if y3=true then (some (.brk (!y0))) else some (.brk false)) else some (.brk false)) else some (.brk false)) else some (.brk false)) else some (.brk false):Option (Lp (Bool) (Bool))) λj0=>some j0) else if (p0.Kind==2)=true then ((mN m p0.Seq 4294967295).bind λy4=>some y4) else if (p0.Kind==3)=true then (after ((mN m p0.Vol 255).bind λy5=>if y5=true then (if (decide ((p0.Items.length:Int)≤255))=true then ((yX m p0.Items (λx0=>BU m x0)).bind λy6=>some (.brk (!y6))) else some (.brk false)) else some (.brk false):Option (Lp (Bool) (Bool))) λj1=>some j1) else after (if (p0.Kind==4)=true then (some (.brk (p0.Kind==4))) else some (.brk (p0.Kind==5)):Option (Lp (Bool) (Bool))) λj2=>if j2=true then ((mN m p0.Vol 255).bind λy8=>some y8) else some false
theorem QP {u:Nat} {p0:aR} {o:Bool} (h:aA) (m:I0 u p0=some o):
 aG Tryz.prog 94 [.agg (aC p0)] h (λr h'=>r= .sc (.bool o)∧h'=h):=by
 refine fC 75 [.tmp 2] Tryz.func94 rfl rfl rfl rfl ?_
 unfold I0 at m
 refine v (gH rfl rfl λk2 K3=>v (vl 0 (.agg (aC p0)) mL rfl rfl rfl (vk NI IY m rfl rfl λ_ m=>v ?_)))
 apply vi m <;> intro c9 m
 refine v (v ?_)
 obtain rfl:=cX m
 exact cH rfl
 refine v (v (vl 0 _ bQ rfl rfl rfl (v (v (v ?_)))))
 apply vi m <;> intro c0 m
 refine v (vl 0 _ dW rfl rfl rfl ?_)
 obtain⟨_,Y0,m⟩:=aE m
 refine dK (cK (IJ _ IZ (λx0 o h0 hs ho=>NJ _ ho) Y0) rfl CE rfl) (vs (eN m (σ:=Bool) (λs=> [(some k2,.obj 62 (aC p0))]) (λs=>.c 2 (.sc (.bool s)) .nil) (λx m=> ?_) ?_))
 refine v (vl 0 _ bQ rfl rfl rfl (vk r9 mF m rfl rfl λ_ m=> ?_))
 apply vi m <;> intro b0 m
 rw[b0]
 refine vl 0 _ gK rfl rfl rfl (cI i6 rfl ?_)
 apply vi m <;> intro b1 m
 rw[b1]
 refine vl 0 (.agg (aH p0.Snap.Man)) kT rfl rfl rfl (vk A7 uN m rfl rfl λ_ m=> ?_)
 apply vi m <;> intro b2 m
 rw[b2]
 refine vl 0 _ dW rfl rfl rfl (cI gJ rfl ?_)
 apply vi m <;> intro b3 m
 rw[b3]
 refine vl 0 _ dW rfl rfl rfl (vk IK CF m rfl rfl λ_ m=> ?_)
 apply vi m <;> intro b4 m
 rw[b4]
 exact dJ m
 rw[b4]
 exact dJ m
 rw[b3]
 exact dJ m
 rw[b2]
 exact dJ m
 rw[b1]
 exact dJ m
 rw[b0]
 exact dJ m
 rintro _ j0 m
 refine v ?_
 obtain rfl:=cX m
 exact cH rfl
 refine v (v ?_)
 apply vi m <;> intro c1 m
 refine v (vl 0 _ bQ rfl rfl rfl (vk r9 mF m rfl rfl λ_ m=>v ?_))
 obtain rfl:=cX m
 exact cH rfl
 refine v (v ?_)
 apply vi m <;> intro c2 m
 refine vs (eN m (σ:=Bool) (λs=> [(some k2,.obj 62 (aC p0))]) (λs=>.c 2 (.sc (.bool s)) .nil) (λx m=> ?_) ?_)
 refine v (vl 0 _ bQ rfl rfl rfl (vk r9 mF m rfl rfl λ_ m=> ?_))
 apply vi m <;> intro b5 m
 rw[b5]
 refine vl 0 _ jX rfl rfl rfl (cI jW rfl ?_)
 apply vi m <;> intro b6 m
 rw[b6]
 refine vl 0 _ jX rfl rfl rfl ?_
 obtain⟨_,Y1,m⟩:=aE m
 exact dK (cK (M0 _ IX (λx0 o h0 hs ho=>NH _ ho) Y1) rfl ID rfl) (dJ m)
 rw[b6]
 exact dJ m
 rw[b5]
 exact dJ m
 rintro _ j1 m
 refine v ?_
 obtain rfl:=cX m
 exact cH rfl
 refine v (eN m (σ:=Bool) (λs=> [(some k2,.obj 62 (aC p0))]) (λs=>.c 1 (.ptr k2 0) (.c 69 (.sc (.bool s)) .nil)) (λx m=> ?_) ?_)
 refine v ?_
 apply vi m <;> intro c3 m
 exact v (iE m)
 exact v (iE m)
 rintro _ j2 m
 refine v ?_
 apply vi m <;> intro c4 m
 refine v (vl 0 _ bQ rfl rfl rfl (vk r9 mF m rfl rfl λ_ m=>v ?_))
 obtain rfl:=cX m
 exact cH rfl
 refine v (v (v ?_))
 obtain rfl:=cX m
 exact cH rfl
theorem NK:aJ Tryz.prog 94=true:=by kernel_rfl
def lZ (m:Nat) (p0:aR) (q0:List Int) (q1:Int):Option (Lp ((List Int)×Int) (Lp ((List Int)) ((List Int)×Int))):=
 if (decide (q1 < (p0.Chunks.length:Int)))=true then ((ix p0.Chunks q1).bind λx0=>(app q0 x0.Id.1).bind λz0=>(lY m z0 (x0.Data.length:Int) 1).bind λy0=>(app y0 x0.Data).bind λz1=>some (.go (z1,IntKind.wrap .i64 (q1+1)))) else some (.brk (q0,q1))
def l5 (m:Nat) (p0:aR) (q0:List Int) (q1:Int):Option (Lp ((List Int)×Int) (Lp ((List Int)) (Lp ((List Int)) (Lp ((List Int)) ((List Int)×Int))))):=
 if (decide (q1 < (p0.Items.length:Int)))=true then ((ix p0.Items q1).bind λx0=>(app q0 ([IntKind.wrap .u8 x0.Kind]:List Int)).bind λz0=>(app z0 x0.Id.1).bind λz1=>(lY m z1 x0.Seq 4).bind λy0=>(lY m y0 x0.Of 4).bind λy1=>(lY m y1 x0.Off 3).bind λy2=>(lY m y2 x0.Len 2).bind λy3=>some (.go (y3,IntKind.wrap .i64 (q1+1)))) else some (.brk (q0,q1))
def CG (m:Nat) (p0:aR):Option ((List Int)×Int):=
 (I0 m p0).bind λy7=>if (!y7)=true then (some ([],1)) else after (if (p0.Kind==1)=true then ((FD m p0.Snap.Man).bind λy0=>(lY m ([IntKind.wrap .u8 p0.Kind]:List Int) p0.Snap.Seq 4).bind λy1=>(lY m y1 (y0.1.length:Int) 4).bind λy2=>(app y2 y0.1).bind λz0=>(lY m z0 (p0.Chunks.length:Int) 2).bind λy3=>after (bC (λs=>lZ m p0 s.1 s.2) m (y3,0)) λ⟨r0,r1⟩=>some (.brk r0)) else after (if (p0.Kind==2)=true then ((lY m ([IntKind.wrap .u8 p0.Kind]:List Int) p0.Seq 4).bind λy4=>some (.brk y4)) else after (if (p0.Kind==3)=true then ((app ([IntKind.wrap .u8 p0.Kind]:List Int) ([IntKind.wrap .u8 p0.Vol,IntKind.wrap .u8 (p0.Items.length:Int)]:List Int)).bind λz1=>after (bC (λs=>l5 m p0 s.1 s.2) m (z1,0)) λ⟨r2,r3⟩=>some (.brk r2)) else (app ([IntKind.wrap .u8 p0.Kind]:List Int) ([IntKind.wrap .u8 p0.Vol]:List Int)).bind λz2=>some (.brk z2):Option (Lp ((List Int)) (Lp ((List Int)) (Lp ((List Int)) ((List Int)×Int))))) λj0=>some (.brk j0):Option (Lp ((List Int)) (Lp ((List Int)) ((List Int)×Int)))) λj1=>some (.brk j1):Option (Lp ((List Int)) ((List Int)×Int))) λj2=>(B3 m j2).bind λy5=>some (y5,0)
theorem PF {w:Nat} {p0:aR} {o:(List Int)×Int} (h:aA) (m:CG w p0=some o):
 aG Tryz.prog 40 [.agg (aC p0)] h (λr h'=>r= .tup [.sl none 1 (List.map bZ o.1),nZ o.2]∧h'=h):=by
 refine fC 120 [.tmp 2,.tmp 3] Tryz.func40 rfl rfl rfl rfl ?_
 unfold CG at m
 refine v (gH rfl rfl λk2 K3=>v (vl 0 (.agg (aC p0)) mL rfl rfl rfl (vk QP NK m rfl rfl λ_ m=>v ?_)))
 apply vi m <;> intro c9 m
 refine v (v ?_)
 cases m
 exact vr λu=>eS.of2 (.inl rfl) (mA _ _ (.sc (.slice _ _ _)) rfl) (mA _ _ (.sc (.int _ _)) rfl) (aW (List.nil_sublist _) u).1 (aP _) (aN.refl _ _) ⟨rfl,rfl⟩
 refine v (v (vl 0 _ bQ rfl rfl rfl (ve λu=>wY (c:=bZ) ([IntKind.wrap .u8 p0.Kind]:List Int) u fO rfl rfl rfl rfl λtg0 t0 K0=>qk K0 rfl (v (vl 1 _ bQ rfl rfl rfl (v (v (FB m (σ:=(List Int)) (τ:=Option aY) (λg s=> [(g,.tok 5 1 ((s:List Int).length*1)),(some k2,.obj 62 (aC p0))]) (λg s=>(g=none→s= [])) (λg s=>.c 4 (ow g 1 (List.map bZ s)) .nil) (λx m=> ?_) ?_))))))))
 refine v ?_
 apply vi m <;> intro c0 m
 refine v (vl 1 (.agg (aH p0.Snap.Man)) kT rfl rfl rfl (vk OS G9 m rfl rfl λ_ m=>v (vl 1 _ bQ rfl rfl rfl ?_)))
 obtain⟨y0,Y0,m⟩:=aE m
 refine ve λu=> ?_
 have ho0:=i9 (A:= [(tg0,.tok 5 1 ((([IntKind.wrap .u8 p0.Kind]:List Int):List Int).length*1))]) (R:= [(some k2,.obj 62 (aC p0))]) u [[_], [_]] rfl [0] [1] rfl rfl rfl
 refine eX ho0.1 (cG (qT _ t0 ho0.2.2 Y0) rfl qU rfl ?_)
 rintro x h' ⟨tg1,t1,K1,rfl,rfl⟩
 have K2:=iP (L':= [(tg1,.tok 5 1 ((y0:List Int).length*1)),(some k2,.obj 62 (aC p0))]) ho0.2.1 K1 [[_]] [[_]] rfl rfl [0,1] rfl rfl
 refine qk K2.2 K2.1 (cI iG rfl ?_)
 obtain⟨y1,Y1,m⟩:=aE m
 refine ve λu=> ?_
 have ho1:=i9 (A:= [(tg1,.tok 5 1 ((y0:List Int).length*1))]) (R:= [(some k2,.obj 62 (aC p0))]) u [[_], [_]] rfl [0] [1] rfl rfl rfl
 refine eX ho1.1 (cG (qT _ t1 ho1.2.2 Y1) rfl qU rfl ?_)
 rintro x h' ⟨tg2,t2,K4,rfl,rfl⟩
 have K5:=iP (L':= [(tg2,.tok 5 1 ((y1:List Int).length*1)),(some k2,.obj 62 (aC p0))]) ho1.2.1 K4 [[_]] [[_]] rfl rfl [0,1] rfl rfl
 refine qk K5.2 K5.1 ?_
 obtain⟨z0,Z0,m⟩:=aE m
 refine ve λu=>fS (c:=bZ) 0 Z0 fO rfl rfl rfl t2 u rfl λtg3 t3 K6=>qk K6 rfl (v (vl 1 _ dW rfl rfl rfl (cI gJ rfl ?_)))
 obtain⟨y2,Y2,m⟩:=aE m
 refine ve λu=> ?_
 have ho2:=i9 (A:= [(tg3,.tok 5 1 ((z0:List Int).length*1))]) (R:= [(some k2,.obj 62 (aC p0))]) u [[_], [_]] rfl [0] [1] rfl rfl rfl
 refine eX ho2.1 (cG (qT _ t3 ho2.2.2 Y2) rfl qU rfl ?_)
 rintro x h' ⟨tg4,t4,K7,rfl,rfl⟩
 have K8:=iP (L':= [(tg4,.tok 5 1 ((y2:List Int).length*1)),(some k2,.obj 62 (aC p0))]) ho2.2.1 K7 [[_]] [[_]] rfl rfl [0,1] rfl rfl
 refine qk K8.2 K8.1 (v (vl 1 _ dW rfl rfl rfl (cI gJ rfl (AY m (σ:=(List Int)×Int) (τ:=Option aY) (λg s=> [(g,.tok 5 1 ((s.1:List Int).length*1)),(some k2,.obj 62 (aC p0))]) (λg s=>(g=none→s.1= [])) (λg s=>.c 4 (ow g 1 (List.map bZ s.1)) (.c 51 (.sl none 35 (List.map aI p0.Chunks)) (.c 52 (nZ (p0.Chunks.length:Int)) (.c 53 (nZ s.2) .nil)))) tg4 t4 (lx (.k4 .nil)) ?_ ?_))))
 rintro tg5 ⟨q0,q1⟩ x t5 m
 replace m:lZ w p0 q0 q1=some x:=m
 unfold lZ at m
 refine v (v ?_)
 apply vi m <;> intro c1 m
 refine v (v (v (vx m e9 rfl rfl λx0 _ m=>va (.agg (aI x0)) rQ rfl rfl (ve λu=>bN (bH lB++(I9:List AV)) u vT rfl rfl λk1507 K9=>qk K9 rfl (ve λu=>aQ 0 (aI x0) u rfl rfl rfl rfl DP rfl rfl λK10=>qk K10 rfl (v (dK (rK xR rfl) ?_)))))))
 obtain⟨z1,Z1,m⟩:=aE m
 refine ve λu=>fS (c:=bZ) 1 Z1 fO rfl rfl rfl t5 u (m9 (bF 0 u rfl) rfl rfl) λtg6 t6 K11=>qk K11 rfl (v (vz [(1000000,some k1507,.obj 44 (aI x0))] mixed (λu=>⟨λ_=>aX 0 u rfl,trivial⟩) λu=>zC 0 rfl (gG (ow _ _ _) rfl) (zF 1 rfl lN rfl (zL 2 0 (.sl none 1 (List.map bZ x0.Data)) rfl lM rfl rfl rfl (zC 3 rfl (wU iG rfl) (zF 5 rfl lN rfl (zL 6 0 (.sl none 1 (List.map bZ x0.Data)) rfl lM rfl rfl rfl ?_)))))))
 obtain⟨y3,Y3,m⟩:=aE m
 refine zE 4 rfl ?_
 have ho3:=i9 (A:= [(tg6,.tok 5 1 ((z1:List Int).length*1))]) (R:= [(some k1507,.obj 44 (aI x0)),(some k2,.obj 62 (aC p0))]) u [[_], [_], [_]] rfl [1] [0,2] rfl rfl rfl
 refine eX ho3.1 (cG (qT _ t6 ho3.2.2 Y3) rfl qU rfl ?_)
 rintro x h' ⟨tg7,t7,K12,rfl,rfl⟩
 have K13:=iP (L':= [(some k1507,.obj 44 (aI x0)),(tg7,.tok 5 1 ((y3:List Int).length*1)),(some k2,.obj 62 (aC p0))]) ho3.2.1 K12 [[_]] [[_], [_]] rfl rfl [1,0,2] rfl rfl
 refine nC K13.1 (⟨⟨λ_=>aX 0 K13.2 rfl,trivial⟩, ?_⟩)
 obtain⟨z2,Z2,m⟩:=aE m
 refine zE 7 rfl (fS (c:=bZ) 1 Z2 fO rfl rfl rfl t7 K13.2 rfl λtg8 t8 K15=>⟨⟨λ_=>aX 0 K15 rfl,trivial⟩, ?_⟩)
 exact zC 8 rfl (eW (ow _ _ _) rfl) (zX (qk (f:=.c 4 _ (.c 68 _ (.c 65 _ (.c 67 _ (.c 66 _ (OD 64 _ _ _ _ _)))))) K15 rfl (v (kP m tg8 t8 (p4 [1,2] rfl rfl (.k4 .nil))))))
 exact v (p5 m tg5 t5 (lx (.k4 .nil)))
 rintro tg9 ⟨r0,r1⟩ t9 m
 exact kP m tg9 t9 (lx (.cons (aN.refl _ _) .nil))
 refine v (FB m (σ:=(List Int)) (τ:=Option aY) (λg s=> [(g,.tok 5 1 ((s:List Int).length*1)),(some k2,.obj 62 (aC p0))]) (λg s=>(g=none→s= [])) (λg s=>.c 4 (ow g 1 (List.map bZ s)) .nil) (λx m=> ?_) ?_)
 refine v ?_
 apply vi m <;> intro c2 m
 refine v (vl 1 _ bQ rfl rfl rfl ?_)
 obtain⟨y4,Y4,m⟩:=aE m
 refine ve λu=> ?_
 have ho4:=i9 (A:= [(tg0,.tok 5 1 ((([IntKind.wrap .u8 p0.Kind]:List Int):List Int).length*1))]) (R:= [(some k2,.obj 62 (aC p0))]) u [[_], [_]] rfl [0] [1] rfl rfl rfl
 refine eX ho4.1 (cG (qT _ t0 ho4.2.2 Y4) rfl qU rfl ?_)
 rintro x h' ⟨tg10,t10,K16,rfl,rfl⟩
 have K17:=iP (L':= [(tg10,.tok 5 1 ((y4:List Int).length*1)),(some k2,.obj 62 (aC p0))]) ho4.2.1 K16 [[_]] [[_]] rfl rfl [0,1] rfl rfl
 exact qk K17.2 K17.1 (kP m tg10 t10 (lx (.cons (aN.refl _ _) .nil)))
 refine v (FB m (σ:=(List Int)) (τ:=Option aY) (λg s=> [(g,.tok 5 1 ((s:List Int).length*1)),(some k2,.obj 62 (aC p0))]) (λg s=>(g=none→s= [])) (λg s=>.c 4 (ow g 1 (List.map bZ s)) .nil) (λx m=> ?_) ?_)
 refine v ?_
 apply vi m <;> intro c3 m
 refine v (vl 1 _ bQ rfl rfl rfl (vl 1 _ jX rfl rfl rfl (cI jW rfl (dK (iW (List.map bZ ([IntKind.wrap .u8 p0.Vol,IntKind.wrap .u8 (p0.Items.length:Int)]:List Int)) fO rfl rfl rfl rfl) ?_))))
 obtain⟨z3,Z3,m⟩:=aE m
 refine ve λu=>fS (c:=bZ) 0 Z3 fO rfl rfl rfl t0 u rfl λtg11 t11 K18=>qk K18 rfl (v (vl 1 _ jX rfl rfl rfl (cI jW rfl (AY m (σ:=(List Int)×Int) (τ:=Option aY) (λg s=> [(g,.tok 5 1 ((s.1:List Int).length*1)),(some k2,.obj 62 (aC p0))]) (λg s=>(g=none→s.1= [])) (λg s=>.c 4 (ow g 1 (List.map bZ s.1)) (.c 89 (.sl none 37 (List.map bB p0.Items)) (.c 90 (nZ (p0.Items.length:Int)) (.c 91 (nZ s.2) .nil)))) tg11 t11 (lx (.k4 .nil)) ?_ ?_))))
 rintro tg13 ⟨q2,q3⟩ x t12 m
 replace m:l5 w p0 q2 q3=some x:=m
 unfold l5 at m
 refine v (v ?_)
 apply vi m <;> intro c4 m
 refine v (v (v (vx m xQ rfl rfl λx1 _ m=>va (.agg (bB x1)) vQ rfl rfl (ve λu=>bN (([nZ 0]:List AV)++bH lB++(BW:List AV)) u vS rfl rfl λk2640 K19=>qk K19 rfl (ve λu=>aQ 0 (bB x1) u rfl rfl rfl rfl vR rfl rfl λK20=>qk K20 rfl (v (vz [(1000000,some k2640,.obj 38 (bB x1))] mixed (λu=>⟨λ_=>aX 0 u rfl,trivial⟩) λu=>zC 0 rfl (gG (ow _ _ _) rfl) (zF 1 rfl DC rfl (zL 2 0 (nZ x1.Kind) rfl bQ rfl rfl rfl (zC 3 rfl (FW ON OP rfl) (zC 4 rfl (iW (List.map bZ ([IntKind.wrap .u8 x1.Kind]:List Int)) fO rfl rfl rfl rfl) (zF 6 rfl DE rfl (zC 7 rfl (rK xR rfl) ?_)))))))))))))
 obtain⟨z4,Z4,m⟩:=aE m
 refine zE 5 rfl (fS (c:=bZ) 1 Z4 fO rfl rfl rfl t12 u rfl λtg14 t14 K21=>⟨⟨λ_=>aX 0 K21 rfl,trivial⟩, ?_⟩)
 obtain⟨z5,Z5,m⟩:=aE m
 refine zE 8 rfl (fS (c:=bZ) 1 Z5 fO rfl rfl rfl t14 K21 (m9 (bF 0 K21 rfl) rfl rfl) λtg15 t15 K22=>⟨⟨λ_=>aX 0 K22 rfl,trivial⟩, ?_⟩)
 refine zC 9 rfl (eW (ow _ _ _) rfl) (zX (qk (f:=.c 4 _ (.c 103 _ (.c 100 _ (.c 102 _ (.c 101 _ (OE 99 _ _ _ _ _ _)))))) K22 rfl (v (vz [(1000000,some k2640,.obj 38 (bB x1))] mixed (λu=>⟨λ_=>aX 0 u rfl,trivial⟩) λu=>zC 0 rfl (gG (ow _ _ _) rfl) (zF 1 rfl DG rfl (zL 2 0 (nZ x1.Seq) rfl bQ rfl rfl rfl (zF 4 rfl DI rfl (zL 5 0 (nZ x1.Of) rfl bQ rfl rfl rfl (zF 7 rfl DK rfl (zL 8 0 (nZ x1.Off) rfl bQ rfl rfl rfl (zF 10 rfl DM rfl (zL 11 0 (nZ x1.Len) rfl bQ rfl rfl rfl ?_))))))))))))
 obtain⟨y5,Y5,m⟩:=aE m
 refine zE 3 rfl ?_
 have ho5:=i9 (A:= [(tg15,.tok 5 1 ((z5:List Int).length*1))]) (R:= [(some k2640,.obj 38 (bB x1)),(some k2,.obj 62 (aC p0))]) u [[_], [_], [_]] rfl [1] [0,2] rfl rfl rfl
 refine eX ho5.1 (cG (qT _ t15 ho5.2.2 Y5) rfl qU rfl ?_)
 rintro x h' ⟨tg16,t16,K23,rfl,rfl⟩
 have K24:=iP (L':= [(some k2640,.obj 38 (bB x1)),(tg16,.tok 5 1 ((y5:List Int).length*1)),(some k2,.obj 62 (aC p0))]) ho5.2.1 K23 [[_]] [[_], [_]] rfl rfl [1,0,2] rfl rfl
 refine nC K24.1 (⟨⟨λ_=>aX 0 K24.2 rfl,trivial⟩, ?_⟩)
 obtain⟨y6,Y6,m⟩:=aE m
 refine zE 6 rfl ?_
 have ho6:=i9 (A:= [(tg16,.tok 5 1 ((y5:List Int).length*1))]) (R:= [(some k2640,.obj 38 (bB x1)),(some k2,.obj 62 (aC p0))]) K24.2 [[_], [_], [_]] rfl [1] [0,2] rfl rfl rfl
 refine eX ho6.1 (cG (qT _ t16 ho6.2.2 Y6) rfl qU rfl ?_)
 rintro x h' ⟨tg17,t17,K25,rfl,rfl⟩
 have K26:=iP (L':= [(some k2640,.obj 38 (bB x1)),(tg17,.tok 5 1 ((y6:List Int).length*1)),(some k2,.obj 62 (aC p0))]) ho6.2.1 K25 [[_]] [[_], [_]] rfl rfl [1,0,2] rfl rfl
 refine nC K26.1 (⟨⟨λ_=>aX 0 K26.2 rfl,trivial⟩, ?_⟩)
 obtain⟨y7,Y7,m⟩:=aE m
 refine zE 9 rfl ?_
 have ho7:=i9 (A:= [(tg17,.tok 5 1 ((y6:List Int).length*1))]) (R:= [(some k2640,.obj 38 (bB x1)),(some k2,.obj 62 (aC p0))]) K26.2 [[_], [_], [_]] rfl [1] [0,2] rfl rfl rfl
 refine eX ho7.1 (cG (qT _ t17 ho7.2.2 Y7) rfl qU rfl ?_)
 rintro x h' ⟨tg18,t18,K27,rfl,rfl⟩
 have K28:=iP (L':= [(some k2640,.obj 38 (bB x1)),(tg18,.tok 5 1 ((y7:List Int).length*1)),(some k2,.obj 62 (aC p0))]) ho7.2.1 K27 [[_]] [[_], [_]] rfl rfl [1,0,2] rfl rfl
 refine nC K28.1 (⟨⟨λ_=>aX 0 K28.2 rfl,trivial⟩, ?_⟩)
 obtain⟨y8,Y8,m⟩:=aE m
 refine zE 12 rfl ?_
 have ho8:=i9 (A:= [(tg18,.tok 5 1 ((y7:List Int).length*1))]) (R:= [(some k2640,.obj 38 (bB x1)),(some k2,.obj 62 (aC p0))]) K28.2 [[_], [_], [_]] rfl [1] [0,2] rfl rfl rfl
 refine eX ho8.1 (cG (qT _ t18 ho8.2.2 Y8) rfl qU rfl ?_)
 rintro x h' ⟨tg19,t19,K29,rfl,rfl⟩
 have K30:=iP (L':= [(some k2640,.obj 38 (bB x1)),(tg19,.tok 5 1 ((y8:List Int).length*1)),(some k2,.obj 62 (aC p0))]) ho8.2.1 K29 [[_]] [[_], [_]] rfl rfl [1,0,2] rfl rfl
 refine nC K30.1 (⟨⟨λ_=>aX 0 K30.2 rfl,trivial⟩, ?_⟩)
 exact zC 13 rfl (eW (ow _ _ _) rfl) (zX (qk (f:=.c 4 _ (.c 116 _ (.c 113 _ (.c 110 _ (.c 107 _ (.c 115 _ (.c 114 _ (.c 112 _ (.c 111 _ (.c 109 _ (.c 108 _ (.c 106 _ (.c 105 _ (.c 104 _ _)))))))))))))) K30.2 rfl (v (kP m tg19 t19 (p4 [1,2] rfl rfl (.k4 .nil))))))
 exact v (p5 m tg13 t12 (lx (.k4 .nil)))
 rintro tg20 ⟨r2,r3⟩ t20 m
 exact kP m tg20 t20 (lx (.cons (aN.refl _ _) .nil))
 refine v (vl 1 _ bQ rfl rfl rfl (dK (iW (List.map bZ ([IntKind.wrap .u8 p0.Vol]:List Int)) fO rfl rfl rfl rfl) ?_))
 obtain⟨z6,Z6,m⟩:=aE m
 exact ve λu=>fS (c:=bZ) 0 Z6 fO rfl rfl rfl t0 u rfl λtg21 t21 K31=>qk K31 rfl (kP m tg21 t21 (lx (.cons (aN.refl _ _) .nil)))
 rintro tg22 j0 t22 m
 exact kP m tg22 t22 (lx (.cons (aN.refl _ _) .nil))
 rintro tg23 j1 t23 m
 exact kP m tg23 t23 (lx (.cons (aN.refl _ _) .nil))
 rintro tg24 j2 t24 m
 refine v ?_
 obtain⟨_,Y9,m⟩:=aE m
 refine ve λu=>AZ (t:=118) (.sl none 1 (List.map bZ j2)) (aW (List.eraseIdx_sublist _ 0) u).1 (iV _ 0 t24 u rfl (.refl _)) (cG (JJ _ Y9) rfl BA rfl ?_)
 rintro x h' ⟨tg25,t25,K32,rfl,rfl⟩
 refine qk (aS.co ((aW (List.eraseIdx_sublist _ 0) u).2) K32) (eL _ _ _) (v ?_)
 cases m
 exact vr λu=>eS.of2 (.inl rfl) (mA _ _ (ow _ _ _) rfl) (mA _ _ (.sc (.int _ _)) rfl) (aW (List.nil_sublist _) u).1 ((m5 _ 0 t25 u rfl)) (aN.refl _ _) ⟨rfl,rfl⟩
theorem I1:aJ Tryz.prog 40=true:=by kernel_rfl
def FF (m:Nat):Option (Bool):=
 (MR m ([0]:List Int)).bind λy3=>(M7 m y3.1 ({ Kind:=1,Snap:=({ Seq:=0,Man:=({ Name:=(ByteArray.mk #[97]),Parts:= []}:aK),Locs:= []}:aF),Chunks:= [],Seq:=0,Vol:=0,Items:= []}:aR)).bind λy0=>(CG m ({ Kind:=1,Snap:=({ Seq:=0,Man:=({ Name:=(ByteArray.mk #[97]),Parts:= []}:aK),Locs:= []}:aF),Chunks:= [],Seq:=0,Vol:=0,Items:= []}:aR)).bind λy1=>after (if (y3.2==0)=true then (if (y0.2==0)=true then (if (y1.2==0)=true then (if ((y0.1.Snaps.length:Int)==1)=true then (if (y0.1.Seq==1)=true then (some (.brk ((y1.1.length:Int)==14))) else some (.brk false)) else some (.brk false)) else some (.brk false)) else some (.brk false)) else some (.brk false):Option (Lp (Bool) (Bool))) λj0=>some j0
theorem PG {w:Nat} {o:Bool} (h:aA) (m:FF w=some o):
 aG Tryz.prog 37 [] h (λr h'=>r= .sc (.bool o)∧h'=h):=by
 refine fC 53 [.tmp 0] Tryz.func37 rfl rfl rfl rfl ?_
 unfold FF at m
 refine v (v (dK (iW (List.map fD ([0]:List Int)) J6 rfl rfl rfl rfl) (vk QG MS m rfl rfl λy3 m=>ve λu=>bN (fU) u s4 rfl rfl λk5 K6=>qk K6 rfl (ve λu=>aQ 0 (aM y3.1) u rfl rfl rfl rfl mK rfl rfl λK8=>qk K8 rfl (v (dK (gQ ([.sc (.string (ByteArray.mk #[97])),sZ]) KD rfl) (dK (gQ ([nZ 0,.sc (.string (ByteArray.mk #[97])),sZ,sZ]) D1 rfl) (dK (gQ ([nZ 1,nZ 0,.sc (.string (ByteArray.mk #[97])),sZ,sZ,sZ,nZ 0,nZ 0,sZ]) GS rfl) (ve λu=>bN (NY) u GT rfl rfl λk10 K0=>qk K0 rfl (ve λu=>aQ 0 ([nZ 1,nZ 0,.sc (.string (ByteArray.mk #[97])),sZ,sZ,sZ,nZ 0,nZ 0,sZ]) u rfl rfl rfl rfl GR rfl rfl λK1=>qk K1 rfl (v (vl 1 (.agg (aM y3.1)) fN rfl rfl rfl (vl 0 (.agg ([nZ 1,nZ 0,.sc (.string (ByteArray.mk #[97])),sZ,sZ,sZ,nZ 0,nZ 0,sZ])) mL rfl rfl rfl ?_)))))))))))))
 obtain⟨y0,Y0,m⟩:=aE m
 refine dK (cK (fZ (.cons (aN.refl _ _) (.cons (aN.agg (.k3 (.cons (aP _) (.cons (aP _) (.cons (aP _) (.k2 (.cons (aP _) .nil))))))) .nil)) (QO _ Y0)) rfl M9 rfl) (ve λu=>bN (fU) u s4 rfl rfl λk17 K2=>qk K2 rfl (ve λu=>aQ 0 (aM y0.1) u rfl rfl rfl rfl mK rfl rfl λK3=>qk K3 rfl (v (vl 1 (.agg ([nZ 1,nZ 0,.sc (.string (ByteArray.mk #[97])),sZ,sZ,sZ,nZ 0,nZ 0,sZ])) mL rfl rfl rfl ?_))))
 obtain⟨_,Y1,m⟩:=aE m
 refine dK (cK (fZ (.cons (aN.agg (.k3 (.cons (aP _) (.cons (aP _) (.cons (aP _) (.k2 (.cons (aP _) .nil))))))) .nil) (PF _ Y1)) rfl I1 rfl) (vs (eN m (σ:=Bool) (λs=> [(some k17,.obj 30 (aM y0.1)),(some k10,.obj 62 ([nZ 1,nZ 0,.sc (.string (ByteArray.mk #[97])),sZ,sZ,sZ,nZ 0,nZ 0,sZ])),(some k5,.obj 30 (aM y3.1))]) (λs=>.c 0 (.sc (.bool s)) .nil) (λx m=> ?_) ?_))
 refine v ?_
 apply vi m <;> intro b0 m
 rw[b0]
 apply vi m <;> intro b1 m
 rw[b1]
 apply vi m <;> intro b2 m
 rw[b2]
 refine vl 0 _ n3 rfl rfl rfl (cI xM rfl ?_)
 apply vi m <;> intro b3 m
 rw[b3]
 refine vl 0 _ bQ rfl rfl rfl ?_
 apply vi m <;> intro b4 m
 rw[b4]
 exact cI iG rfl (dJ m)
 rw[b4]
 exact dJ m
 rw[b3]
 exact dJ m
 rw[b2]
 exact dJ m
 rw[b1]
 exact dJ m
 rw[b0]
 exact dJ m
 rintro _ j0 m
 refine v ?_
 obtain rfl:=cX m
 exact cH rfl
theorem I2:aJ Tryz.prog 37=true:=by kernel_rfl
open Go.Vm
def FG (m:Nat) (p0:aR) (p1:aR):Option (Bool):=
 after (if (p0.Kind==p1.Kind)=true then (if (p0.Seq==p1.Seq)=true then (if (p0.Vol==p1.Vol)=true then ((CA m p0.Snap p1.Snap).bind λy0=>if y0=true then ((H3 m p0.Chunks p1.Chunks).bind λy1=>if y1=true then ((H6 m p0.Items p1.Items).bind λy2=>some (.brk y2)) else some (.brk false)) else some (.brk false)) else some (.brk false)) else some (.brk false)) else some (.brk false):Option (Lp (Bool) (Bool))) λj0=>some j0
theorem PH {u:Nat} {p0:aR} {p1:aR} {o:Bool} (h:aA) (m:FG u p0 p1=some o):
 aG Tryz.prog 99 [.agg (aC p0),.agg (aC p1)] h (λr h'=>r= .sc (.bool o)∧h'=h):=by
 refine fC 45 [.tmp 4] Tryz.func99 rfl rfl rfl rfl ?_
 unfold FG at m
 refine v (gH rfl rfl λk2 K3=>gH rfl rfl λk5 K6=>vs (eN m (σ:=Bool) (λs=> [(some k5,.obj 62 (aC p1)),(some k2,.obj 62 (aC p0))]) (λs=>.c 4 (.sc (.bool s)) .nil) (λx m=> ?_) ?_))
 refine v (vl 1 _ bQ rfl rfl rfl (vl 0 _ bQ rfl rfl rfl ?_))
 apply vi m <;> intro b0 m
 rw[b0]
 refine vl 1 _ bQ rfl rfl rfl (vl 0 _ bQ rfl rfl rfl ?_)
 apply vi m <;> intro b1 m
 rw[b1]
 refine vl 1 _ bQ rfl rfl rfl (vl 0 _ bQ rfl rfl rfl ?_)
 apply vi m <;> intro b2 m
 rw[b2]
 refine vl 1 (.agg (bI p0.Snap)) xV rfl rfl rfl (vl 0 (.agg (bI p1.Snap)) xV rfl rfl rfl (vk OY H5 m rfl rfl λ_ m=> ?_))
 apply vi m <;> intro b3 m
 rw[b3]
 refine vl 1 _ dW rfl rfl rfl (vl 0 _ dW rfl rfl rfl (vk QC MO m rfl rfl λ_ m=> ?_))
 apply vi m <;> intro b4 m
 rw[b4]
 exact vl 1 _ jX rfl rfl rfl (vl 0 _ jX rfl rfl rfl (vk QE MQ m rfl rfl λ_ m=>dJ m))
 rw[b4]
 exact dJ m
 rw[b3]
 exact dJ m
 rw[b2]
 exact dJ m
 rw[b1]
 exact dJ m
 rw[b0]
 exact dJ m
 rintro _ j0 m
 refine v ?_
 obtain rfl:=cX m
 exact cH rfl
theorem I3:aJ Tryz.prog 99=true:=by kernel_rfl
def l6 (m:Nat) (p0:aR) (q0:Int):Option (Lp (Int) (Bool)):=
 if (decide (q0 < (p0.Chunks.length:Int)))=true then (after ((ix p0.Chunks q0).bind λx0=>if (!x0.Staged)=true then (some (.brk true)) else (ix p0.Chunks q0).bind λx1=>if (decide (0 < (x1.Locs.length:Int)))=true then (some (.brk true)) else (ix p0.Chunks q0).bind λx2=>some (.brk (decide (255 < (x2.Data.length:Int)))):Option (Lp (Bool) (Lp (Int) (Bool)))) λj0=>if j0=true then (some (.ret false)) else some (.go (IntKind.wrap .i64 (q0+1)))) else some (.brk q0)
def l7 (m:Nat) (p0:aR) (q0:Int):Option (Lp (Int) (Bool)):=
 if (decide (q0 < (p0.Items.length:Int)))=true then ((ix p0.Items q0).bind λx0=>after ((vW m x0.Kind 1 3).bind λy0=>if (!y0)=true then (some (.brk true)) else (vW m x0.Seq 0 4294967295).bind λy1=>if (!y1)=true then (some (.brk true)) else (vW m x0.Of 0 4294967295).bind λy2=>if (!y2)=true then (some (.brk true)) else (vW m x0.Off 0 16777215).bind λy3=>if (!y3)=true then (some (.brk true)) else (vW m x0.Len 0 65535).bind λy4=>if (!y4)=true then (some (.brk true)) else if (x0.Kind==1)=true then (if (x0.Seq !=0)=true then (some (.brk true)) else if (x0.Of !=0)=true then (some (.brk true)) else if (x0.Kind !=1)=true then (if (!decide (x0.Id=lB))=true then (some (.brk true)) else if (x0.Kind==2)=true then (some (.brk (x0.Of !=0))) else some (.brk false)) else if (x0.Kind==2)=true then (some (.brk (x0.Of !=0))) else some (.brk false)) else if (x0.Kind !=1)=true then (if (!decide (x0.Id=lB))=true then (some (.brk true)) else if (x0.Kind==2)=true then (some (.brk (x0.Of !=0))) else some (.brk false)) else if (x0.Kind==2)=true then (some (.brk (x0.Of !=0))) else some (.brk false):Option (Lp (Bool) (Lp (Int) (Bool)))) λj0=>if j0=true then (some (.ret false)) else some (.go (IntKind.wrap .i64 (q0+1)))) else some (.brk q0)
def I4 (m:Nat) (p0:aR):Option (Bool):=
 if (p0.Kind==1)=true then (after (if (p0.Seq !=0)=true then (some (.brk true)) else if (p0.Vol !=0)=true then (some (.brk true)) else if (decide (0 < (p0.Items.length:Int)))=true then (some (.brk true)) else (vW m p0.Snap.Seq 0 4294967295).bind λy0=>if (!y0)=true then (some (.brk true)) else (HC m p0.Snap.Man).bind λy1=>if (!y1)=true then (some (.brk true)) else if (decide (0 < (p0.Snap.Locs.length:Int)))=true then (some (.brk true)) else some (.brk (decide (65535 < (p0.Chunks.length:Int)))):Option (Lp (Bool) (Bool))) λj0=>if j0=true then (some false) else after (bC (λs=>l6 m p0 s) m 0) λr0=>some true) else if (p0.Kind==2)=true then (after ((vW m p0.Seq 0 4294967295).bind λy2=>if y2=true then ((FG m ({ Kind:=p0.Kind,Snap:=({ Seq:=0,Man:=({ Name:=ByteArray.empty,Parts:= []}:aK),Locs:= []}:aF),Chunks:= [],Seq:=p0.Seq,Vol:=0,Items:= []}:aR) p0).bind λy3=>some (.brk y3)) else some (.brk false):Option (Lp (Bool) (Bool))) λj1=>some j1) else if (p0.Kind==3)=true then (after (if (p0.Seq !=0)=true then (some (.brk true)) else (CA m p0.Snap ({ Seq:=0,Man:=({ Name:=ByteArray.empty,Parts:= []}:aK),Locs:= []}:aF)).bind λy4=>if (!y4)=true then (some (.brk true)) else if (decide (0 < (p0.Chunks.length:Int)))=true then (some (.brk true)) else (vW m p0.Vol 0 255).bind λy5=>if (!y5)=true then (some (.brk true)) else some (.brk (decide (255 < (p0.Items.length:Int)))):Option (Lp (Bool) (Bool))) λj2=>if j2=true then (some false) else after (bC (λs=>l7 m p0 s) m 0) λr1=>some true) else after (if (p0.Kind==4)=true then (some (.brk (p0.Kind==4))) else some (.brk (p0.Kind==5)):Option (Lp (Bool) (Bool))) λj3=>if j3=true then (after ((vW m p0.Vol 0 255).bind λy6=>if y6=true then ((FG m ({ Kind:=p0.Kind,Snap:=({ Seq:=0,Man:=({ Name:=ByteArray.empty,Parts:= []}:aK),Locs:= []}:aF),Chunks:= [],Seq:=0,Vol:=p0.Vol,Items:= []}:aR) p0).bind λy7=>some (.brk y7)) else some (.brk false):Option (Lp (Bool) (Bool))) λj4=>some j4) else some false
theorem QR {w:Nat} {p0:aR} {o:Bool} (h:aA) (m:I4 w p0=some o):
 aG Tryz.prog 41 [.agg (aC p0)] h (λr h'=>r= .sc (.bool o)∧h'=h):=by
 refine fC 222 [.tmp 2] Tryz.func41 rfl rfl rfl rfl ?_
 unfold I4 at m
 refine v (gH rfl rfl λk2 K3=>v (vl 0 _ bQ rfl rfl rfl (dK (gQ ([nZ p0.Kind,nZ 0,.sc (.string ByteArray.empty),sZ,sZ,sZ,nZ 0,nZ 0,sZ]) GS rfl) (ve λu=>bN (NY) u GT rfl rfl λk6 K7=>qk K7 rfl (ve λu=>aQ 0 ([nZ p0.Kind,nZ 0,.sc (.string ByteArray.empty),sZ,sZ,sZ,nZ 0,nZ 0,sZ]) u rfl rfl rfl rfl GR rfl rfl λK9=>qk K9 rfl (v (vl 1 _ bQ rfl rfl rfl (v (v (v ?_))))))))))
 apply vi m <;> intro c0 m
 refine vs (vs (eN m (σ:=Bool) (λs=> [(some k6,.obj 62 ([nZ p0.Kind,nZ 0,.sc (.string ByteArray.empty),sZ,sZ,sZ,nZ 0,nZ 0,sZ])),(some k2,.obj 62 (aC p0))]) (λs=>.c 1 (.ptr k2 0) (.c 54 (.sc (.bool s)) .nil)) (λx m=> ?_) ?_))
 refine v (vl 1 _ bQ rfl rfl rfl ?_)
 apply vi m <;> intro b0 m
 rw[b0]
 exact iE m
 rw[b0]
 refine vl 1 _ bQ rfl rfl rfl ?_
 apply vi m <;> intro b1 m
 rw[b1]
 exact iE m
 rw[b1]
 refine vl 1 _ jX rfl rfl rfl (cI jW rfl ?_)
 apply vi m <;> intro b2 m
 rw[b2]
 exact iE m
 rw[b2]
 refine vl 1 _ bQ rfl rfl rfl (vk BD qI m rfl rfl λ_ m=> ?_)
 apply vi m <;> intro b3 m
 rw[b3]
 exact iE m
 rw[b3]
 refine vl 1 (.agg (aH p0.Snap.Man)) kT rfl rfl rfl (vk P1 LG m rfl rfl λ_ m=> ?_)
 apply vi m <;> intro b4 m
 rw[b4]
 exact iE m
 rw[b4]
 refine vl 1 _ gK rfl rfl rfl (cI i6 rfl ?_)
 apply vi m <;> intro b5 m
 rw[b5]
 exact iE m
 rw[b5]
 exact vl 1 _ dW rfl rfl rfl (cI gJ rfl (iE m))
 rintro _ j0 m
 refine v ?_
 apply vi m <;> intro c1 m
 refine v (v ?_)
 obtain rfl:=cX m
 exact cH rfl
 refine v (v (mE m (σ:=Int) (λs=> [(some k6,.obj 62 ([nZ p0.Kind,nZ 0,.sc (.string ByteArray.empty),sZ,sZ,sZ,nZ 0,nZ 0,sZ])),(some k2,.obj 62 (aC p0))]) (λs=>.c 1 (.ptr k2 0) (.c 4 (nZ s) .nil)) (lx (.k2 .nil)) ?_ ?_))
 rintro _ q0 x m
 replace m:l6 w p0 q0=some x:=m
 unfold l6 at m
 refine v (vl 1 _ dW rfl rfl rfl (cI gJ rfl (v ?_)))
 apply vi m <;> intro c2 m
 refine v (v (vs (eN m (σ:=Bool) (λs=> [(some k6,.obj 62 ([nZ p0.Kind,nZ 0,.sc (.string ByteArray.empty),sZ,sZ,sZ,nZ 0,nZ 0,sZ])),(some k2,.obj 62 (aC p0))]) (λs=>.c 1 (.ptr k2 0) (.c 4 (nZ q0) (.c 88 (.sc (.bool s)) .nil))) (λx m=> ?_) ?_)))
 refine v (vl 1 _ dW rfl rfl rfl (vx m e9 rfl rfl λ_ _ m=> ?_))
 apply vi m <;> intro b6 m
 rw[b6]
 exact f8 m
 rw[b6]
 refine vl 1 _ dW rfl rfl rfl (vx m e9 rfl rfl λ_ _ m=>cI i6 rfl ?_)
 apply vi m <;> intro b7 m
 rw[b7]
 exact f8 m
 rw[b7]
 exact vl 1 _ dW rfl rfl rfl (vx m e9 rfl rfl λ_ _ m=>cI iG rfl (f8 m))
 rintro _ j1 m
 refine v ?_
 apply vi m <;> intro c3 m
 refine v (v (kC m λm=> ?_))
 obtain rfl:=cX m
 exact cH rfl
 exact v (v (iE m))
 exact v (FC m)
 rintro _ r0 m
 refine v (v ?_)
 obtain rfl:=cX m
 exact cH rfl
 refine v (v ?_)
 apply vi m <;> intro c4 m
 refine v (vl 1 _ bQ rfl rfl rfl (ve λu=>aQ 0 ([nZ p0.Kind,nZ 0,.sc (.string ByteArray.empty),sZ,sZ,sZ,nZ p0.Seq,nZ 0,sZ]) u rfl rfl rfl rfl J4 rfl rfl λK0=>qk K0 rfl (vs (eN m (σ:=Bool) (λs=> [(some k6,.obj 62 ([nZ p0.Kind,nZ 0,.sc (.string ByteArray.empty),sZ,sZ,sZ,nZ p0.Seq,nZ 0,sZ])),(some k2,.obj 62 (aC p0))]) (λs=>.c 2 (.sc (.bool s)) .nil) (λx m=> ?_) ?_))))
 refine v (vl 1 _ bQ rfl rfl rfl (vk BD qI m rfl rfl λ_ m=> ?_))
 apply vi m <;> intro b8 m
 rw[b8]
 refine vl 0 (.agg ([nZ p0.Kind,nZ 0,.sc (.string ByteArray.empty),sZ,sZ,sZ,nZ p0.Seq,nZ 0,sZ])) mL rfl rfl rfl (vl 1 (.agg (aC p0)) mL rfl rfl rfl ?_)
 obtain⟨_,Y0,m⟩:=aE m
 exact dK (cK (fZ (.cons (aN.agg (.k3 (.cons (aP _) (.cons (aP _) (.cons (aP _) (.k2 (.cons (aP _) .nil))))))) (.cons (aN.refl _ _) .nil)) (PH _ Y0)) rfl I3 rfl) (dJ m)
 rw[b8]
 exact dJ m
 rintro _ j2 m
 refine v ?_
 obtain rfl:=cX m
 exact cH rfl
 refine v (v ?_)
 apply vi m <;> intro c5 m
 refine vs (vs (eN m (σ:=Bool) (λs=> [(some k6,.obj 62 ([nZ p0.Kind,nZ 0,.sc (.string ByteArray.empty),sZ,sZ,sZ,nZ 0,nZ 0,sZ])),(some k2,.obj 62 (aC p0))]) (λs=>.c 1 (.ptr k2 0) (.c 131 (.sc (.bool s)) .nil)) (λx m=> ?_) ?_))
 refine v (vl 1 _ bQ rfl rfl rfl ?_)
 apply vi m <;> intro b9 m
 rw[b9]
 exact iE m
 rw[b9]
 refine vl 1 (.agg (bI p0.Snap)) xV rfl rfl rfl (dK (gQ (NX) D1 rfl) ?_)
 obtain⟨_,Y1,m⟩:=aE m
 refine dK (cK (fZ (.cons (aN.refl _ _) (.cons (aN.agg (.k2 (.cons (aP _) (.cons (aP _) .nil)))) .nil)) (OY _ Y1)) rfl H5 rfl) ?_
 apply vi m <;> intro b10 m
 rw[b10]
 exact iE m
 rw[b10]
 refine vl 1 _ dW rfl rfl rfl (cI gJ rfl ?_)
 apply vi m <;> intro b11 m
 rw[b11]
 exact iE m
 rw[b11]
 refine vl 1 _ bQ rfl rfl rfl (vk BD qI m rfl rfl λ_ m=> ?_)
 apply vi m <;> intro b12 m
 rw[b12]
 exact iE m
 rw[b12]
 exact vl 1 _ jX rfl rfl rfl (cI jW rfl (iE m))
 rintro _ j3 m
 refine v ?_
 apply vi m <;> intro c6 m
 refine v (v ?_)
 obtain rfl:=cX m
 exact cH rfl
 refine v (v (mE m (σ:=Int) (λs=> [(some k6,.obj 62 ([nZ p0.Kind,nZ 0,.sc (.string ByteArray.empty),sZ,sZ,sZ,nZ 0,nZ 0,sZ])),(some k2,.obj 62 (aC p0))]) (λs=>.c 1 (.ptr k2 0) (.c 5 (nZ s) .nil)) (lx (.k2 .nil)) ?_ ?_))
 rintro _ q1 x m
 replace m:l7 w p0 q1=some x:=m
 unfold l7 at m
 refine v (vl 1 _ jX rfl rfl rfl (cI jW rfl (v ?_)))
 apply vi m <;> intro c7 m
 refine v (v (v (vl 1 _ jX rfl rfl rfl (vx m xQ rfl rfl λx0 _ m=>va (.agg (bB x0)) vQ rfl rfl (ve λu=>bN (([nZ 0]:List AV)++bH lB++(BW:List AV)) u vS rfl rfl λk309 K1=>qk K1 rfl (ve λu=>aQ 0 (bB x0) u rfl rfl rfl rfl vR rfl rfl λK2=>qk K2 rfl (vs (eN m (σ:=Bool) (λs=> [(some k309,.obj 38 (bB x0)),(some k6,.obj 62 ([nZ p0.Kind,nZ 0,.sc (.string ByteArray.empty),sZ,sZ,sZ,nZ 0,nZ 0,sZ])),(some k2,.obj 62 (aC p0))]) (λs=>.c 1 (.ptr k2 0) (.c 5 (nZ q1) (.c 207 (.sc (.bool s)) .nil))) (λx m=> ?_) ?_))))))))
 refine v (vl 0 _ bQ rfl rfl rfl (vk BD qI m rfl rfl λ_ m=> ?_))
 apply vi m <;> intro b13 m
 rw[b13]
 exact f8 m
 rw[b13]
 refine vl 0 _ bQ rfl rfl rfl (vk BD qI m rfl rfl λ_ m=> ?_)
 apply vi m <;> intro b14 m
 rw[b14]
 exact f8 m
 rw[b14]
 refine vl 0 _ bQ rfl rfl rfl (vk BD qI m rfl rfl λ_ m=> ?_)
 apply vi m <;> intro b15 m
 rw[b15]
 exact f8 m
 rw[b15]
 refine vl 0 _ bQ rfl rfl rfl (vk BD qI m rfl rfl λ_ m=> ?_)
 apply vi m <;> intro b16 m
 rw[b16]
 exact f8 m
 rw[b16]
 refine vl 0 _ bQ rfl rfl rfl (vk BD qI m rfl rfl λ_ m=> ?_)
 apply vi m <;> intro b17 m
 rw[b17]
 exact f8 m
 rw[b17]
 refine vl 0 _ bQ rfl rfl rfl ?_
 apply vi m <;> intro b18 m
 rw[b18]
 refine vl 0 _ bQ rfl rfl rfl ?_
 apply vi m <;> intro b19 m
 rw[b19]
 exact f8 m
 rw[b19]
 refine vl 0 _ bQ rfl rfl rfl ?_
 apply vi m <;> intro b20 m
 rw[b20]
 exact f8 m
 rw[b20]
 refine vl 0 _ bQ rfl rfl rfl ?_
 apply vi m <;> intro b21 m
 rw[b21]
 refine vl 0 (.agg (bH x0.Id)) fW rfl rfl rfl (dK (pY (bH lB) (show oW Tryz.prog 36=some (List.replicate 32 (.int .u8 0),(List.range 32).map λi=>(i,1)) from by kernel_rfl) rfl) (dK (rI rP A4 u5 BZ rfl rfl) ?_))
 apply vi m <;> intro b22 m
 rw[b22]
 exact f8 m
 rw[b22]
 refine vl 0 _ bQ rfl rfl rfl ?_
 apply vi m <;> intro b23 m
 rw[b23]
 exact vl 0 _ bQ rfl rfl rfl (f8 m)
 rw[b23]
 exact f8 m
 rw[b21]
 refine vl 0 _ bQ rfl rfl rfl ?_
 apply vi m <;> intro b24 m
 rw[b24]
 exact vl 0 _ bQ rfl rfl rfl (f8 m)
 rw[b24]
 exact f8 m
 rw[b18]
 refine vl 0 _ bQ rfl rfl rfl ?_
 apply vi m <;> intro b25 m
 rw[b25]
 refine vl 0 (.agg (bH x0.Id)) fW rfl rfl rfl (dK (pY (bH lB) (show oW Tryz.prog 36=some (List.replicate 32 (.int .u8 0),(List.range 32).map λi=>(i,1)) from by kernel_rfl) rfl) (dK (rI rP A4 u5 BZ rfl rfl) ?_))
 apply vi m <;> intro b26 m
 rw[b26]
 exact f8 m
 rw[b26]
 refine vl 0 _ bQ rfl rfl rfl ?_
 apply vi m <;> intro b30 m
 rw[b30]
 exact vl 0 _ bQ rfl rfl rfl (f8 m)
 rw[b30]
 exact f8 m
 rw[b25]
 refine vl 0 _ bQ rfl rfl rfl ?_
 apply vi m <;> intro b31 m
 rw[b31]
 exact vl 0 _ bQ rfl rfl rfl (f8 m)
 rw[b31]
 exact f8 m
 rintro _ j4 m
 refine v ?_
 apply vi m <;> intro c8 m
 refine v (v (kC m λm=> ?_))
 obtain rfl:=cX m
 exact cH rfl
 exact v (v (uL m (p4 [1,2] rfl rfl (.k2 .nil))))
 exact v (FC m)
 rintro _ r1 m
 refine v (v ?_)
 obtain rfl:=cX m
 exact cH rfl
 refine v (eN m (σ:=Bool) (λs=> [(some k6,.obj 62 ([nZ p0.Kind,nZ 0,.sc (.string ByteArray.empty),sZ,sZ,sZ,nZ 0,nZ 0,sZ])),(some k2,.obj 62 (aC p0))]) (λs=>.c 1 (.ptr k2 0) (.c 3 (.ptr k6 0) (.c 208 (.sc (.bool s)) .nil))) (λx m=> ?_) ?_)
 refine v ?_
 apply vi m <;> intro c9 m
 exact v (f8 m)
 exact v (f8 m)
 rintro _ j5 m
 refine v ?_
 apply vi m <;> intro c10 m
 refine v (vl 1 _ bQ rfl rfl rfl (ve λu=>aQ 0 ([nZ p0.Kind,nZ 0,.sc (.string ByteArray.empty),sZ,sZ,sZ,nZ 0,nZ p0.Vol,sZ]) u rfl rfl rfl rfl J4 rfl rfl λK4=>qk K4 rfl (vs (eN m (σ:=Bool) (λs=> [(some k6,.obj 62 ([nZ p0.Kind,nZ 0,.sc (.string ByteArray.empty),sZ,sZ,sZ,nZ 0,nZ p0.Vol,sZ])),(some k2,.obj 62 (aC p0))]) (λs=>.c 2 (.sc (.bool s)) .nil) (λx m=> ?_) ?_))))
 refine v (vl 1 _ bQ rfl rfl rfl (vk BD qI m rfl rfl λ_ m=> ?_))
 apply vi m <;> intro b33 m
 rw[b33]
 refine vl 0 (.agg ([nZ p0.Kind,nZ 0,.sc (.string ByteArray.empty),sZ,sZ,sZ,nZ 0,nZ p0.Vol,sZ])) mL rfl rfl rfl (vl 1 (.agg (aC p0)) mL rfl rfl rfl ?_)
 obtain⟨_,Y2,m⟩:=aE m
 exact dK (cK (fZ (.cons (aN.agg (.k3 (.cons (aP _) (.cons (aP _) (.cons (aP _) (.k2 (.cons (aP _) .nil))))))) (.cons (aN.refl _ _) .nil)) (PH _ Y2)) rfl I3 rfl) (dJ m)
 rw[b33]
 exact dJ m
 rintro _ j6 m
 refine v ?_
 obtain rfl:=cX m
 exact cH rfl
 refine v (v (v ?_))
 obtain rfl:=cX m
 exact cH rfl
theorem NL:aJ Tryz.prog 41=true:=by kernel_rfl
open Go.Vm
def qV (m:Nat) (p0:aR) (q0:Int):Option (Lp (Int) (Bool)):=
 if (decide (q0 < (p0.Chunks.length:Int)))=true then (after ((ix p0.Chunks q0).bind λx0=>if (decide (300 < (x0.Data.length:Int)))=true then (some (.brk true)) else (ix p0.Chunks q0).bind λx1=>some (.brk (decide (50 < (x1.Locs.length:Int)))):Option (Lp (Bool) (Lp (Int) (Bool)))) λj0=>if j0=true then (some (.ret true)) else some (.go (IntKind.wrap .i64 (q0+1)))) else some (.brk q0)
def I5 (m:Nat) (p0:aR):Option (Bool):=
 after ((HX m p0.Snap.Man).bind λy0=>if y0=true then (some (.brk true)) else if (decide (50 < (p0.Snap.Locs.length:Int)))=true then (some (.brk true)) else if (decide (220 < (p0.Chunks.length:Int)))=true then (some (.brk true)) else some (.brk (decide (300 < (p0.Items.length:Int)))):Option (Lp (Bool) (Bool))) λj0=>if j0=true then (some true) else after (bC (λs=>qV m p0 s) m 0) λr0=>some false
theorem QS {u:Nat} {p0:aR} {o:Bool} (h:aA) (m:I5 u p0=some o):
 aG Tryz.prog 39 [.agg (aC p0)] h (λr h'=>r= .sc (.bool o)∧h'=h):=by
 refine fC 52 [.tmp 2] Tryz.func39 rfl rfl rfl rfl ?_
 unfold I5 at m
 refine v (gH rfl rfl λk2 K3=>vs (vs (eN m (σ:=Bool) (λs=> [(some k2,.obj 62 (aC p0))]) (λs=>.c 1 (.ptr k2 0) (.c 26 (.sc (.bool s)) .nil)) (λx m=> ?_) ?_)))
 refine v (vl 0 (.agg (aH p0.Snap.Man)) kT rfl rfl rfl (vk P9 MI m rfl rfl λ_ m=> ?_))
 apply vi m <;> intro b0 m
 rw[b0]
 exact iE m
 rw[b0]
 refine vl 0 _ gK rfl rfl rfl (cI i6 rfl ?_)
 apply vi m <;> intro b1 m
 rw[b1]
 exact iE m
 rw[b1]
 refine vl 0 _ dW rfl rfl rfl (cI gJ rfl ?_)
 apply vi m <;> intro b2 m
 rw[b2]
 exact iE m
 rw[b2]
 exact vl 0 _ jX rfl rfl rfl (cI jW rfl (iE m))
 rintro _ j0 m
 refine v ?_
 apply vi m <;> intro c0 m
 refine v (v ?_)
 obtain rfl:=cX m
 exact cH rfl
 refine v (v (mE m (σ:=Int) (λs=> [(some k2,.obj 62 (aC p0))]) (λs=>.c 1 (.ptr k2 0) (.c 3 (nZ s) .nil)) (lx (.k2 .nil)) ?_ ?_))
 rintro _ q0 x m
 replace m:qV u p0 q0=some x:=m
 unfold qV at m
 refine v (vl 0 _ dW rfl rfl rfl (cI gJ rfl (v ?_)))
 apply vi m <;> intro c1 m
 refine v (v (vs (eN m (σ:=Bool) (λs=> [(some k2,.obj 62 (aC p0))]) (λs=>.c 1 (.ptr k2 0) (.c 3 (nZ q0) (.c 51 (.sc (.bool s)) .nil))) (λx m=> ?_) ?_)))
 refine v (vl 0 _ dW rfl rfl rfl (vx m e9 rfl rfl λ_ _ m=>cI iG rfl ?_))
 apply vi m <;> intro b3 m
 rw[b3]
 exact f8 m
 rw[b3]
 exact vl 0 _ dW rfl rfl rfl (vx m e9 rfl rfl λ_ _ m=>cI i6 rfl (f8 m))
 rintro _ j1 m
 refine v ?_
 apply vi m <;> intro c2 m
 refine v (v (kC m λm=> ?_))
 obtain rfl:=cX m
 exact cH rfl
 exact v (v (iE m))
 exact v (FC m)
 rintro _ r0 m
 refine v (v ?_)
 obtain rfl:=cX m
 exact cH rfl
theorem NM:aJ Tryz.prog 39=true:=by kernel_rfl
def l8 (m:Nat) (p0:aR) (q0:Int) (q1:Int):Option (Lp (Int×Int) (Lp (Int) (Bool))):=
 if (decide (q1 < (p0.Chunks.length:Int)))=true then ((ix p0.Chunks q1).bind λx0=>some (.go (IntKind.wrap .i64 ((IntKind.wrap .i64 (q0+33))+(x0.Data.length:Int)),IntKind.wrap .i64 (q1+1)))) else some (.brk (q0,q1))
def I6 (m:Nat) (p0:aR):Option (Bool):=
 (I5 m p0).bind λy7=>if y7=true then (some true) else (CG m p0).bind λy0=>(I4 m p0).bind λy1=>if (!y1)=true then (after (if (y0.2==1)=true then (if ((y0.1.length:Int)==0)=true then ((FF m).bind λy2=>some (.brk y2)) else some (.brk false)) else some (.brk false):Option (Lp (Bool) (Bool))) λj0=>some j0) else after (if (p0.Kind==1)=true then ((FD m p0.Snap.Man).bind λy3=>if (y3.2 !=0)=true then (some (.ret false)) else after (bC (λs=>l8 m p0 s.1 s.2) m (IntKind.wrap .i64 ((IntKind.wrap .i64 (9+(y3.1.length:Int)))+2),0)) λ⟨r0,r1⟩=>some (.brk r0)) else after (if (p0.Kind==2)=true then (some (.brk 5)) else after (if (p0.Kind==3)=true then (some (.brk (IntKind.wrap .i64 (3+(IntKind.wrap .i64 (46*(p0.Items.length:Int))))))) else some (.brk 2):Option (Lp (Int) (Lp (Int) (Lp (Int) (Bool))))) λj1=>some (.brk j1):Option (Lp (Int) (Lp (Int) (Bool)))) λj2=>some (.brk j2):Option (Lp (Int) (Bool))) λj3=>after (if (y0.2==0)=true then (if ((y0.1.length:Int)==j3)=true then ((ix y0.1 0).bind λx0=>if ((IntKind.wrap .i64 x0)==p0.Kind)=true then ((FF m).bind λy4=>some (.brk y4)) else some (.brk false)) else some (.brk false)) else some (.brk false):Option (Lp (Bool) (Bool))) λj4=>some j4
theorem QT {u:Nat} {p0:aR} {o:Bool} (h:aA) (m:I6 u p0=some o):
 aG Tryz.prog 10 [.agg (aC p0)] h (λr h'=>r= .sc (.bool o)∧h'=h):=by
 refine fC 92 [.tmp 2] Tryz.func10 rfl rfl rfl rfl ?_
 unfold I6 at m
 refine v (gH rfl rfl λk2 K3=>v (vl 0 (.agg (aC p0)) mL rfl rfl rfl (vk QS NM m rfl rfl λ_ m=>v ?_)))
 apply vi m <;> intro c9 m
 refine v (v ?_)
 obtain rfl:=cX m
 exact cH rfl
 refine v (v (vl 0 (.agg (aC p0)) mL rfl rfl rfl (vk PF I1 m rfl rfl λy0 m=>v (vl 0 (.agg (aC p0)) mL rfl rfl rfl (vk QR NL m rfl rfl λ_ m=>v ?_)))))
 apply vi m <;> intro c0 m
 refine vs (eN m (σ:=Bool) (λs=> [(some k2,.obj 62 (aC p0))]) (λs=>.c 2 (.sc (.bool s)) .nil) (λx m=> ?_) ?_)
 refine v ?_
 apply vi m <;> intro b0 m
 rw[b0]
 refine cI iG rfl ?_
 apply vi m <;> intro b1 m
 rw[b1]
 exact vk PG I2 m rfl rfl λ_ m=>dJ m
 rw[b1]
 exact dJ m
 rw[b0]
 exact dJ m
 rintro _ j0 m
 refine v ?_
 obtain rfl:=cX m
 exact cH rfl
 refine v (v (v (vl 0 _ bQ rfl rfl rfl (v (v (eN m (σ:=Int) (λs=> [(some k2,.obj 62 (aC p0))]) (λs=>.c 1 (.ptr k2 0) (.c 3 (.sl none 1 (List.map bZ y0.1)) (.c 4 (nZ y0.2) (.c 5 (nZ s) .nil)))) (λx m=> ?_) ?_))))))
 refine v ?_
 apply vi m <;> intro c1 m
 refine v (vl 0 (.agg (aH p0.Snap.Man)) kT rfl rfl rfl (vk OS G9 m rfl rfl λ_ m=>v (v ?_)))
 apply vi m <;> intro c2 m
 refine v (v (kC m λm=> ?_))
 obtain rfl:=cX m
 exact cH rfl
 refine v (v (cI iG rfl (v (mE m (σ:=Int×Int) (λs=> [(some k2,.obj 62 (aC p0))]) (λs=>.c 1 (.ptr k2 0) (.c 3 (.sl none 1 (List.map bZ y0.1)) (.c 4 (nZ y0.2) (.c 5 (nZ s.1) (.c 8 (nZ s.2) .nil))))) (lx (.k5 .nil)) ?_ ?_))))
 rintro _ ⟨q0,q1⟩ x m
 replace m:l8 u p0 q0 q1=some x:=m
 unfold l8 at m
 refine v (vl 0 _ dW rfl rfl rfl (cI gJ rfl (v ?_)))
 apply vi m <;> intro c3 m
 exact v (v (v (vl 0 _ dW rfl rfl rfl (vx m e9 rfl rfl λ_ _ m=>cI iG rfl (v (nE m))))))
 exact v (J2 m)
 rintro _ ⟨r0,r1⟩ m
 exact jK m
 refine v (eN m (σ:=Int) (λs=> [(some k2,.obj 62 (aC p0))]) (λs=>.c 1 (.ptr k2 0) (.c 3 (.sl none 1 (List.map bZ y0.1)) (.c 4 (nZ y0.2) (.c 5 (nZ s) .nil)))) (λx m=> ?_) ?_)
 refine v ?_
 apply vi m <;> intro c4 m
 exact v (jK m)
 refine v (eN m (σ:=Int) (λs=> [(some k2,.obj 62 (aC p0))]) (λs=>.c 1 (.ptr k2 0) (.c 3 (.sl none 1 (List.map bZ y0.1)) (.c 4 (nZ y0.2) (.c 5 (nZ s) .nil)))) (λx m=> ?_) ?_)
 refine v ?_
 apply vi m <;> intro c5 m
 exact v (vl 0 _ jX rfl rfl rfl (cI jW rfl (jK m)))
 exact v (jK m)
 rintro _ j1 m
 exact jK m
 rintro _ j2 m
 exact jK m
 rintro _ j3 m
 refine vs (eN m (σ:=Bool) (λs=> [(some k2,.obj 62 (aC p0))]) (λs=>.c 2 (.sc (.bool s)) .nil) (λx m=> ?_) ?_)
 refine v (vq (by kernel_rfl) ?_)
 apply vi m <;> intro b2 m
 rw[b2]
 refine cI iG rfl ?_
 apply vi m <;> intro b3 m
 rw[b3]
 refine vx m A5 rfl rfl λ_ _ m=>vl 0 _ bQ rfl rfl rfl ?_
 apply vi m <;> intro b4 m
 rw[b4]
 exact vk PG I2 m rfl rfl λ_ m=>dJ m
 rw[b4]
 exact dJ m
 rw[b3]
 exact dJ m
 rw[b2]
 exact dJ m
 rintro _ j4 m
 refine v ?_
 obtain rfl:=cX m
 exact cH rfl
open Go.Vm
def mT (s:aF):Bool:=s.Seq==0 && (s.Man.Name.toList==ByteArray.empty.toList && (((s.Man.Parts.length:Int)==0) && ((s.Locs.length:Int)==0)))
def zU (i:bL):Bool:=eR i.Seq 0 4294967295 && eR i.Of 0 4294967295 && eR i.Off 0 16777215 && eR i.Len 0 65535 && (if i.Kind=1 then i.Seq==0 && i.Of==0 else if i.Kind=2 then decide (i.Id=lB) && i.Of==0 else i.Kind==3 && decide (i.Id=lB))
def CH (x:aB):Bool:=x.Staged && ((x.Locs.length:Int)==0) && decide ((x.Data.length:Int)≤255)
def n8 (d:aR):Bool:=
 if d.Kind=1 then d.Seq==0 && d.Vol==0 && ((d.Items.length:Int)==0) && eR d.Snap.Seq 0 4294967295 && mM d.Snap.Man && ((d.Snap.Locs.length:Int)==0) && decide ((d.Chunks.length:Int)≤65535) && d.Chunks.all CH
 else if d.Kind=2 then eR d.Seq 0 4294967295 && d.Vol==0 && mT d.Snap && ((d.Chunks.length:Int)==0) && ((d.Items.length:Int)==0)
 else if d.Kind=3 then d.Seq==0 && mT d.Snap && ((d.Chunks.length:Int)==0) && eR d.Vol 0 255 && decide ((d.Items.length:Int)≤255) && d.Items.all zU
 else if d.Kind=4∨d.Kind=5 then eR d.Vol 0 255 && d.Seq==0 && mT d.Snap && ((d.Chunks.length:Int)==0) && ((d.Items.length:Int)==0)
 else false
structure Sd (d:aR):Prop where
 nm:d.Snap.Man.Name.size≤100
 ps:d.Snap.Man.Parts.length≤10
 p:∀p∈d.Snap.Man.Parts,p.Path.size≤100∧p.Ids.length≤40
 sl:d.Snap.Locs.length≤50
 c:d.Chunks.length≤220
 i:d.Items.length≤300
 cd:∀x∈d.Chunks,x.Data.length≤300∧x.Locs.length≤50
theorem QU {F:Nat} {d:aR} (hF:1000≤F):T (I5 F d) λb=>b=false→Sd d:=by
 obtain⟨b,hb,hq⟩:=QF (m:=d.Snap.Man) hF
 unfold I5
 rw[hb]
 refine .after (.bindEq rfl ?_)
 cases b with
 | true=>exact .brk (T.ite (λ_=>.some λh=>by cases h) λh=>absurd rfl h)
 | false=>
  obtain⟨h1,h2,h3⟩:=hq rfl
  refine .ite (λh=>by cases h) λ_=>.ite (λ_=>.brk (T.ite (λ_=>.some λh=>by cases h) λh=>absurd rfl h)) λh4=>.ite (λ_=>.brk (T.ite (λ_=>.some λh=>by cases h) λh=>absurd rfl h)) λh5=>.brk (T.ite (λ_=>.some λh=>by cases h) λh6=> ?_)
  have h4:d.Snap.Locs.length≤50:=by simp at h4; omega
  have h5:d.Chunks.length≤220:=by simp at h5; omega
  have h6:d.Items.length≤300:=by simp at h6; omega
  refine .loop (λs=>0≤s∧s≤d.Chunks.length∧∀x∈d.Chunks.take s.toNat,x.Data.length≤300∧x.Locs.length≤50) (λs=>(d.Chunks.length - s).toNat) (λs=>∀x∈d.Chunks,x.Data.length≤300∧x.Locs.length≤50) (by simp; omega) ⟨by simp,by simp,by simp⟩ (λs hs=> ?_) (λs hs=>.some λ_=>⟨h1,h2,h3,h4,h5,h6,hs⟩)
  unfold qV
  refine .ite (λhc=> ?_) λhc=> ?_
  ·have hc:=of_decide_eq_true hc
   refine .after (.ix hs.1 hc λx hx hm=>.ite (λ_=>.brk (T.ite (λ_=>.ret λh=>by cases h) λh=>absurd rfl h)) λe1=>.ix hs.1 hc λy hy _=>.brk (T.ite (λ_=>.ret λh=>by cases h) λe2=> ?_))
   rw[hx] at hy
   cases hy
   rw[wr (n:=s+1) (by omega) (by omega)]
   refine .go ⟨⟨by omega,by omega,λz hz=> ?_⟩,by omega⟩
   rw[show (s+1).toNat=s.toNat+1 by omega,List.take_succ_eq_append_getElem (by omega)] at hz
   rcases List.mem_append.1 hz with h | h
   ·exact hs.2.2 z h
   ·rw[List.mem_singleton.1 h]
    rw[List.getElem?_eq_getElem (show s.toNat < d.Chunks.length by omega)] at hx
    rw[Option.some.inj hx]
    simp at e1 e2
    omega
  ·have hc:¬s < (d.Chunks.length:Int):=by simpa using hc
   refine .brk λx hx=>hs.2.2 x ?_
   rw[List.take_of_length_le (by omega)]; exact hx
theorem wB (F:Nat) (a b:Int):mN F a b=some (eR a 0 b):=by
 unfold mN eR
 by_cases h:0≤a
 ·rw[if_pos (by simpa using h)]; simp[h,aL]
 ·rw[if_neg (by simpa using h)]; simp[h,aL]
theorem NN {F:Nat} {l:List cA} (hF:1000≤F):B8 F l []=some (((l.length:Int)==0)):=by
 unfold B8
 cases l with
 | nil=>rw[if_neg (by simp),show F=(F - 1)+1 by omega]; rfl
 | cons a l=>rw[if_pos (by simp; omega)]; simp; omega
theorem NO {F:Nat} {l:List cA} (hF:1000≤F):B8 F [] l=some (((l.length:Int)==0)):=by
 unfold B8
 cases l with
 | nil=>rw[if_neg (by simp),show F=(F - 1)+1 by omega]; rfl
 | cons a l=>rw[if_pos (by simp; omega)]; simp; omega
theorem NP {F:Nat} {l:List aB} (hF:1000≤F):H3 F [] l=some (((l.length:Int)==0)):=by
 unfold H3
 cases l with
 | nil=>rw[if_neg (by simp),show F=(F - 1)+1 by omega]; rfl
 | cons a l=>rw[if_pos (by simp; omega)]; simp; omega
theorem NQ {F:Nat} {l:List bL} (hF:1000≤F):H6 F [] l=some (((l.length:Int)==0)):=by
 unfold H6
 cases l with
 | nil=>rw[if_neg (by simp),show F=(F - 1)+1 by omega]; rfl
 | cons a l=>rw[if_pos (by simp; omega)]; simp; omega
theorem NR {F:Nat} {m:aK} (hF:1000≤F):ET F m { Name:=ByteArray.empty,Parts:= []}=some (m.Name.toList==ByteArray.empty.toList && ((m.Parts.length:Int)==0)):=by
 unfold ET
 simp only
 generalize (m.Name.toList==ByteArray.empty.toList)=b
 cases b
 ·rfl
 ·obtain⟨nm,ps⟩:=m
  simp only[Bool.not_true,Bool.false_eq_true,if_false,aL,Bool.true_and]
  skip
  cases ps with
  | nil=>rw[if_neg (by simp),show F=(F - 1)+1 by omega]; rfl
  | cons a l=>rw[if_pos (by simp; omega)]; simp; omega
theorem NS {F:Nat} {m:aK} (hF:1000≤F):ET F { Name:=ByteArray.empty,Parts:= []} m=some (m.Name.toList==ByteArray.empty.toList && ((m.Parts.length:Int)==0)):=by
 unfold ET
 simp only
 rw[show (ByteArray.empty.toList==m.Name.toList)=(m.Name.toList==ByteArray.empty.toList) from BEq.comm]
 generalize (m.Name.toList==ByteArray.empty.toList)=b
 cases b
 ·rfl
 ·obtain⟨nm,ps⟩:=m
  simp only[Bool.not_true,Bool.false_eq_true,if_false,aL,Bool.true_and]
  skip
  cases ps with
  | nil=>rw[if_neg (by simp),show F=(F - 1)+1 by omega]; rfl
  | cons a l=>rw[if_pos (by simp; omega)]; simp; omega
theorem NT {F:Nat} {s:aF} (hF:1000≤F):CA F s { Seq:=0,Man:= { Name:=ByteArray.empty,Parts:= []},Locs:= []}=some (mT s):=by
 unfold CA mT
 simp only[NR hF,NN hF,Option.bind_some]
 cases s.Seq==0 <;> cases (s.Man.Name.toList==ByteArray.empty.toList) <;> cases ((s.Man.Parts.length:Int)==0) <;> cases ((s.Locs.length:Int)==0) <;> rfl
theorem NU {F:Nat} {s:aF} (hF:1000≤F):CA F { Seq:=0,Man:= { Name:=ByteArray.empty,Parts:= []},Locs:= []} s=some (mT s):=by
 unfold CA mT
 simp only[NS hF,NO hF,Option.bind_some]
 rw[show ((0:Int)==s.Seq)=(s.Seq==0) from BEq.comm]
 cases s.Seq==0 <;> cases (s.Man.Name.toList==ByteArray.empty.toList) <;> cases ((s.Man.Parts.length:Int)==0) <;> cases ((s.Locs.length:Int)==0) <;> rfl
theorem PI {F:Nat} {d:aR} {q v:Int} (hF:1000≤F):FG F { Kind:=d.Kind,Snap:= { Seq:=0,Man:= { Name:=ByteArray.empty,Parts:= []},Locs:= []},Chunks:= [],Seq:=q,Vol:=v,Items:= []} d=some ((q==d.Seq) && (v==d.Vol) && mT d.Snap && ((d.Chunks.length:Int)==0) && ((d.Items.length:Int)==0)):=by
 unfold FG
 simp only[beq_self_eq_true,if_true,NU hF,NP hF,NQ hF,Option.bind_some]
 cases q==d.Seq <;> cases v==d.Vol <;> cases mT d.Snap <;> cases ((d.Chunks.length:Int)==0) <;> cases ((d.Items.length:Int)==0) <;> rfl
theorem NV {F:Nat} {i:bL}:zR F i=some (zU i):=by
 unfold zR zU
 simp only[wB,Option.bind_some]
 cases eR i.Seq 0 4294967295 <;> cases eR i.Of 0 4294967295 <;> cases eR i.Off 0 16777215 <;> cases eR i.Len 0 65535 <;> simp[aL]
 by_cases k1:i.Kind=1
 ·by_cases e:i.Seq=0 <;> simp[k1,e,aL]
 ·by_cases k2:i.Kind=2
  ·simp only[k2,if_true]
   by_cases e:i.Id=lB <;> simp[e,aL]
  ·by_cases k3:i.Kind=3 <;> simp[k1,k2,k3,aL]
theorem NW {F:Nat} {d:aR} (hs:Sd d):zS F d=some (if d.Kind=1 then d.Seq==0 && d.Vol==0 && ((d.Items.length:Int)==0) else if d.Kind=2 then mT d.Snap && ((d.Chunks.length:Int)==0) && d.Vol==0 && ((d.Items.length:Int)==0) else if d.Kind=3 then mT d.Snap && ((d.Chunks.length:Int)==0) && d.Seq==0 else mT d.Snap && ((d.Chunks.length:Int)==0) && d.Seq==0 && ((d.Items.length:Int)==0)):=by
 have h1:=hs.ps
 have h2:=hs.sl
 have e:((IntKind.wrap .i64 ((d.Snap.Man.Parts.length:Int)+(d.Snap.Locs.length:Int)))==0)=(((d.Snap.Man.Parts.length:Int)==0) && ((d.Snap.Locs.length:Int)==0)):=by
  rw[wr (by omega) (by omega),Bool.eq_iff_iff]
  skip
  simp only[Bool.and_eq_true,beq_iff_eq]
  omega
 unfold zS
 rw[e]
 have e2:(after (if (d.Snap.Seq==0)=true then (if (d.Snap.Man.Name.toList==(ByteArray.mk #[]).toList)=true then (some (.brk (((d.Snap.Man.Parts.length:Int)==0) && ((d.Snap.Locs.length:Int)==0)))) else some (.brk false)) else some (.brk false):Option (Lp (Bool) (Bool))))=λk=>k (mT d.Snap):=by
  funext k
  unfold mT
  rw[show (ByteArray.mk #[]).toList=ByteArray.empty.toList from rfl]
  cases d.Snap.Seq==0 <;> cases (d.Snap.Man.Name.toList==ByteArray.empty.toList) <;> rfl
 rw[e2]
 dsimp only
 by_cases k1:d.Kind=1
 ·simp only[k1,beq_self_eq_true,if_true]
  cases d.Seq==0 <;> cases d.Vol==0 <;> rfl
 ·rw[if_neg (by simpa using k1),if_neg k1]
  by_cases k2:d.Kind=2
  ·simp only[k2,beq_self_eq_true,if_true]
   cases mT d.Snap <;> cases ((d.Chunks.length:Int)==0) <;> cases d.Vol==0 <;> rfl
  ·rw[if_neg (by simpa using k2),if_neg k2]
   by_cases k3:d.Kind=3
   ·simp only[k3,beq_self_eq_true,if_true]
    cases mT d.Snap <;> cases ((d.Chunks.length:Int)==0) <;> rfl
   ·rw[if_neg (by simpa using k3),if_neg k3]
    cases mT d.Snap <;> cases ((d.Chunks.length:Int)==0) <;> cases d.Seq==0 <;> rfl
theorem zV (l:List aB):(nV l && !(l.any λx=>decide (255 < (x.Data.length:Int))))=l.all CH:=by
 unfold nV
 induction l with
 | nil=>rfl
 | cons x l ih=>
  rw[List.any_cons,List.any_cons,List.all_cons,← ih]
  unfold CH
  have e1:decide (0 < (x.Locs.length:Int))= !((x.Locs.length:Int)==0):=by
   rw[Bool.eq_iff_iff]; simp
   exact List.length_pos_iff
  have e2:decide ((x.Data.length:Int)≤255)= !decide (255 < (x.Data.length:Int)):=by
   rw[Bool.eq_iff_iff]; simp
  rw[e1,e2]
  cases x.Staged <;> cases ((x.Locs.length:Int)==0) <;> cases decide (255 < (x.Data.length:Int)) <;> cases (l.any λx=> !x.Staged || decide (0 < (x.Locs.length:Int))) <;> cases (l.any λx=>decide (255 < (x.Data.length:Int))) <;> rfl
theorem I7 {F:Nat} {l:List bL} {f:bL→Option Bool} (q:bL→Bool) (hF:1000≤F) (hl:l.length≤300) (hf:∀x∈l,f x=some (q x)):yX F l f=some (l.any q):=by
 have h1:yW F l f=some (rX l q):=by
  unfold yW
  refine o4 (l:=l) q (by omega) (λi x hx hm hi=> ?_) (by unfold lA; simp)
  unfold lA
  rw[uO (by omega)]
  simp only[fA,hx,hf x hm,Option.bind_some,Int.ofNat_lt,hi,decide_true,if_true]
  split <;> rfl
 unfold yX
 rw[h1]
 simp only[Option.bind_some]
 cases ha:l.any q with
 | false=>rw[lV ha]; rfl
 | true=>
  obtain⟨i,x,h1, -⟩:=lU ha
  rw[h1]
  simp
theorem PJ {F:Nat} {d:aR} (hF:1000≤F) (hs:Sd d):I0 F d=some (n8 d):=by
 have hc:=hs.c
 unfold I0 n8
 rw[NW hs]
 simp only[Option.bind_some]
 by_cases k1:d.Kind=1
 ·simp only[k1,beq_self_eq_true,if_true]
  have e159:tQ F d.Chunks (λx0=>zT F x0)=some (d.Chunks.any λx=>decide (255 < (x.Data.length:Int))):=by
   unfold tQ
   rw[OZ (f:=λx0=>zT F x0) (λx=>decide (255 < (x.Data.length:Int))) (by omega) (by omega) (λx _=>rfl)]
   simp only[Option.bind_some]
   cases ha:d.Chunks.any (λx=>decide (255 < (x.Data.length:Int))) with
   | false=>rw[lV ha]; rfl
   | true=>
    obtain⟨i,x,h1, -⟩:=lU ha
    rw[h1]
    simp
  rw[e159,← zV]
  simp only[Option.bind_some,wB,OW hF,NF hF (show d.Chunks.length≤400 by omega)]
  cases d.Seq==0 <;> cases d.Vol==0 <;> cases ((d.Items.length:Int)==0) <;> cases eR d.Snap.Seq 0 4294967295 <;> cases ((d.Snap.Locs.length:Int)==0) <;> cases mM d.Snap.Man <;> cases decide ((d.Chunks.length:Int)≤65535) <;> cases nV d.Chunks <;> rfl
 ·by_cases k2:d.Kind=2
  ·simp only[k2,show ¬((2:Int)=1) by decide,show ((2:Int)==1)=false from rfl,beq_self_eq_true,if_true,if_false,wB,Option.bind_some,Bool.false_eq_true]
   cases mT d.Snap <;> cases ((d.Chunks.length:Int)==0) <;> cases d.Vol==0 <;> cases ((d.Items.length:Int)==0) <;> cases eR d.Seq 0 4294967295 <;> rfl
  ·by_cases k3:d.Kind=3
   ·simp only[k3,show ¬((3:Int)=1) by decide,show ((3:Int)==1)=false from rfl,show ¬((3:Int)=2) by decide,show ((3:Int)==2)=false from rfl,beq_self_eq_true,if_true,if_false,wB,Option.bind_some,Bool.false_eq_true]
    rw[I7 (λi=> !zU i) hF hs.i (λi _=>by unfold BU; rw[NV]; rfl)]
    have e:(!(d.Items.any λi=> !zU i))=d.Items.all zU:=by rw[List.all_eq_not_any_not]
    rw[← e]
    cases mT d.Snap <;> cases ((d.Chunks.length:Int)==0) <;> cases d.Seq==0 <;> cases eR d.Vol 0 255 <;> cases decide ((d.Items.length:Int)≤255) <;> rfl
   ·rw[if_neg k1,if_neg k2,if_neg k3,if_neg k1,if_neg k2,if_neg k3,if_neg (show ¬(d.Kind==1)=true by simpa using k1),if_neg (show ¬(d.Kind==2)=true by simpa using k2),if_neg (show ¬(d.Kind==3)=true by simpa using k3)]
    by_cases k4:d.Kind=4
    ·simp only[k4,true_or,beq_self_eq_true,if_true,aL,wB,Option.bind_some]
     cases mT d.Snap <;> cases ((d.Chunks.length:Int)==0) <;> cases d.Seq==0 <;> cases ((d.Items.length:Int)==0) <;> cases eR d.Vol 0 255 <;> rfl
    ·by_cases k5:d.Kind=5
     ·simp only[k5,or_true,show ((5:Int)==4)=false from rfl,Bool.false_eq_true,beq_self_eq_true,if_true,if_false,aL,wB,Option.bind_some]
      cases mT d.Snap <;> cases ((d.Chunks.length:Int)==0) <;> cases d.Seq==0 <;> cases ((d.Items.length:Int)==0) <;> cases eR d.Vol 0 255 <;> rfl
     ·rw[if_neg (show ¬(d.Kind=4∨d.Kind=5) by omega),if_neg (show ¬(d.Kind==4)=true by simpa using k4)]
      simp only[aL]
      rw[if_neg (show ¬(d.Kind==5)=true by simpa using k5)]
      split <;> rfl
theorem QV {F:Nat} {d:aR} (hF:1000≤F) (hs:Sd d):I4 F d=some (n8 d):=by
 have hc:=hs.c
 have hi:=hs.i
 unfold I4 n8
 by_cases k1:d.Kind=1
 ·simp only[k1,beq_self_eq_true,if_true]
  have L:(after (bC (λs=>l6 F d s) F 0) λ_=>some true)=some (d.Chunks.all CH):=by
   rw[nN (l:=d.Chunks) (F:=F) (λx=> !CH x) false (by omega) (λi x hx hm hi=>by
    unfold l6
    rw[uO (by omega)]
    simp only[fA,hx,Option.bind_some,Int.ofNat_lt,hi,decide_true,if_true]
    unfold CH
    by_cases e1:x.Locs.length=0
    ·by_cases e2:x.Data.length≤255
     ·have e3:¬(255 < x.Data.length):=by omega
      cases x.Staged <;> simp[e1,e2,e3,aL] <;> (split <;> rfl)
     ·have e3:255 < x.Data.length:=by omega
      cases x.Staged <;> simp[e1,e2,e3,aL] <;> (split <;> rfl)
    ·have e4:0 < x.Locs.length:=by omega
     have e5:x.Locs≠ []:=λh=>e1 (by rw[h]; rfl)
     cases x.Staged <;> simp[e4,e5,aL]) (by unfold l6; simp)]
   rw[List.all_eq_not_any_not]
   cases d.Chunks.any λx=> !CH x <;> rfl
  rw[L]
  simp only[HR,P7 hF hs.nm (λp hp=>(hs.p p hp).1),Option.bind_some]
  have e1:∀ {α:Type} (l:List α),decide (0 < (l.length:Int))= !((l.length:Int)==0):=λl=>by
   skip
   rw[Bool.eq_iff_iff]
   cases l with
   | nil=>simp
   | cons a l=>simp; omega
  have e2:decide (65535 < (d.Chunks.length:Int))= !decide ((d.Chunks.length:Int)≤65535):=by
   rw[Bool.eq_iff_iff]; simp
  rw[e1,e1,e2]
  rw[show (d.Seq !=0)= !(d.Seq==0) from rfl,show (d.Vol !=0)= !(d.Vol==0) from rfl]
  cases d.Seq==0 <;> cases d.Vol==0 <;> cases ((d.Items.length:Int)==0) <;> cases eR d.Snap.Seq 0 4294967295 <;> cases mM d.Snap.Man <;> cases ((d.Snap.Locs.length:Int)==0) <;> cases decide ((d.Chunks.length:Int)≤65535) <;> simp[aL]
 ·by_cases k2:d.Kind=2
  ·have e99:=PI (d:=d) (q:=d.Seq) (v:=0) hF
   rw[k2] at e99
   simp only[k2,show ¬((2:Int)=1) by decide,show ((2:Int)==1)=false from rfl,beq_self_eq_true,if_true,if_false,HR,e99,Option.bind_some,Bool.false_eq_true]
   rw[show ((0:Int)==d.Vol)=(d.Vol==0) from BEq.comm]
   cases mT d.Snap <;> cases ((d.Chunks.length:Int)==0) <;> cases d.Vol==0 <;> cases ((d.Items.length:Int)==0) <;> cases eR d.Seq 0 4294967295 <;> rfl
  ·by_cases k3:d.Kind=3
   ·have L:(after (bC (λs=>l7 F d s) F 0) λ_=>some true)=some (d.Items.all zU):=by
     rw[nN (l:=d.Items) (F:=F) (λx=> !zU x) false (by omega) (λi x hx hm hi=>by
      unfold l7
      rw[uO (by omega)]
      simp only[fA,hx,Option.bind_some,Int.ofNat_lt,hi,decide_true,if_true,HR]
      unfold zU
      cases eR x.Seq 0 4294967295 <;> cases eR x.Of 0 4294967295 <;> cases eR x.Off 0 16777215 <;> cases eR x.Len 0 65535 <;> (try (cases eR x.Kind 1 3 <;> simp[aL]; done))
      by_cases q1:x.Kind=1
      ·by_cases q2:x.Seq=0 <;> by_cases q3:x.Of=0 <;> simp[q1,q2,q3,eR,aL]
      ·by_cases q2:x.Kind=2
       ·by_cases q3:x.Of=0 <;> by_cases q4:x.Id=lB <;> simp[q2,q3,q4,eR,aL]
       ·by_cases q3:x.Kind=3
        ·by_cases q4:x.Id=lB <;> simp[q3,q4,eR,aL]
        ·have:eR x.Kind 1 3=false:=by
          unfold eR
          simp; omega
         simp[q1,q2,q3,this,aL]) (by unfold l7; simp)]
     rw[List.all_eq_not_any_not]
     cases d.Items.any λx=> !zU x <;> rfl
    simp only[k3,show ¬((3:Int)=1) by decide,show ((3:Int)==1)=false from rfl,show ¬((3:Int)=2) by decide,show ((3:Int)==2)=false from rfl,beq_self_eq_true,if_true,if_false,HR,NT hF,Option.bind_some,Bool.false_eq_true]
    rw[L]
    have e1:∀ {α:Type} (l:List α),decide (0 < (l.length:Int))= !((l.length:Int)==0):=λl=>by
     skip
     rw[Bool.eq_iff_iff]
     cases l with
     | nil=>simp
     | cons a l=>simp; omega
    have e2:decide (255 < (d.Items.length:Int))= !decide ((d.Items.length:Int)≤255):=by
     rw[Bool.eq_iff_iff]; simp
    rw[e1,e2,show (d.Seq !=0)= !(d.Seq==0) from rfl]
    cases d.Seq==0 <;> cases mT d.Snap <;> cases ((d.Chunks.length:Int)==0) <;> cases eR d.Vol 0 255 <;> cases decide ((d.Items.length:Int)≤255) <;> simp[aL]
   ·rw[if_neg k1,if_neg k2,if_neg k3,if_neg (show ¬(d.Kind==1)=true by simpa using k1),if_neg (show ¬(d.Kind==2)=true by simpa using k2),if_neg (show ¬(d.Kind==3)=true by simpa using k3)]
    by_cases k45:d.Kind=4∨d.Kind=5
    ·rw[if_pos k45]
     have e4:(after (if (d.Kind==4)=true then (some (.brk (d.Kind==4))) else some (.brk (d.Kind==5)):Option (Lp (Bool) (Bool))))=λk=>k true:=by
      funext k
      rcases k45 with h | h <;> rw[h] <;> rfl
     rw[e4]
     dsimp only
     simp only[if_true,HR,PI hF,Option.bind_some]
     rw[show ((0:Int)==d.Seq)=(d.Seq==0) from BEq.comm,beq_self_eq_true]
     cases mT d.Snap <;> cases ((d.Chunks.length:Int)==0) <;> cases d.Seq==0 <;> cases ((d.Items.length:Int)==0) <;> cases eR d.Vol 0 255 <;> rfl
    ·rw[if_neg k45]
     have e4:(after (if (d.Kind==4)=true then (some (.brk (d.Kind==4))) else some (.brk (d.Kind==5)):Option (Lp (Bool) (Bool))))=λk=>k false:=by
      funext k
      have h4:(d.Kind==4)=false:=by simp; omega
      have h5:(d.Kind==5)=false:=by simp; omega
      rw[h4,h5]; rfl
     rw[e4]
     rfl
open Go.Vm
theorem I8:FF 1000=some true:=by decide+kernel
theorem sA {α ρ:Type} {l:List α} {F:Nat} (f:α→Nat) (B:Nat) {body:List Int×Int→Option (Lp (List Int×Int) ρ)} {acc0:List Int} (hF:l.length < F) (hB:∀x∈l,f x≤B)
    (hb:∀(i:Nat) (x:α),l[i]? =some x→x∈l→i < l.length→∀acc:List Int,acc.length≤acc0.length+B*l.length→∃w,body (acc,(i:Int))=some (.go (acc++w,((i+1:Nat):Int)))∧w.length=f x)
    (he:∀acc,body (acc,(l.length:Int))=some (.brk (acc,(l.length:Int)))):∃w:List Int,bC body F (acc0,0)=some (.brk (acc0++w,(l.length:Int)))∧w.length=fB f l:=by
  obtain⟨s,⟨h1,w,h2,h4⟩,h3⟩:=i8 (body:=body) (I:=λi s=>s.2=(i:Int)∧∃w,s.1=acc0++w∧w.length=fB f (l.take i)) (n:=l.length) (λi s hi hI=>by
    obtain⟨a,b⟩:=s
    obtain⟨rfl,w,rfl,h2⟩:=hI
    have hx:l[i]? =some l[i]:=List.getElem?_eq_getElem hi
    have hle:=nO hB i
    obtain⟨z,e1,e2⟩:=hb i l[i] hx (List.getElem_mem hi) hi (acc0++w) (by simp; omega)
    refine⟨_,e1,rfl,w++z,by simp, ?_⟩
    rw[lT f hx,List.length_append]
    omega) (λs hI=>by
    obtain⟨a,b⟩:=s
    obtain⟨rfl,h2⟩:=hI
    exact he a) F 0 (acc0,0) (Nat.zero_le _) (by omega) ⟨rfl, [],by simp[fB]⟩
  obtain⟨a,b⟩:=s
  simp only at h1 h2
  subst h1
  subst h2
  exact⟨w,h3,by rw[h4,List.take_length]⟩
theorem BV {F k:Nat} {l:List Int} {n:Int} (hF:1000≤F) (hl:l.length≤100000000) (h1:1≤k) (h7:k≤7) (hn:0≤n) (hn2:n < ((2 ^ (8*k):Nat):Int)):∃w,lY F l n (k:Int)=some (l++w)∧w.length=k:=by
 obtain⟨z,h,e⟩:=H8 (l:= []) hF (by simp) h1 h7 hn hn2
 unfold lY
 rw[h]
 simp only[Option.bind_some]
 simp only[List.length_nil,Nat.zero_add] at e
 exact⟨z,by rw[cL (by omega)]; rfl,e⟩
theorem JO {k:Int} (h:0≤k∧k≤255):IntKind.wrap .u8 k=k:=by rw[rC]; omega
def wC (x:aB):Nat:=33+x.Data.length
def tW (d:aR):Nat:=if d.Kind=1 then 11+yI d.Snap.Man+fB wC d.Chunks else if d.Kind=2 then 5 else if d.Kind=3 then 3+46*d.Items.length else 2
theorem QW {F:Nat} {d:aR} (hF:1000≤F) (hs:Sd d):(n8 d=false→CG F d=some ([],1))∧(n8 d=true→∃w,CG F d=some (d.Kind::w,0)∧w.length+1=tW d):=by
 constructor
 ·intro h
  unfold CG
  rw[PJ hF hs,h]
  rfl
 ·intro h
  have hc:=hs.c
  have hii:=hs.i
  unfold CG
  rw[PJ hF hs,h]
  simp only[Option.bind_some,Bool.not_true,Bool.false_eq_true,if_false]
  unfold n8 at h
  unfold tW
  by_cases k1:d.Kind=1
  ·rw[if_pos k1] at h
   simp only[Bool.and_eq_true,eR,decide_eq_true_eq] at h
   obtain⟨⟨⟨⟨⟨⟨⟨a1,a2⟩,a3⟩,a4⟩,a5⟩,a6⟩,a7⟩,a8⟩:=h
   obtain⟨z,hz,ez⟩:=PA hF a5
   have ml:=uS a5
   have ez:z.length=yI d.Snap.Man:=ez
   rw[if_pos (by simp[k1]),if_pos k1,hz]
   simp only[Option.bind_some,k1]
   obtain⟨w1,e1,l1⟩:=BV (k:=4) (l:= [IntKind.wrap .u8 1]) (n:=d.Snap.Seq) hF (by simp) (by decide) (by decide) a4.1 (by have:=a4.2; simp; omega)
   obtain⟨w2,e2,l2⟩:=BV (k:=4) (l:= [IntKind.wrap .u8 1]++w1) (n:=(z.length:Int)) hF (by simp; omega) (by decide) (by decide) (by omega) (by simp; omega)
   obtain⟨w3,e3,l3⟩:=BV (k:=2) (l:= [IntKind.wrap .u8 1]++w1++w2++z) (n:=(d.Chunks.length:Int)) hF (by simp; omega) (by decide) (by decide) (by omega) (by simp; omega)
   rw[show ((4:Nat):Int)=4 from rfl] at e1 e2
   rw[show ((2:Nat):Int)=2 from rfl] at e3
   rw[e1]
   simp only[Option.bind_some]
   rw[e2]
   simp only[Option.bind_some]
   rw[cL (by simp; omega)]
   simp only[Option.bind_some]
   rw[e3]
   simp only[Option.bind_some]
   obtain⟨w4,e4,l4⟩:=sA (l:=d.Chunks) (F:=F) wC 333 (body:=λs:List Int×Int=>lZ F d s.1 s.2) (acc0:= [IntKind.wrap .u8 1]++w1++w2++z++w3) (by omega) (λx hx=>by have:=(hs.cd x hx).1; unfold wC; omega) (λi x hx hm hi acc ha=>by
    have hd:x.Data.length≤255:=by
     have:=List.all_eq_true.1 a8 x hm
     unfold CH at this
     simp only[Bool.and_eq_true,decide_eq_true_eq] at this
     omega
    have hid:x.Id.1.length=32:=x.Id.2
    simp only[List.length_append,List.length_singleton] at ha
    obtain⟨w,e,lw⟩:=BV (k:=1) (l:=acc++x.Id.1) (n:=(x.Data.length:Int)) hF (by simp; omega) (by decide) (by decide) (by omega) (by simp; omega)
    rw[show ((1:Nat):Int)=1 from rfl] at e
    refine⟨x.Id.1++w++x.Data, ?_,by simp[wC]; omega⟩
    unfold lZ
    simp only
    rw[uO (by omega)]
    simp only[fA,hx,Option.bind_some,Int.ofNat_lt,hi,decide_true,if_true]
    rw[cL (by omega)]
    simp only[Option.bind_some]
    rw[e]
    simp only[Option.bind_some]
    rw[cL (by simp; omega)]
    simp) (λacc=>by unfold lZ; simp)
   rw[e4]
   simp only[aL]
   have g4:=mS (f:=wC) (B:=333) (l:=d.Chunks) λx hx=>by have:=(hs.cd x hx).1; unfold wC; omega
   rw[H7 (by simp; omega),JO (by omega)]
   refine⟨w1++w2++z++w3++w4,by simp, ?_⟩
   simp only[List.length_append]
   omega
  ·rw[if_neg k1] at h
   rw[if_neg (show ¬(d.Kind==1)=true by simpa using k1),if_neg k1]
   by_cases k2:d.Kind=2
   ·rw[if_pos k2] at h
    simp only[Bool.and_eq_true,eR,decide_eq_true_eq] at h
    obtain⟨⟨⟨⟨a1,a2⟩,a3⟩,a4⟩,a5⟩:=h
    rw[if_pos (by simp[k2]),if_pos k2]
    obtain⟨w1,e1,l1⟩:=BV (k:=4) (l:= [IntKind.wrap .u8 d.Kind]) (n:=d.Seq) hF (by simp) (by decide) (by decide) a1.1 (by have:=a1.2; simp; omega)
    rw[show ((4:Nat):Int)=4 from rfl] at e1
    rw[e1]
    simp only[Option.bind_some,aL]
    rw[H7 (by simp; omega),JO (by omega)]
    exact⟨w1,by simp,by omega⟩
   ·rw[if_neg k2] at h
    rw[if_neg (show ¬(d.Kind==2)=true by simpa using k2),if_neg k2]
    by_cases k3:d.Kind=3
    ·rw[if_pos k3] at h
     simp only[Bool.and_eq_true] at h
     have a8:=h.2
     rw[if_pos (by simp[k3]),if_pos k3,cL (by simp)]
     simp only[Option.bind_some]
     obtain⟨w4,e4,l4⟩:=sA (l:=d.Items) (F:=F) (λ_=>46) 46 (body:=λs:List Int×Int=>l5 F d s.1 s.2) (acc0:= [IntKind.wrap .u8 d.Kind]++ [IntKind.wrap .u8 d.Vol,IntKind.wrap .u8 (d.Items.length:Int)]) (by omega) (λx hx=>Nat.le_refl _) (λi x hx hm hi acc ha=>by
      have hb:=List.all_eq_true.1 a8 x hm
      unfold zU eR at hb
      simp only[Bool.and_eq_true,decide_eq_true_eq] at hb
      obtain⟨⟨⟨⟨b1,b2⟩,b3⟩,b4⟩, -⟩:=hb
      have hid:x.Id.1.length=32:=x.Id.2
      simp only[List.length_append,List.length_singleton,List.length_cons,List.length_nil] at ha
      obtain⟨u1,f1,g1⟩:=BV (k:=4) (l:=acc++ [IntKind.wrap .u8 x.Kind]++x.Id.1) (n:=x.Seq) hF (by simp; omega) (by decide) (by decide) b1.1 (by have:=b1.2; simp; omega)
      obtain⟨u2,f2,g2⟩:=BV (k:=4) (l:=acc++ [IntKind.wrap .u8 x.Kind]++x.Id.1++u1) (n:=x.Of) hF (by simp; omega) (by decide) (by decide) b2.1 (by have:=b2.2; simp; omega)
      obtain⟨u3,f3,g3⟩:=BV (k:=3) (l:=acc++ [IntKind.wrap .u8 x.Kind]++x.Id.1++u1++u2) (n:=x.Off) hF (by simp; omega) (by decide) (by decide) b3.1 (by have:=b3.2; simp; omega)
      obtain⟨u4,f4,g4⟩:=BV (k:=2) (l:=acc++ [IntKind.wrap .u8 x.Kind]++x.Id.1++u1++u2++u3) (n:=x.Len) hF (by simp; omega) (by decide) (by decide) b4.1 (by have:=b4.2; simp; omega)
      rw[show ((4:Nat):Int)=4 from rfl] at f1 f2
      rw[show ((3:Nat):Int)=3 from rfl] at f3
      rw[show ((2:Nat):Int)=2 from rfl] at f4
      refine⟨[IntKind.wrap .u8 x.Kind]++x.Id.1++u1++u2++u3++u4, ?_,by simp; omega⟩
      unfold l5
      simp only
      rw[uO (by omega)]
      simp only[fA,hx,Option.bind_some,Int.ofNat_lt,hi,decide_true,if_true]
      rw[cL (by simp; omega)]
      simp only[Option.bind_some]
      rw[cL (by simp; omega)]
      simp only[Option.bind_some]
      rw[f1]
      simp only[Option.bind_some]
      rw[f2]
      simp only[Option.bind_some]
      rw[f3]
      simp only[Option.bind_some]
      rw[f4]
      simp) (λacc=>by unfold l5; simp)
     rw[e4]
     have g4:fB (λ_:bL=>46) d.Items=46*d.Items.length:=tN 46 _
     simp only[aL]
     rw[H7 (by simp; omega),JO (k:=d.Kind) (by omega)]
     refine⟨[IntKind.wrap .u8 d.Vol,IntKind.wrap .u8 (d.Items.length:Int)]++w4,by simp, ?_⟩
     simp only[List.length_append,List.length_cons,List.length_nil]
     omega
    ·rw[if_neg k3] at h
     have k45:d.Kind=4∨d.Kind=5:=by
      by_cases q:d.Kind=4∨d.Kind=5
      ·exact q
      ·rw[if_neg q] at h; cases h
     rw[if_neg (show ¬(d.Kind==3)=true by simpa using k3),if_neg k3,cL (by simp)]
     simp only[Option.bind_some,aL]
     rw[H7 (by simp),JO (k:=d.Kind) (by omega)]
     exact⟨[IntKind.wrap .u8 d.Vol],rfl,rfl⟩
theorem qW {d:aR} (gd:rV d):I6 1000 d=some true:=by
 have hF:1000≤1000:=Nat.le_refl _
 have key:T (I6 1000 d) λb=>b=true:=by
  unfold I6
  refine .bind _ (QU hF) λb hb=>.ite (λ_=>.some rfl) λhb0=> ?_
  have hs:=hb (by simpa using hb0)
  obtain⟨q1,q2⟩:=QW (d:=d) hF hs
  refine .of (a:=true) ?_ rfl
  rw[QV hF hs]
  cases hc:n8 d with
  | false=>
   rw[q1 hc]
   simp[aL,I8]
  | true=>
   obtain⟨w,e,l⟩:=q2 hc
   rw[e]
   simp only[Option.bind_some,Bool.not_true,Bool.false_eq_true,if_false]
   have hk:1≤d.Kind∧d.Kind≤5:=by
    unfold n8 at hc
    by_cases k1:d.Kind=1
    ·omega
    ·by_cases k2:d.Kind=2
     ·omega
     ·by_cases k3:d.Kind=3
      ·omega
      ·rw[if_neg k1,if_neg k2,if_neg k3] at hc
       by_cases q:d.Kind=4∨d.Kind=5
       ·omega
       ·rw[if_neg q] at hc; cases hc
   have fin:∀n:Int,n=((tW d:Nat):Int)→(after (if ((0:Int)==0)=true then (if (((d.Kind::w).length:Int)==n)=true then ((ix (d.Kind::w) 0).bind λx145=>if ((IntKind.wrap .i64 x145)==d.Kind)=true then ((FF 1000).bind λy148=>some (.brk y148)) else some (.brk false)) else some (.brk false)) else some (.brk false):Option (Lp (Bool) (Bool))) λj142=>some j142)=some true:=λn hn=>by
    have e0:ix (d.Kind::w) 0=some d.Kind:=rfl
    have e1:((d.Kind::w).length:Int)=n:=by rw[List.length_cons,l,hn]
    rw[e0,e1]
    simp only[beq_self_eq_true,if_true,Option.bind_some,wr (n:=d.Kind) (by omega) (by omega),I8,aL]
   have hcc:=hs.c
   have hii:=hs.i
   by_cases k1:d.Kind=1
   ·rw[if_pos (by simp[k1])]
    unfold n8 at hc
    rw[if_pos k1] at hc
    simp only[Bool.and_eq_true] at hc
    have a5:=hc.1.1.1.2
    obtain⟨z,hz,ez⟩:=PA hF a5
    have ml:=uS a5
    have ez:z.length=yI d.Snap.Man:=ez
    have g4:=mS (f:=wC) (B:=333) (l:=d.Chunks) λx hx=>by have:=(hs.cd x hx).1; unfold wC; omega
    rw[hz]
    simp only[Option.bind_some]
    rw[if_neg (by simp),wr (n:=9+(z.length:Int)) (by omega) (by omega),wr (n:=9+(z.length:Int)+2) (by omega) (by omega)]
    have:=yJ (l:=d.Chunks) (F:=1000) wC (11+z.length) (body:=λs:Int×Int=>l8 1000 d s.1 s.2) (by omega) (λi x hx hm hi=>by
     have gt:=nO (f:=wC) (B:=333) (l:=d.Chunks) (λx hx=>by have:=(hs.cd x hx).1; unfold wC; omega) i
     have hd:=(hs.cd x hm).1
     unfold l8
     simp only
     rw[uO (by omega)]
     simp only[fA,hx,Option.bind_some,Int.ofNat_lt,hi,decide_true,if_true]
     rw[wr (n:=((11+z.length+fB wC (List.take i d.Chunks):Nat):Int)+33) (by omega) (by omega),wr (by omega) (by omega)]
     congr 4
     unfold wC
     omega) (λn=>by unfold l8; simp)
    rw[show (9+(z.length:Int)+2)=((11+z.length:Nat):Int) by omega,this]
    simp only[aL]
    refine fin _ ?_
    unfold tW
    rw[if_pos k1,ez]
   ·rw[if_neg (show ¬(d.Kind==1)=true by simpa using k1)]
    by_cases k2:d.Kind=2
    ·rw[if_pos (by simp[k2])]
     simp only[aL]
     exact fin 5 (by unfold tW; rw[if_neg k1,if_pos k2]; rfl)
    ·rw[if_neg (show ¬(d.Kind==2)=true by simpa using k2)]
     by_cases k3:d.Kind=3
     ·rw[if_pos (by simp[k3])]
      simp only[aL]
      rw[wr (n:=46*(d.Items.length:Int)) (by omega) (by omega),wr (by omega) (by omega)]
      refine fin _ ?_
      unfold tW
      rw[if_neg k1,if_neg k2,if_pos k3]
      omega
     ·rw[if_neg (show ¬(d.Kind==3)=true by simpa using k3)]
      simp only[aL]
      exact fin 2 (by unfold tW; rw[if_neg k1,if_neg k2,if_neg k3]; rfl)
 obtain⟨b,hb,rfl⟩:=key
 exact hb
end Go.Proofs.YtbbifdfldpfphaaGreat
