import Derived.Test.YtbbifdfldpfphaaGreatK2P6
import Derived.Test.YtbbifdfldpfphaaGreatK2P7
import Derived.Test.YtbbifdfldpfphaaGreatK2P3
import Derived.Test.YtbbifdfldpfphaaGreatK2P5
import Derived.Test.YtbbifdfldpfphaaGreatK2P4
set_option linter.unusedSimpArgs false
set_option linter.unusedVariables false
set_option maxHeartbeats 4000000
set_option maxRecDepth 100000
namespace Go.Vm
def qY (l:List (Int×Nat)):List (Value×Value):=l.map λx=>(.int .i64 x.1,.func (.func x.2) #[] #[])
theorem oO (x:Int):∀(l:List (Int×Nat)) (ents:List MapEntry) (i:Nat),ents.map (λe=>(e.key,e.val))=qY l→
    (∀e,l.find? (λe=>e.1==x)=some e→∃j,Instr.findNow (.int .i64) (.int .i64 x) ents i=some (some (j,.func (.func e.2) #[] #[])))∧
    (l.find? (λe=>e.1==x)=none→Instr.findNow (.int .i64) (.int .i64 x) ents i=some none)
  | [], [],i,_=>⟨λe h=>by simp at h,λ_=>rfl⟩
  | [],_::_,_,h=>by simp[qY] at h
  | _::_, [],_,h=>by simp[qY] at h
  | y::l,e::ents,i,h=>by
    simp only[List.map_cons,qY,List.cons.injEq,Prod.mk.injEq] at h
    obtain⟨⟨h1,h2⟩,h3⟩:=h
    obtain⟨ih1,ih2⟩:=oO x l ents (i+1) h3
    have hn:Instr.findNow (.int .i64) (.int .i64 x) (e::ents) i=(if (y.1==x)=true then some (some (i,e.val)) else Instr.findNow (.int .i64) (.int .i64 x) ents (i+1)):=by
      simp only[Instr.findNow,h1,Instr.sameNow,if_true]
      by_cases q:x=y.1
      · subst q; simp
      · have q1:(x==y.1)=false:=by simpa using q
        have q2:(y.1==x)=false:=by simpa using Ne.symm q
        rw[q1,q2]; simp
    rw[hn]
    simp only[List.find?_cons]
    cases q:(y.1==x)
    · exact⟨λe' he=>by obtain⟨j,hj⟩:=ih1 e' (by simpa using he); exact⟨j,by simpa using hj⟩,λhe=>by simpa using ih2 (by simpa using he)⟩
    · exact⟨λe' he=>by simp at he; subst he; exact⟨i,by simp[h2]⟩,λhe=>by simp at he⟩
section
variable {P:Program} {h h0:aF} {L:HL} {n:Nat} {kvs:KV} {ty:TypeId} {pos:String} {dP:Array Edge}
theorem IM {l:List (Int×Nat)} {x:Int} {dst:Option Tmp} {t kt et:TypeId} {m y:Operand} {q:cB} {z:Value} (ht:P.underlying t=some (.map kt et)) (hz:(P.info? et).bind (·.zero)=some z) (hkt:P.underlying kt=some (.int .i64))
    (hm:dI n kvs m= .mpv q) (hy:dI n kvs y= .sc (.int .i64 x)) (hq:h q=some (.mp (qY l))):
    eN P ⟨dst,.lookup t m y true,ty,pos,dP,none⟩ (match l.find? (λe=>e.1==x) with | some e=>.tup [.fn (.func e.2) [],.sc (.bool true)] | none=>.tup [.any,.sc (.bool false)]) (fm n kvs) h:=by
  refine eA (x:=match l.find? (λe=>e.1==x) with | some e=>.tup [.fn (.func e.2) [],.sc (.bool true)] | none=>.tup [.any,.sc (.bool false)]) (λE w ac r hv=> ?_) ⟨rfl,rfl⟩
  have vm:=hv m (by simp[Op.operands])
  have vy:=hv y (by simp[Op.operands])
  rw[bN,hm] at vm; rw[bN,hy] at vy
  simp only[VR] at vm vy
  obtain⟨g,hg,em⟩:=vm
  obtain⟨g',ents,clk,e1,e2,e3⟩:=r.mp q _ hq
  rw[hg] at e1; cases e1
  have hck:=λb=>nY (P:=P) hkt 9999 x b w
  obtain⟨f1,f2⟩:=oO x l ents.toList 0 e3
  have hz1:(zeroValue et).run P w= .ok z w:=by
    cases hi:P.info? et with
    | none=>rw[hi] at hz; simp at hz
    | some i=>
      rw[hi] at hz
      simp at hz
      simp[zeroValue,typeInfo,hi,hz]
  have hgo:(getObj g).run P w= .ok (.map ents clk) w:=by simp[getObj,Sem.run,e2]
  simp only[execOp,em,vy,Instr.lookup,Sem.run_bind,run_underlying ht,Result.andThen_ok,hgo,Sem.run_pure,hck,Instr.findKey,run_underlying hkt]
  cases ha:l.find? (λe=>e.1==x) with
  | some e=>
    obtain⟨j,a1⟩:=f1 e ha
    refine⟨.tuple #[.func (.func e.2) #[] #[],.bool true],by simp[a1], ?_⟩
    simp only[VR]
    exact⟨_,rfl,by simp[cW,VR]⟩
  | none=>
    have a1:=f2 ha
    refine⟨.tuple #[z,.bool false],by simp[a1,hz1], ?_⟩
    simp only[VR]
    exact⟨_,rfl,by simp[cW,VR]⟩
theorem yE {K:AV→aF→Prop} {l:List (Int×Nat)} {x:Int} {f:Nat} {dst:Option Tmp} {t kt et:TypeId} {m y v:Operand} {q:cB} (i:Nat) (hk:bV h0 L) (ht:P.underlying t=some (.map kt et)) (hkt:P.underlying kt=some (.int .i64))
    (hm:dI n kvs m= .mpv q) (hy:dI n kvs y= .sc (.int .i64 x)) (hv:dI n kvs v= .fn (.func f) []) (hi:L[i]? =some (some q,.mp (qY l))) (hnew:l.find? (λe=>e.1==x)=none)
    (k:bV h0 (L.set i (some q,.mp (qY (l++ [(x,f)]))))→K (.sc undef) (hp h0 (L.set i (some q,.mp (qY (l++ [(x,f)])))))):
    i6 P ⟨dst,.insert t m y v,ty,pos,dP,none⟩ K (fm n kvs) (hp h0 L):=by
  intro E w a r hva Nx Qx hn
  have vm:=hva m (by simp[Op.operands])
  have vy:=hva y (by simp[Op.operands])
  have vv:=hva v (by simp[Op.operands])
  rw[bN,hm] at vm; rw[bN,hy] at vy; rw[bN,hv] at vv
  simp only[VR] at vm vy vv
  obtain⟨g,hg,em⟩:=vm
  obtain⟨cs,ev,hcs⟩:=vv
  have hc0:cs= #[]:=by
    have:cs.toList= []:=by
      cases hh:cs.toList with
      | nil=>rfl
      | cons a b=>rw[hh] at hcs; simp only[cW] at hcs
    simpa using this
  subst hc0
  obtain⟨g',ents,clk,e1,e2,e3⟩:=r.mp q _ (a9 i hk hi)
  rw[hg] at e1; cases e1
  have hq:=a9 i hk hi
  have hck:=λb=>nY (P:=P) hkt 9999 x b w
  obtain⟨f1,f2⟩:=oO x l ents.toList 0 e3
  have hf:=f2 hnew
  have hgo:(getObj g).run P w= .ok (.map ents clk) w:=by simp[getObj,Sem.run,e2]
  have hglt:=(Array.getElem?_eq_some_iff.1 e2).1
  obtain⟨h1,h2,_⟩:=jC (e':=.mp (qY (l++ [(x,f)]))) i hk hi (.inl rfl)
  have hes:(ents.push { key:=.int .i64 x,val:=.func (.func f) #[] #[],born:=clk}).toList.map (λe=>(e.key,e.val))=qY (l++ [(x,f)]):=by
    simp only[Array.toList_push,List.map_append,e3,qY,List.map_cons,List.map_nil]
  have hfind:(Instr.findKey kt (.int .i64 x) ents.toList).run P w= .ok none w:=by
    simp only[Instr.findKey,Sem.run_bind,run_underlying hkt,Result.andThen_ok,hf,Sem.run_pure]
  have hrun:(execOp a.eval ⟨dst,.insert t m y v,ty,pos,dP,none⟩).run P w= .ok .skip { w with heap:=w.heap.setIfInBounds g (.map (ents.push { key:=.int .i64 x,val:=.func (.func f) #[] #[],born:=clk}) (clk+1))}:=by
    simp only[execOp,em,vy,ev,Instr.mapUpdate,Sem.run_bind,run_underlying ht,Result.andThen_ok,hgo,hck,hfind]
    simp[setObj,Sem.run,e2]
  obtain⟨k1,r1⟩:=r.set_mp hq hg (ents.push { key:=.int .i64 x,val:=.func (.func f) #[] #[],born:=clk}) (clk+1) (w':= { w with heap:=w.heap.setIfInBounds g (.map (ents.push { key:=.int .i64 x,val:=.func (.func f) #[] #[],born:=clk}) (clk+1))}) (by simp[hglt]) (λg' hg'=>by simp[Ne.symm hg']) (by simp) rfl rfl rfl
  unfold Oper.wp
  rw[hrun]
  rw[hes,h1] at r1
  exact hn (.sc undef) undef _ E _ k1 r1 (by simp only[VR]) (k h2)
end
theorem QP (args:List AV):fm args.length (BS 0 args).k=args:=by
 apply List.ext_getElem?
 intro i
 rw[o7,F5]
 have e:=tQ 0 0 args i
 rw[Nat.zero_add,List.replicate_zero,List.append_nil] at e
 by_cases h:i < args.length
 ·rw[if_pos h,e,List.getElem?_eq_getElem h]
  simp[List.getD,h]
 ·rw[if_neg h,List.getElem?_eq_none (by omega)]
theorem uS {P:Program} {f:FuncId} {args:List AV} {Q:AV→aF→Prop} {H H':aF} (le:i7 (fm args.length (BS 0 args).k) H' (fm args.length (BS 0 args).k) H) (hc:aL P f args H' Q):aL P f args H Q:=by
 rw[QP] at le
 intro E w vs r v
 obtain⟨E1,k1,r1,v1⟩:=le E w _ r v
 refine(hc E1 w vs r1 v1).mono ?_
 rintro e w' ⟨v',E',x,h',rfl,k,r',vx,q⟩
 exact⟨v',E',x,h',rfl,k1.trans k,r',vx,q⟩
theorem lM {P:Program} {f:FuncId} {args:List AV} {Q Q':AV→aF→Prop} {H:aF} (hc:aL P f args H Q) (hq:∀r h',Q r h'→Q' r h'):aL P f args H Q':=hc.mono hq
end Go.Vm
namespace Go.Proofs.YtbbifdfldpfphaaGreat
open Go.Vm
def jV:List (Int×Nat):= [(1,72),(2,73),(3,74),(4,75),(5,76)]
def gO (m:Nat) (f:Nat) (d:aB) (x:aP):Option (aB×Int):=
 if f=72 then (VZ m d x).bind λo=>some ({ d with Seq:=o.2.1,Snaps:=o.2.2.1,Chunks:=o.2.2.2},o.1)
 else if f=73 then (VW m d x).bind λo=>some ({ d with Snaps:=o.2.1,Chunks:=o.2.2},o.1)
 else if f=74 then (VX m d x).bind λo=>some ({ Seq:=o.2.1,Snaps:=o.2.2.1,Chunks:=o.2.2.2.1,Exps:=o.2.2.2.2.1,Vols:=o.2.2.2.2.2},o.1)
 else if f=75 then (VY m d x).bind λo=>some ({ d with Snaps:=o.2.1,Chunks:=o.2.2.1,Exps:=o.2.2.2.1,Vols:=o.2.2.2.2},o.1)
 else if f=76 then (VV m d x).bind λo=>some ({ d with Vols:=o.2},o.1)
 else none
def DH (m:Nat) (p0:aB) (p1:aP):Option (aB×Int):=
 match jV.find? (λe=>e.1==p1.Kind) with
 | none=>some (dJ,1)
 | some e=>(VM m p0).bind λy=>if (y !=0)=true then some (dJ,1) else (ND m p0).bind λd=>
 after ((gO m e.2 d p1).bind λs=>some (.brk s):Option (Lp (aB×Int) (aB×Int))) λs=>if (s.2 !=0)=true then some (dJ,s.2) else (VM m s.1).bind λy2=>if (y2 !=0)=true then some (dJ,1) else some (s.1,0)
abbrev NE (k:cB) (d:aB) (a b c:dF) (v:cR):HL:= [OC k d.Seq a.a b.a c.a v,bM a d.Snaps,aW b d.Chunks,bR c d.Exps,aN v d.Vols]++((bQ a d.Snaps)++((a8 b d.Chunks)++(bS c d.Exps)))
abbrev NF (k:cB) (d:aB) (a b c v:cR):HL:= [OC k d.Seq a b c v,bF a d.Snaps,aV b d.Chunks,bW c d.Exps,aN v d.Vols]
theorem aFZ {h:aF} {k:cB} {d:aB} {a b c:dF} {v:cR} (oa:lX aG.Locs 4 4 a d.Snaps) (ob:lX aA.Locs 35 4 b d.Chunks) (oc:lX aQ.Locs 3 4 c d.Exps) (m:bV h (NE k d a b c v)) {n:Nat} {f:FR}:
 bV h (NF k d a.a b.a c.a v)∧i7 (fm n f.k) (hp h (NF k d a.a b.a c.a v)) (fm n f.k) (hp h (NE k d a b c v)):=by
 obtain⟨k1,l1⟩:=DG (ty:=81) (n:=n) (f:=f) (h0:=h) (L':= [OC k d.Seq a.a b.a c.a v,bF a.a d.Snaps,aW b d.Chunks,bR c d.Exps,aN v d.Vols]++((a8 b d.Chunks)++(bS c d.Exps))) [[_], [_], [_], [_], [_],_,_,_] rfl 1 5 eS p5 oa.k rfl rfl (by decide) rfl m
 obtain⟨k2,l2⟩:=DG (ty:=81) (n:=n) (f:=f) (h0:=h) (L':= [OC k d.Seq a.a b.a c.a v,bF a.a d.Snaps,aV b.a d.Chunks,bR c d.Exps,aN v d.Vols]++(bS c d.Exps)) [[_], [_], [_], [_], [_],_,_] rfl 2 5 eS nQ ob.k rfl rfl (by decide) rfl k1
 obtain⟨k3,l3⟩:=DG (ty:=81) (n:=n) (f:=f) (h0:=h) (L':=NF k d a.a b.a c.a v) [[_], [_], [_], [_], [_],_] rfl 3 5 eS uR oc.k rfl rfl (by decide) rfl k2
 exact⟨k3,(l1.trans l2).trans l3⟩
theorem UG {w:Nat} {f:Nat} {d:aB} {x:aP} {s:aB×Int} (h:aF) {k:cB} {a b c:dF} {v:cR} (oa:lX aG.Locs 4 4 a d.Snaps) (ob:lX aA.Locs 35 4 b d.Chunks) (oc:lX aQ.Locs 3 4 c d.Exps) (ov:bK v 4 d.Vols.length) (u:bV h (NE k d a b c v)) (m:gO w f d x=some s):
 aL Tryz.prog f [.ptr k 0,.agg (aD x)] (hp h (NE k d a b c v)) (λr h'=>∃a' b' c' v':cR,bK a' 4 s.1.Snaps.length∧bK b' 35 s.1.Chunks.length∧bK c' 3 s.1.Exps.length∧bK v' 4 s.1.Vols.length∧bV h (NF k s.1 a' b' c' v')∧r=nZ s.2∧h'=hp h (NF k s.1 a' b' c' v')):=by
 obtain⟨kp,lp⟩:=aFZ oa ob oc u (n:= [AV.ptr k 0,AV.agg (aD x)].length) (f:=BS 0 [AV.ptr k 0,AV.agg (aD x)])
 unfold gO at m
 split at m
 rename_i e; subst e
 obtain⟨o,ho,m⟩:=aC m
 cases m
 refine uS lp (lM (W72 (p0:=d) h oa.k.a ob.k.a oc.k.a ov kp ho) ?_)
 rintro r h' ⟨a',oa',b',ob',hk',e1,e2⟩
 exact⟨a',b',c.a,v,oa',ob',oc.k.a,ov,hk',e1,e2⟩
 split at m
 rename_i e; subst e
 obtain⟨o,ho,m⟩:=aC m
 cases m
 refine uS lp (lM (W73 (p0:=d) h oa.k.a ob.k.a oc.k.a ov kp ho) ?_)
 rintro r h' ⟨a',oa',b',ob',hk',e1,e2⟩
 exact⟨a',b',c.a,v,oa',ob',oc.k.a,ov,hk',e1,e2⟩
 split at m
 rename_i e; subst e
 obtain⟨o,ho,m⟩:=aC m
 cases m
 refine lM (W74 (p0:=d) h oa ob oc ov u ho) ?_
 rintro r h' ⟨a',oa',b',ob',c',oc',v',ov',hk',e1,e2⟩
 exact⟨a',b',c',v',oa',ob',oc',ov',hk',e1,e2⟩
 split at m
 rename_i e; subst e
 obtain⟨o,ho,m⟩:=aC m
 cases m
 refine lM (W75 (p0:=d) h oa ob oc ov u ho) ?_
 rintro r h' ⟨a',oa',b',ob',c',oc',v',ov',hk',e1,e2⟩
 exact⟨a',b',c',v',oa',ob',oc',ov',hk',e1,e2⟩
 split at m
 rename_i e; subst e
 obtain⟨o,ho,m⟩:=aC m
 cases m
 refine uS lp (lM (W76 (p0:=d) h oa.k.a ob.k.a oc.k.a ov kp ho) ?_)
 rintro r h' ⟨v',ov',hk',e1,e2⟩
 exact⟨a.a,b.a,c.a,v',oa.k.a,ob.k.a,oc.k.a,ov',hk',e1,e2⟩
 cases m
theorem QR {f:Nat} {u:Nat} {d:aB} {x:aP} {s:aB×Int} (m:gO u f d x=some s):aO Tryz.prog f=true:=by
 unfold gO at m
 split at m
 rename_i e; subst e; exact aFW
 split at m
 rename_i e; subst e; exact aFG
 split at m
 rename_i e; subst e; exact aFO
 split at m
 rename_i e; subst e; exact aFT
 split at m
 rename_i e; subst e; exact aFD
 cases m
theorem W29 {j:Nat} {p0:aB} {p1:aP} {o:aB×Int} (h:aF) (m:DH j p0 p1=some o):
 aL Tryz.prog 29 [.agg (aE p0),.agg (aD p1)] h (λr h'=>r= .tup [.agg (aE o.1),nZ o.2]∧h'=h):=by
 refine fN 44 [.cell 4 30,.tmp 5] Tryz.func29 rfl rfl rfl rfl ?_
 unfold DH at m
 repeat refine vs ?_
 refine v0 ?_
 refine gG rfl rfl λk2 K3=> ?_
 refine gG rfl rfl λk3 K3=> ?_
 refine ve λu=>bD (gR) u pE rfl rfl λk4 K9=>qk K9 rfl ?_
 repeat refine vs ?_
 refine v0 ?_
 refine ve λu=>BI u λkm K3=>qk K3 rfl ?_
 refine ve λu=>yE (l:= []) 0 u xH u3 rfl rfl rfl rfl rfl λK3=>qk K3 rfl ?_
 refine ve λu=>yE 0 u xH u3 rfl rfl rfl rfl rfl λK3=>qk K3 rfl ?_
 refine ve λu=>yE 0 u xH u3 rfl rfl rfl rfl rfl λK3=>qk K3 rfl ?_
 refine ve λu=>yE 0 u xH u3 rfl rfl rfl rfl rfl λK3=>qk K3 rfl ?_
 refine ve λu=>yE 0 u xH u3 rfl rfl rfl rfl rfl λK3=>qk K3 rfl ?_
 repeat refine vs ?_
 refine v0 (dM B0 rfl rfl (vl 2 _ bX rfl rfl rfl ?_))
 have hz:(Tryz.prog.info? 117).bind (·.zero)=some (.nilFunc):=by kernel_rfl
 cases hf:jV.find? (λe=>e.1==p1.Kind) with
 | none=>
 rw[hf] at m
 refine vn (λu=>fC (IM (l:=jV) xH hz u3 rfl rfl (a9 0 u rfl)) (bH.of_eq (y:=.tup [.any,.sc (.bool false)]) (by rw[hf]))) ?_
 repeat refine vs ?_
 refine v0 (v0 ?_)
 repeat refine vs ?_
 refine v0 (bU (fG (gR) yY rfl) ?_)
 refine ve λu=>aK 1 (gR) u rfl rfl rfl rfl lQ rfl rfl λK0=>qk K0 rfl ?_
 refine v0 ?_
 cases m
 exact vr λu=>dX.of2 (.inl rfl) (qD (.agg (gR)) eV rfl (a9 1 u rfl) rfl) (fU _ _ (.sc (.int _ _)) rfl) (aS (List.nil_sublist _) u).1 (bH.agg (.cons (bH.refl _ _) (.cons (aX _) (.cons (aX _) (.cons (aX _) (.cons (aX _) .nil)))))) (bH.refl _ _) ⟨rfl,rfl⟩
 | some e=>
 rw[hf] at m
 refine vn (λu=>fC (IM (l:=jV) xH hz u3 rfl rfl (a9 0 u rfl)) (bH.of_eq (y:=.tup [.fn (.func e.2) [],.sc (.bool true)]) (by rw[hf]))) ?_
 repeat refine vs ?_
 refine v0 (vl 3 (.agg (aE p0)) eV rfl rfl rfl ?_)
 refine vk W31 XP m rfl rfl λ_ m=> ?_
 refine v0 ?_
 apply vi m <;> intro hc m
 repeat refine vs ?_
 refine v0 (bU (fG (gR) yY rfl) ?_)
 refine ve λu=>aK 1 (gR) u rfl rfl rfl rfl lQ rfl rfl λK0=>qk K0 rfl ?_
 refine v0 ?_
 cases m
 exact vr λu=>dX.of2 (.inl rfl) (qD (.agg (gR)) eV rfl (a9 1 u rfl) rfl) (fU _ _ (.sc (.int _ _)) rfl) (aS (List.nil_sublist _) u).1 (bH.agg (.cons (bH.refl _ _) (.cons (aX _) (.cons (aX _) (.cons (aX _) (.cons (aX _) .nil)))))) (bH.refl _ _) ⟨rfl,rfl⟩
 refine v0 ?_
 repeat refine vs ?_
 refine v0 (vl 3 (.agg (aE p0)) eV rfl rfl rfl ?_)
 obtain⟨d,Y0,m⟩:=aC m
 refine ve λu=>cK (aFX _ Y0) rfl aFY rfl ?_
 rintro x h' ⟨gs,oks,gc,okc,ge,oke,gv,okv,K1,rfl,rfl⟩
 have w:=lW (L':= [bM gs d.Snaps,aW gc d.Chunks,bR ge d.Exps,aN gv d.Vols,(some km,.mp (qY jV)),(some k4,.obj 30 (gR)),(some k3,.obj 62 (aD p1)),(some k2,.obj 30 (aE p0))]++((bQ gs d.Snaps)++((a8 gc d.Chunks)++(bS ge d.Exps)))) u K1 [[_], [_], [_], [_],_,_,_] [[_], [_], [_], [_]] rfl rfl [0,1,2,3,7,8,9,10,4,5,6] rfl rfl
 refine qk w.2 w.1 ?_
 refine ve λu=>bD (gR) u pE rfl rfl λk9 K2=>qk K2 rfl ?_
 refine ve λu=>aK 0 ([nZ d.Seq,aZ gs.a,aZ gc.a,aZ ge.a,aZ gv]) u rfl rfl rfl (by repeat (first | exact rfl | refine cE (bY _ _ _) ?_ | refine cE rfl ?_)) lQ rfl rfl λK4=>qk K4 rfl ?_
 repeat refine vs ?_
 refine o6 m (σ:=aB×Int) (τ:=cR×cR×cR×cR) (λg s=> [OC k9 s.1.Seq g.1 g.2.1 g.2.2.1 g.2.2.2,bF g.1 s.1.Snaps,aV g.2.1 s.1.Chunks,bW g.2.2.1 s.1.Exps,aN g.2.2.2 s.1.Vols,(some km,.mp (qY jV)),(some k4,.obj 30 (gR)),(some k3,.obj 62 (aD p1)),(some k2,.obj 30 (aE p0))]) (λg s=>bK g.1 4 s.1.Snaps.length∧bK g.2.1 35 s.1.Chunks.length∧bK g.2.2.1 3 s.1.Exps.length∧bK g.2.2.2 4 s.1.Vols.length) (λg s=>.c 4 (.ptr k4 0) (.c 9 (.ptr k9 0) (.c 10 (nZ s.2) .nil))) (λx m=> ?_) ?_
 refine v0 (vl 7 (.agg (aD p1)) n7 rfl rfl rfl ?_)
 obtain⟨s,hs,m⟩:=aC m
 refine ve λu=> ?_
 have pq:=lV (A:=NE k9 d gs gc ge gv) (R:= [(some km,.mp (qY jV)),(some k4,.obj 30 (gR)),(some k3,.obj 62 (aD p1)),(some k2,.obj 30 (aE p0))]) u [[_], [_], [_], [_], [_], [_], [_], [_], [_],_,_,_] rfl [0,1,2,3,4,9,10,11] [5,6,7,8] rfl rfl rfl
 refine dA pq.1 (cK (UG _ oks okc oke okv pq.2.2 hs) rfl (QR hs) rfl ?_)
 rintro r h' ⟨a',b',c',v',oa,ob,oc,ov,hk',rfl,rfl⟩
 have hq2:=lW (L':= [OC k9 s.1.Seq a' b' c' v',bF a' s.1.Snaps,aV b' s.1.Chunks,bW c' s.1.Exps,aN v' s.1.Vols,(some km,.mp (qY jV)),(some k4,.obj 30 (gR)),(some k3,.obj 62 (aD p1)),(some k2,.obj 30 (aE p0))]) pq.2.1 hk' [[_], [_], [_], [_], [_]] [[_], [_], [_], [_]] rfl rfl [0,1,2,3,4,5,6,7,8] rfl rfl
 refine qk hq2.2 hq2.1 ?_
 exact eY m (a',b',c',v') ⟨oa,ob,oc,ov⟩ (lx (.k3 .nil))
 rintro⟨a',b',c',v'⟩ ⟨dd,ee⟩ ⟨oa,ob,oc,ov⟩ m
 repeat refine vs ?_
 refine v0 ?_
 repeat refine vs ?_
 refine v0 (v0 ?_)
 apply vi m <;> intro hc m
 repeat refine vs ?_
 refine v0 (bU (fG (gR) yY rfl) ?_)
 refine ve λu=>aK 6 (gR) u rfl rfl rfl rfl lQ rfl rfl λK0=>qk K0 rfl ?_
 refine v0 ?_
 cases m
 exact vr λu=>dX.of2 (.inl rfl) (qD (.agg (gR)) eV rfl (a9 6 u rfl) rfl) (fU _ _ (.sc (.int _ _)) rfl) (aS (List.nil_sublist _) u).1 (bH.agg (.cons (bH.refl _ _) (.cons (aX _) (.cons (aX _) (.cons (aX _) (.cons (aX _) .nil)))))) (bH.refl _ _) ⟨rfl,rfl⟩
 repeat refine vs ?_
 refine v0 (vl 0 (.agg ([nZ dd.Seq,aZ a',aZ b',aZ c',aZ v'])) eV rfl rfl rfl ?_)
 obtain⟨_,Y1,m⟩:=aC m
 refine vn (λu=>bZ (fH (.cons (Br.agg (.cons (Br.refl _ _) (.cons (Br.aw 1 eM oa u rfl) (.cons (Br.aw 2 cO ob u rfl) (.cons (Br.aw 3 fM oc u rfl) (.cons (Br.aw 4 eC ov u rfl) .nil)))))) .nil) rfl (W31 _ Y1)) rfl XP rfl) (v0 ?_)
 apply vi m <;> intro c0 m
 repeat refine vs ?_
 refine v0 (bU (fG (gR) yY rfl) ?_)
 refine ve λu=>aK 6 (gR) u rfl rfl rfl rfl lQ rfl rfl λK0=>qk K0 rfl ?_
 refine v0 ?_
 cases m
 exact vr λu=>dX.of2 (.inl rfl) (qD (.agg (gR)) eV rfl (a9 6 u rfl) rfl) (fU _ _ (.sc (.int _ _)) rfl) (aS (List.nil_sublist _) u).1 (bH.agg (.cons (bH.refl _ _) (.cons (aX _) (.cons (aX _) (.cons (aX _) (.cons (aX _) .nil)))))) (bH.refl _ _) ⟨rfl,rfl⟩
 refine v0 ?_
 repeat refine vs ?_
 refine v0 (vl 0 (.agg ([nZ dd.Seq,aZ a',aZ b',aZ c',aZ v'])) eV rfl rfl rfl ?_)
 refine ve λu=>aK 6 ([nZ dd.Seq,aZ a',aZ b',aZ c',aZ v']) u rfl rfl rfl (by repeat (first | exact rfl | refine cE (bY _ _ _) ?_ | refine cE rfl ?_)) lQ rfl rfl λK5=>qk K5 rfl ?_
 refine v0 ?_
 cases m
 refine vrl λu=> ?_
 obtain⟨K6,le0⟩:=i7.fzO (n:=44) (f:=_) 1 5 ([nZ dd.Seq,.sl none 4 (List.map bP dd.Snaps),aZ b',aZ c',aZ v']) u rfl (.cons (Fz.refl _ _ _) (.cons (Fz.aw 1 eM oa u rfl (.refl _)) (.cons (Fz.refl _ _ _) (.cons (Fz.refl _ _ _) (.cons (Fz.refl _ _ _) .nil)))))
 obtain⟨K7,le1⟩:=i7.fzO (n:=44) (f:=_) 1 4 ([nZ dd.Seq,.sl none 4 (List.map bP dd.Snaps),.sl none 35 (List.map aH dd.Chunks),aZ c',aZ v']) K6 rfl (.cons (Fz.refl _ _ _) (.cons (Fz.refl _ _ _) (.cons (Fz.aw 1 cO ob K6 rfl (.refl _)) (.cons (Fz.refl _ _ _) (.cons (Fz.refl _ _ _) .nil)))))
 obtain⟨K8,le2⟩:=i7.fzO (n:=44) (f:=_) 1 3 ([nZ dd.Seq,.sl none 4 (List.map bP dd.Snaps),.sl none 35 (List.map aH dd.Chunks),.sl none 3 (List.map cD dd.Exps),aZ v']) K7 rfl (.cons (Fz.refl _ _ _) (.cons (Fz.refl _ _ _) (.cons (Fz.refl _ _ _) (.cons (Fz.aw 1 fM oc K7 rfl (.refl _)) (.cons (Fz.refl _ _ _) .nil)))))
 obtain⟨K82,le3⟩:=i7.fzO (n:=44) (f:=_) 1 2 ([nZ dd.Seq,.sl none 4 (List.map bP dd.Snaps),.sl none 35 (List.map aH dd.Chunks),.sl none 3 (List.map cD dd.Exps),.sl none 4 (List.map cG dd.Vols)]) K8 rfl (.cons (Fz.refl _ _ _) (.cons (Fz.refl _ _ _) (.cons (Fz.refl _ _ _) (.cons (Fz.refl _ _ _) (.cons (Fz.aw 1 eC ov K8 rfl (.refl _)) .nil)))))
 exact OO.mk (i7.trans (i7.trans (i7.trans le0 le1) le2) le3) (dX.of2 (.inl rfl) (qD (.agg (aE dd)) eV rfl (a9 2 K82 rfl) rfl) (fU _ _ (.sc (.int _ _)) rfl) (aS (List.nil_sublist _) K82).1 (bH.refl _ _) (bH.refl _ _) ⟨rfl,rfl⟩)
theorem aAP:aO Tryz.prog 29=true:=by kernel_rfl
open Go.Vm
theorem mW {α ρ:Type} {l:List α} (f:α→α) {F:Nat} {body:List α×Int→Option (Lp (List α×Int) ρ)} (hF:l.length < F)
    (hb:∀(cur:List α) (i:Nat) (x:α),cur.length=l.length→cur[i]? =some x→x∈l→i < l.length→body (cur,(i:Int))=some (.go (cur.set i (f x),((i+1:Nat):Int))))
    (he:∀cur:List α,cur.length=l.length→body (cur,(l.length:Int))=some (.brk (cur,(l.length:Int)))):
    aT body F (l,0)=some (.brk (l.map f,(l.length:Int))):=by
  have len:∀i,((l.take i).map f++l.drop i).length=l.length:=λi=>by simp; omega
  have:=jS (body:=body) (s0:=(l,(0:Int))) (n:=l.length) (F:=F) (λi:Nat=>((l.take i).map f++l.drop i,(i:Int))) hF (by simp) (λi hi=>by
    have hx:((l.take i).map f++l.drop i)[i]? =some l[i]:=by
      rw[List.getElem?_append_right (by simp; omega)]
      simp[Nat.min_eq_left (Nat.le_of_lt hi)]
    rw[hb _ i l[i] (len i) hx (List.getElem_mem hi) hi]
    congr 4
    rw[List.take_succ_eq_append_getElem hi,List.drop_eq_getElem_cons hi,List.set_append_right _ _ (by simp; omega),List.length_map,List.length_take,Nat.min_eq_left (Nat.le_of_lt hi),Nat.sub_self,List.set_cons_zero,List.map_append]
    simp only[List.map_cons,List.map_nil,List.append_assoc,List.cons_append,List.nil_append]) (he _ (len _))
  simpa using this
theorem AT {F:Nat} {m:bB} (hF:1000≤F) (hp:m.Parts.length≤10) (hi:∀p∈m.Parts,p.Ids.length≤40):J2 F m=some m:=by
 unfold J2 IH
 rw[dV (by simp; omega)]
 simp only[Option.bind_some,List.nil_append]
 rw[mW (l:=m.Parts) id (by omega) (λcur i x hc hx hm hi'=>by
  have:=hi x hm
  unfold sW QO
  rw[hH (by omega)]
  simp only[bO,hx,Option.bind_some,Int.ofNat_lt,hi',decide_true,if_true]
  rw[dV (by simp; omega)]
  rfl) (λcur hc=>by unfold sW; simp)]
 simp[aJ]
theorem aF0 {F:Nat} {c:aB} (hF:1000≤F) (h:Sm c):ND F c=some c:=by
 have hsn:=h.sn
 have hex:=h.ex
 have hvo:=h.vo
 have hch:=h.ch
 unfold ND II IJ IK IL
 rw[dV (by simp; omega),dV (by simp; omega),dV (by simp; omega),dV (by simp; omega)]
 simp only[Option.bind_some,List.nil_append]
 rw[mW (l:=c.Snaps) id (by omega) (λcur i x hc hx hm hi=>by
  have h1:=h.sl x hm
  obtain⟨-,h2,h3⟩:=h.man x hm
  unfold sX EJ
  rw[hH (by omega)]
  simp only[bO,hx,Option.bind_some,Int.ofNat_lt,hi,decide_true,if_true,AT hF h2 (λp hp=>(h3 p hp).2)]
  rw[dV (by simp; omega)]
  simp[List.set_set]) (λcur hc=>by unfold sX; simp)]
 simp only[aJ]
 rw[mW (l:=c.Chunks) id (by omega) (λcur i x hc hx hm hi=>by
  have h1:=h.cl x hm
  unfold sY EJ RJ
  have e1:app [] x.Data=some x.Data:=by rw[dV (by simp; omega)]; rfl
  rw[hH (by omega)]
  simp only[bO,hx,Option.bind_some,Int.ofNat_lt,hi,decide_true,if_true,e1]
  rw[dV (by simp; omega)]
  simp[List.set_set]) (λcur hc=>by unfold sY; simp)]
 simp only[aJ]
 rw[mW (l:=c.Exps) id (by omega) (λcur i x hc hx hm hi=>by
  have h1:=h.el x hm
  unfold s9 EJ
  rw[hH (by omega)]
  simp only[bO,hx,Option.bind_some,Int.ofNat_lt,hi,decide_true,if_true]
  rw[dV (by simp; omega)]
  simp) (λcur hc=>by unfold s9; simp)]
 simp[aJ]
theorem aF1 {F:Nat} {l:List aA} {f:aA→Option Bool} (q:aA→Bool) (hF:1000≤F) (hl:l.length≤400) (hf:∀x∈l,f x=some (q x)):ET F l f=some (l.filter λx=> !q x):=by
 have h119:M7 F l f=some (oH l q):=by
  unfold M7
  refine iP q (by omega) (λi x hx hm hi=> ?_) (by unfold sV; simp)
  unfold sV
  rw[hH (by omega)]
  simp only[bO,hx,hf x hm,Option.bind_some,Int.ofNat_lt,hi,decide_true,if_true]
  split <;> rfl
 unfold ET
 rw[h119]
 simp only[Option.bind_some]
 cases ha:l.any q with
 | false=>
  rw[gZ ha]
  simp only[beq_self_eq_true,if_true]
  rw[List.filter_eq_self.2 λx hx=>by simpa using List.any_eq_false.1 ha x hx]
 | true=>
  obtain⟨i,x,h1,h2,h3,h4⟩:=iQ ha
  rw[h1]
  have hn:((i:Int)== -1)=false:=by simp
  have hil:=(List.getElem?_eq_some_iff.1 h2).1
  rw[hn,hH (by omega)]
  simp only[Bool.false_eq_true,if_false]
  obtain⟨cur,w,e1,e2,e3,e4⟩:=sN (l:=l) (q:=q) (F:=F) (body:=λs=>nS F f s.1 s.2.1 s.2.2) (by omega) h2 h3 h4 (λcur w r x hc hw hr hx hm=>by
   unfold nS
   simp only
   rw[hH (i:=r) (by omega),hH (i:=w) (by omega)]
   have hcw:cur[w]? =some cur[w]:=List.getElem?_eq_getElem (by omega)
   simp only[bO,hx,hf x hm,Option.bind_some,hc,Int.ofNat_lt,hr,decide_true,if_true,hcw,Int.toNat_natCast]
   cases q x <;> rfl) (λcur w hc=>by unfold nS; simp[hc])
  rw[e1]
  simp only[aJ]
  have g1:(decide ((0:Int)≤(w:Int)) && decide ((w:Int) < (cur.length:Int)))=true:=by simp; omega
  have g2:(decide ((0:Int)≤(w:Int)) && decide ((w:Int)≤(cur.length:Int)))=true:=by simp; omega
  simp only[grd,g1,g2,if_true,Int.toNat_natCast,e4]
theorem aF2 {F:Nat} {l:List aQ} {f:aQ→Option Bool} (q:aQ→Bool) (hF:1000≤F) (hl:l.length≤400) (hf:∀x∈l,f x=some (q x)):EU F l f=some (l.filter λx=> !q x):=by
 have h119:ES F l f=some (oH l q):=by
  unfold ES
  refine iP q (by omega) (λi x hx hm hi=> ?_) (by unfold pP; simp)
  unfold pP
  rw[hH (by omega)]
  simp only[bO,hx,hf x hm,Option.bind_some,Int.ofNat_lt,hi,decide_true,if_true]
  split <;> rfl
 unfold EU
 rw[h119]
 simp only[Option.bind_some]
 cases ha:l.any q with
 | false=>
  rw[gZ ha]
  simp only[beq_self_eq_true,if_true]
  rw[List.filter_eq_self.2 λx hx=>by simpa using List.any_eq_false.1 ha x hx]
 | true=>
  obtain⟨i,x,h1,h2,h3,h4⟩:=iQ ha
  rw[h1]
  have hn:((i:Int)== -1)=false:=by simp
  have hil:=(List.getElem?_eq_some_iff.1 h2).1
  rw[hn,hH (by omega)]
  simp only[Bool.false_eq_true,if_false]
  obtain⟨cur,w,e1,e2,e3,e4⟩:=sN (l:=l) (q:=q) (F:=F) (body:=λs=>nT F f s.1 s.2.1 s.2.2) (by omega) h2 h3 h4 (λcur w r x hc hw hr hx hm=>by
   unfold nT
   simp only
   rw[hH (i:=r) (by omega),hH (i:=w) (by omega)]
   have hcw:cur[w]? =some cur[w]:=List.getElem?_eq_getElem (by omega)
   simp only[bO,hx,hf x hm,Option.bind_some,hc,Int.ofNat_lt,hr,decide_true,if_true,hcw,Int.toNat_natCast]
   cases q x <;> rfl) (λcur w hc=>by unfold nT; simp[hc])
  rw[e1]
  simp only[aJ]
  have g1:(decide ((0:Int)≤(w:Int)) && decide ((w:Int) < (cur.length:Int)))=true:=by simp; omega
  have g2:(decide ((0:Int)≤(w:Int)) && decide ((w:Int)≤(cur.length:Int)))=true:=by simp; omega
  simp only[grd,g1,g2,if_true,Int.toNat_natCast,e4]
def lf (v:Int) (l:List bI):List bI:=l.filter λy=> !(y.Vol==v)
def aAQ (v:Int) (s:aG):aG:= { s with Locs:=lf v s.Locs}
def aAR (v:Int) (s:aA):aA:= { s with Locs:=lf v s.Locs}
def aAS (v:Int) (s:aQ):aQ:= { s with Locs:=lf v s.Locs}
def NG (y:aA):Bool:= !y.Staged && ((y.Locs.length:Int)==0)
def ret (c:aB) (v:Int) (x:aR):aB:=
 { Seq:=c.Seq,Snaps:=c.Snaps.map (aAQ v),Chunks:=(c.Chunks.map (aAR v)).filter λy=> !NG y,Exps:=(c.Exps.map (aAS v)).filter λy=> !((y.Locs.length:Int)==0),Vols:=c.Vols.set v.toNat { x with State:=3,Files:=0}}
theorem UH {F:Nat} {l:List bI} {d:aP} (hF:1000≤F) (hl:l.length≤300):yA F l d=some (lf d.Vol l):=by
 unfold yA
 rw[m83 (f:=λx0=>QM F x0 d) (λx=>x.Vol==d.Vol) hF hl (λx _=>rfl)]
 rfl
theorem n75 {F:Nat} {c:aB} {d:aP} {x:aR} (hF:1000≤F) (h:Sm c) (h0:0≤d.Vol) (hx:c.Vols[d.Vol.toNat]? =some x):
    VY F c d=some (if x.State=2 then (0,(ret c d.Vol x).Snaps,(ret c d.Vol x).Chunks,(ret c d.Vol x).Exps,(ret c d.Vol x).Vols) else (1,c.Snaps,c.Chunks,c.Exps,c.Vols)):=by
  have hsn:=h.sn
  have hex:=h.ex
  have hvo:=h.vo
  have hch:=h.ch
  have hlt:=(List.getElem?_eq_some_iff.1 hx).1
  have hx2:(c.Vols.set d.Vol.toNat { x with State:=3})[d.Vol.toNat]? =some { x with State:=3}:=by
    rw[List.getElem?_set_self hlt]
  unfold VY
  rw[show decide (d.Vol < 0)=false from decide_eq_false (by omega),show decide ((c.Vols.length:Int)≤d.Vol)=false from decide_eq_false (by omega)]
  simp only[Bool.false_eq_true,if_false,uH _ h0,hx,hx2,Option.bind_some,aJ]
  by_cases e:x.State=2
  · rw[if_neg (by simp[e]),if_pos e]
    rw[mW (l:=c.Snaps) (aAQ d.Vol) (by omega) (λcur i x hc hx hm hi=>by
      unfold yB
      rw[hH (by omega)]
      simp only[bO,hx,Option.bind_some,Int.ofNat_lt,hi,decide_true,if_true,UH hF (h.sl x hm)]
      rfl) (λcur hc=>by unfold yB; simp)]
    simp only[aJ]
    rw[mW (l:=c.Chunks) (aAR d.Vol) (by omega) (λcur i x hc hx hm hi=>by
      unfold yC
      rw[hH (by omega)]
      simp only[bO,hx,Option.bind_some,Int.ofNat_lt,hi,decide_true,if_true,UH hF (h.cl x hm).1]
      rfl) (λcur hc=>by unfold yC; simp)]
    simp only[aJ]
    rw[mW (l:=c.Exps) (aAS d.Vol) (by omega) (λcur i x hc hx hm hi=>by
      unfold yD
      rw[hH (by omega)]
      simp only[bO,hx,Option.bind_some,Int.ofNat_lt,hi,decide_true,if_true,UH hF (h.el x hm)]
      rfl) (λcur hc=>by unfold yD; simp)]
    simp only[aJ]
    rw[aF1 (f:=λx0=>NA F x0) NG hF (by simpa using hch) (λy _=>by
      unfold NA NG
      cases y.Staged <;> rfl),aF2 (f:=λx0=>QN F x0) (λy=>(y.Locs.length:Int)==0) hF (by rw[List.length_map]; omega) (λy _=>rfl)]
    simp only[Option.bind_some,List.set_set]
    rfl
  · rw[if_pos (by simpa using e),if_neg e]
def rel (c:aB) (v:Int) (x:aR):aB:= { c with Vols:=c.Vols.set v.toNat { x with State:=1,Epoch:=x.Epoch+1}}
theorem n76 {F:Nat} {c:aB} {d:aP} {x:aR} (h0:0≤d.Vol) (hx:c.Vols[d.Vol.toNat]? =some x) (he:0≤x.Epoch∧x.Epoch≤1048576):
    VV F c d=some (if x.State=3 then (0,(rel c d.Vol x).Vols) else (1,c.Vols)):=by
  have hlt:=(List.getElem?_eq_some_iff.1 hx).1
  have hx2:(c.Vols.set d.Vol.toNat { x with State:=1})[d.Vol.toNat]? =some { x with State:=1}:=by
    rw[List.getElem?_set_self hlt]
  unfold VV
  rw[show decide (d.Vol < 0)=false from decide_eq_false (by omega),show decide ((c.Vols.length:Int)≤d.Vol)=false from decide_eq_false (by omega)]
  simp only[Bool.false_eq_true,if_false,uH _ h0,hx,hx2,Option.bind_some,aJ]
  by_cases e:x.State=3
  · rw[if_neg (by simp[e]),if_pos e,wr (by omega) (by omega)]
    simp only[List.set_set]
    rfl
  · rw[if_pos (by simpa using e),if_neg e]
theorem n29 {F:Nat} {c:aB} {d:aP} {k:Nat} {e:aB} {n:Int} (hF:1000≤F) (h:Sm c) (hg:iX c=true) (hk:jV.find? (λe=>e.1==d.Kind)=some (d.Kind,k)) (hd:gO F k c d=some (e,n)) (hs:n=0→Sm e):
    DH F c d=some (if n=0 then (if iX e=true then (e,0) else (dJ,1)) else (dJ,n)):=by
  unfold DH
  rw[hk]
  simp only[m33 hF h,hg,if_true,Option.bind_some,aF0 hF h,hd,aJ]
  by_cases e0:n=0
  · rw[if_neg (by decide),if_neg (by simp[e0]),m33 hF (hs e0),if_pos e0]
    simp only[Option.bind_some]
    cases iX e <;> rfl
  · rw[if_neg (by decide),if_pos (by simpa using e0),if_neg e0]
open Go.Vm
theorem uT {l:List aA}:uO l↔(∀x∈l,mD x.Id)∧l.Pairwise λy x=>ky y.Id < ky x.Id:=by
 unfold uO
 refine and_congr_right λ_=> ?_
 rw[List.pairwise_iff_getElem]
 constructor
 ·intro h i j hi hj hij
  exact h i j _ _ (List.getElem?_eq_getElem hi) (List.getElem?_eq_getElem hj) hij
 ·intro h i j x y hx hy hij
  obtain⟨hi,rfl⟩:=List.getElem?_eq_some_iff.1 hx
  obtain⟨hj,rfl⟩:=List.getElem?_eq_some_iff.1 hy
  exact h i j hi hj hij
structure At (l:List aA) (d:bL) (p:Nat):Prop where
 le:p≤l.length
 lo:∀x∈l.take p,ky x.Id < ky d
 hi:∀x∈l.drop p,ky d≤ky x.Id
theorem UI {F:Nat} {l:List aA} {d:bL} (hF:1000≤F) (hr:uO l) (hd:mD d) (hl:l.length < 1000):∃p:Nat,At l d p∧vP F l d=some ((p:Int),kM l d):=by
 obtain⟨p',e'⟩:=YP hF hr hd hl
 obtain⟨p,hp,e,h1,h2⟩:=bis (F:=F) hr hd hl F 0 l.length (by omega) (Nat.le_refl _) (by omega) (λj x _ hj=>by omega) (λj x hx hj=>by have:=(List.getElem?_eq_some_iff.1 hx).1; omega)
 have e2:∃b,vP F l d=some ((p:Int),b):=by
  unfold vP L8
  rw[show ((0:Int),(l.length:Int))=(((0:Nat):Int),(l.length:Int)) from rfl,e]
  simp only[aJ]
  by_cases hlt:p < l.length
  ·have hx:l[p]? =some l[p]:=List.getElem?_eq_getElem hlt
   have hmem:=List.getElem_mem hlt
   generalize l[p]=x at hx hmem
   have gx:=hr.1 x hmem
   have e:zH F x d=some (if ky x.Id < ky d then -1 else if ky d < ky x.Id then 1 else 0):=by unfold zH; rw[MD F gx hd]; rfl
   simp only[Int.ofNat_lt,hlt,decide_true,if_true,bO,hx,Option.bind_some,e,aJ]
   exact⟨_,rfl⟩
  ·have hn:¬((p:Int) < (l.length:Int)):=by omega
   simp only[hn,decide_false,Bool.false_eq_true,if_false,aJ,Option.bind_some]
   exact⟨_,rfl⟩
 obtain⟨b,hb⟩:=e2
 refine⟨p,⟨hp,λx hx=> ?_,λx hx=> ?_⟩, ?_⟩
 ·obtain⟨i,hi,rfl⟩:=List.getElem_of_mem hx
  simp only[List.length_take] at hi
  rw[List.getElem_take]
  exact h1 i _ (List.getElem?_eq_getElem (by omega)) (by omega)
 ·obtain⟨i,hi,rfl⟩:=List.getElem_of_mem hx
  simp only[List.length_drop] at hi
  rw[List.getElem_drop]
  exact h2 (p+i) _ (List.getElem?_eq_getElem (by omega)) (by omega)
 ·rw[hb] at e' ⊢
  have:=Option.some.inj e'
  rw[(Prod.mk.inj this).2]
theorem CE {α:Type} {l:List α} {p:Nat} {x:α} (h:p≤l.length) (hl:l.length < 1000):o4 l (p:Int) x=some (l.take p++x::l.drop p):=by
 unfold o4
 rw[if_pos ⟨by omega,by omega,by omega⟩]
 simp
theorem G9 {l:List aA} {p:Nat} {d:bL} (hr:uO l) (ha:At l d p) (hd:mD d) (h:kM l d=true):∃x,l[p]? =some x∧x.Id=d:=by
 obtain⟨y,hy,e⟩:=List.any_eq_true.1 h
 have e:=of_decide_eq_true e
 have hy2:y∈l.take p++l.drop p:=by rw[List.take_append_drop]; exact hy
 rcases List.mem_append.1 hy2 with h1 | h1
 ·have:=ha.lo y h1
  rw[e] at this; omega
 ·obtain⟨i,hi,e2⟩:=List.getElem_of_mem h1
  simp only[List.length_drop] at hi
  rw[List.getElem_drop] at e2
  have hp:l[p]? =some l[p]:=List.getElem?_eq_getElem (by omega)
  cases i with
  | zero=>exact⟨_,hp,by rw[← e,← e2]; rfl⟩
  | succ i=>
   have h3:=hr.2 p (p+(i+1)) _ _ hp (List.getElem?_eq_getElem (by omega)) (by omega)
   have h4:=ha.hi l[p] (by
    rw[List.drop_eq_getElem_cons (by omega)]
    exact List.mem_cons_self)
   rw[e2,e] at h3
   omega
open Go.Vm
theorem AU {ρ:Type} {body:Int→Option (Lp Int ρ)} {c:Nat→Bool}:∀(G q:Nat),q < G→(∀k:Nat,k≤q→body (k:Int)=some (if decide (0 < k) && c (k - 1) then .go ((k - 1:Nat):Int) else .brk (k:Int)))→
    ∃p:Nat,p≤q∧aT body G (q:Int)=some (.brk (p:Int))∧(∀j,p≤j→j < q→c j=true)∧(0 < p→c (p - 1)=false)
  | 0,_,h,_=>by omega
  | G+1,q,h,hb=>by
    unfold aT
    rw[hb q (Nat.le_refl _)]
    cases e:decide (0 < q) && c (q - 1) with
    | false=>
      refine⟨q,Nat.le_refl _,by simp,λj h1 h2=>by omega,λh0=> ?_⟩
      simpa [h0] using e
    | true=>
      simp only[Bool.and_eq_true,decide_eq_true_eq] at e
      obtain⟨p,h1,h2,h3,h4⟩:=AU (body:=body) (c:=c) G (q - 1) (by omega) λk hk=>hb k (by omega)
      refine⟨p,by omega,by simpa using h2,λj hj1 hj2=> ?_,h4⟩
      by_cases ej:j=q - 1
      · rw[ej]; exact e.2
      · exact h3 j hj1 (by omega)
structure Pt (l:List bI) (x:bI) (p:Nat):Prop where
 le:p≤l.length
 hi:∀y∈l.drop p,nM y x=true
 lo:∀y,0 < p→l[p - 1]? =some y→nM y x=false
theorem aF3 {F:Nat} {l:List bI} {x:bI} (hF:1000≤F) (hl:l.length≤400):∃p,Pt l x p∧u7 F l x=some (l.take p++x::l.drop p):=by
 obtain⟨p,h1,h2,h3,h4⟩:=AU (body:=λs=>pO F l x s) (c:=λj=>match l[j]? with | none=>false | some y=>nM y x) F l.length (by omega) (λk hk=>by
  unfold pO
  by_cases h0:0 < k
  ·have hy:l[k - 1]? =some l[k - 1]:=List.getElem?_eq_getElem (by omega)
   generalize l[k - 1]=y at hy
   rw[xM (by omega) h0]
   have hk0:(0:Int) < (k:Int):=by omega
   simp only[bO,hy,hk0,h0,decide_true,Bool.true_and,if_true,Option.bind_some]
   have e:nM y x=(if decide (x.Vol < y.Vol)=true then true else if (y.Vol==x.Vol)=true then (if decide (x.File < y.File)=true then true else if (y.File==x.File)=true then decide (x.Off < y.Off) else false) else false):=by
    rw[Bool.eq_iff_iff,ID]
    by_cases a:x.Vol < y.Vol <;> by_cases b:y.Vol=x.Vol <;> by_cases c:x.File < y.File <;> by_cases d:y.File=x.File <;> simp[a,b,c,d] <;> omega
   rw[e]
   by_cases a:x.Vol < y.Vol <;> by_cases b:y.Vol=x.Vol <;> by_cases c:x.File < y.File <;> by_cases d:y.File=x.File <;> (simp[a,b,c,d,aJ] <;> (split <;> rfl))
  ·obtain rfl:k=0:=by omega
   simp[aJ])
 refine⟨p,⟨h1,λy hy=> ?_,λy h0 hy=> ?_⟩, ?_⟩
 ·obtain⟨i,hi,rfl⟩:=List.getElem_of_mem hy
  simp only[List.length_drop] at hi
  have:=h3 (p+i) (by omega) (by omega)
  rw[List.getElem?_eq_getElem (show p+i < l.length by omega)] at this
  rw[List.getElem_drop]
  exact this
 ·have:=h4 h0
  simp only[hy] at this
  exact this
 ·unfold u7
  rw[h2]
  simp only[aJ]
  rw[CE h1 (by omega)]
  rfl
open Go.Vm
def KI (c:aB) (y:aA):aA:=if sI c y.Id then y else { y with Staged:=false,Data:= []}
def NH (y:aA):Bool:=y.Staged || decide (0 < (y.Locs.length:Int))
def J4 (c:aB):List aA:=(c.Chunks.filter λy=>NH (KI c y)).map (KI c)
theorem aAU {F:Nat} {c:aB} (hF:1000≤F) (h:Sm c):G7 F c=some (J4 c):=by
 have hch:=h.ch
 unfold G7
 rw[JU (l:=c.Chunks) [] (λy=>NH (KI c y)) (KI c) (by omega) (λi x hx hm hi acc ha=>by
  unfold sS
  simp only
  rw[hH (by omega)]
  simp only[List.length_nil] at ha
  have ea:∀z:aA,app acc [z]=some (acc++ [z]):=λz=>dV (by simp; omega)
  simp only[bO,hx,Option.bind_some,Int.ofNat_lt,hi,decide_true,if_true,m44 hF (c:= { Seq:=c.Seq,Snaps:=c.Snaps,Chunks:=c.Chunks,Exps:=c.Exps,Vols:=c.Vols}) h]
  unfold KI NH
  show _=_
  rw[show sI { Seq:=c.Seq,Snaps:=c.Snaps,Chunks:=c.Chunks,Exps:=c.Exps,Vols:=c.Vols} x.Id=sI c x.Id from rfl]
  generalize sI c x.Id=ub
  obtain⟨id,st,da,lo⟩:=x
  simp only
  cases ub
  ·simp only[Bool.not_false,Bool.false_eq_true,if_true,if_false,aJ,Bool.false_or]
   generalize decide (0 < (lo.length:Int))=dl
   cases dl <;> simp[aJ,ea]
  ·simp only[Bool.not_true,Bool.false_eq_true,if_true,if_false,aJ]
   generalize decide (0 < (lo.length:Int))=dl
   cases dl <;> cases st <;> simp[aJ,ea]) (λacc=>by unfold sS; simp)]
 simp[aJ,J4]
theorem QS {α:Type} {l:List α} {q:α→Bool} {i:Nat} {x:α} (hx:l[i]? =some x) (hq:q x=true) (h1:∀y∈l.take i,q y=false) (h2:∀y∈l.drop (i+1),q y=false):l.take i++l.drop (i+1)=l.filter λy=> !q y:=by
 obtain⟨hi,rfl⟩:=List.getElem?_eq_some_iff.1 hx
 have e:l.filter (λy=> !q y)=(l.take i++l[i]::l.drop (i+1)).filter λy=> !q y:=by
  rw[← List.drop_eq_getElem_cons hi,List.take_append_drop]
 rw[e,List.filter_append,List.filter_cons_of_neg (by simp[hq])]
 rw[List.filter_eq_self.2 λy hy=>by simp[h1 y hy],List.filter_eq_self.2 λy hy=>by simp[h2 y hy]]
def NI (c:aB) (n:Int):aB:= { c with Snaps:=c.Snaps.filter λs=> !(s.Seq==n)}
def R5 (c:aB) (n:Int):aB:= { NI c n with Chunks:=J4 (NI c n)}
theorem tA {c:aB} (h:Sm c) (q:aG→Bool):Sm { c with Snaps:=c.Snaps.filter q}:=
 { h with
  g:=⟨h.g.1,λs hs=>h.g.2.1 s (List.mem_filter.1 hs).1,h.g.2.2⟩
  sn:=Nat.le_trans (List.length_filter_le _ _) h.sn
  sl:=λs hs=>h.sl s (List.mem_filter.1 hs).1
  man:=λs hs=>h.man s (List.mem_filter.1 hs).1}
theorem n73 {F:Nat} {c:aB} {d:aP} (hF:1000≤F) (h:Sm c) (hg:Gd c):VW F c d=some (if c.Snaps.any (λs=>s.Seq==d.Seq) then (0,(R5 c d.Seq).Snaps,(R5 c d.Seq).Chunks) else (8,c.Snaps,c.Chunks)):=by
 have hsn:=h.sn
 have hi:u6 F c.Snaps (λx0=>M3 F x0 d)=some (oH c.Snaps λs=>s.Seq==d.Seq):=by
  unfold u6
  refine iP (l:=c.Snaps) (λs:aG=>s.Seq==d.Seq) (by omega) (λi x hx hm hi=> ?_) (by unfold mV; simp)
  unfold mV M3
  rw[hH (by omega)]
  simp only[bO,hx,Option.bind_some,Int.ofNat_lt,hi,decide_true,if_true]
  split <;> rfl
 unfold VW
 rw[hi]
 simp only[Option.bind_some]
 cases ha:c.Snaps.any (λs=>s.Seq==d.Seq) with
 | false=>
  rw[gZ ha]
  rfl
 | true=>
  obtain⟨i,x,h1,h2,h3,h4⟩:=iQ ha
  have hil:=(List.getElem?_eq_some_iff.1 h2).1
  rw[h1,hH (by omega)]
  rw[if_neg (by simp)]
  have ed:JY c.Snaps (i:Int) ((i+1:Nat):Int)=some (c.Snaps.filter λs=> !(s.Seq==d.Seq)):=by
   unfold JY
   rw[if_pos ⟨by omega,by omega,by omega⟩]
   simp only[Int.toNat_natCast]
   rw[QS h2 h3 h4 λy hy=>by
    obtain⟨j,hj,rfl⟩:=List.getElem_of_mem hy
    simp only[List.length_drop] at hj
    rw[List.getElem_drop]
    have:=List.pairwise_iff_getElem.1 hg.so i (i+1+j) hil (by omega) (by omega)
    obtain⟨_,e⟩:=List.getElem?_eq_some_iff.1 h2
    rw[e] at this
    have h3:x.Seq=d.Seq:=by simpa using h3
    simp only[beq_eq_false_iff_ne,ne_eq]
    omega]
  rw[ed]
  simp only[Option.bind_some]
  rw[aAU hF (tA h _)]
  rfl
open Go.Vm
def yF (m:Nat) (p0:List aA) (q0:List aA) (q1:Int):Option (Lp ((List aA)×Int) ((List aA))):=
 if (decide (q1 < (p0.length:Int)))=true then ((ix p0 q1).bind λx0=>(zQ m x0.Data).bind λy0=>(xR m x0.Locs).bind λy1=>(app q0 ([{ { x0 with Data:=y0} with Locs:=y1}]:List aA)).bind λz0=>some (.go (z0,IntKind.wrap .i64 (q1+1)))) else some (.brk (q0,q1))
def EV (m:Nat) (p0:List aA):Option ((List aA)):=
 after (aT (λs=>yF m p0 s.1 s.2) m ([],0)) λ⟨r0,r1⟩=>some r0
theorem R6 {w:Nat} {p0:List aA} {o:(List aA)} (h:aF) (m:EV w p0=some o):
 aL Tryz.prog 152 [.sl none 35 (List.map aH p0)] h (λr h'=>∃g:cR,bK g 35 o.length∧bV h [(g.t,.obj 44 (fl aH o g.sp))]∧r=aZ g∧h'=hp h [(g.t,.obj 44 (fl aH o g.sp))]):=by
 refine fN 29 [.tmp 2] Tryz.func152 rfl rfl rfl rfl ?_
 unfold EV at m
 refine vs (v0 (vs (v0 (vs (vs (v0 (pU (FE (.obj 44 (fl aH ([]:List aA) g0.sp)) 3 (aZ g0) (fZ _)) (nC m (σ:=(List aA)×Int) (τ:=cR) (λg s=> [(cF g s.1)]) (λg s=>bK g 35 (s.1:List aA).length) (λg s=>.c 0 (.sl none 35 (List.map aH p0)) (.c 3 (aZ g) (.c 4 (nZ s.2) .nil))) g0 (bK.g0 35) (lx (.k3 .nil)) ?_ ?_))))))))
 rintro ag0 ⟨q0,q1⟩ x O0 m
 replace m:yF w p0 q0 q1=some x:=m
 unfold yF at m
 refine vs (vs (v0 (cZ hM rfl (v0 ?_))))
 apply vi m <;> intro c0 m
 refine v0 (vs (v0 (vs (v0 (vx m eU rfl rfl λx0 _ m=>va (.agg (aH x0)) lS rfl rfl (ve λu=>bD (bJ jX++(KK:List AV)) u nE rfl rfl λk115 K0=>qk K0 rfl (ve λu=>aK 0 (aH x0) u rfl rfl rfl rfl xD rfl rfl λK1=>qk K1 rfl (vs (v0 (vz [(7,some k115,.obj 44 (aH x0))] mixed (λu=>⟨λ_=>aI 0 u rfl,trivial⟩) λu=>zF 0 rfl jO rfl (zL 1 0 (.sl none 1 (List.map dD x0.Data)) rfl lH rfl rfl rfl ?_)))))))))))
 obtain⟨y0,Y0,m⟩:=aC m
 refine zC 2 rfl (bZ (MJ _ Y0) rfl EG rfl) (zF 3 rfl iW rfl (zL 4 0 (.sl none 4 (List.map aM x0.Locs)) rfl e8 rfl rfl rfl ?_))
 obtain⟨y1,Y1,m⟩:=aC m
 refine zC 5 rfl (bZ (MI _ Y1) rfl EF rfl) (zF 6 rfl jO rfl (zE 7 rfl (aK 0 (aH { x0 with Data:=y0}) u rfl rfl rfl rfl BY rfl rfl λK2=>⟨⟨λe=>absurd e (by decide),trivial⟩, ?_⟩)))
 refine zF 8 rfl iW rfl (zE 9 rfl (aK 0 (aH { { x0 with Data:=y0} with Locs:=y1}) K2 rfl rfl rfl rfl nL rfl rfl λK3=>⟨⟨λe=>absurd e (by decide),trivial⟩, ?_⟩))
 refine zX (qk (f:=PQ 23 _ _ _ _ _ _ _ _ _) K3 rfl (v0 (vl 0 (.agg (aH { { x0 with Data:=y0} with Locs:=y1})) lS rfl rfl rfl (bU (eO (List.map aH ([{ { x0 with Data:=y0} with Locs:=y1}]:List aA)) lF rfl rfl rfl rfl) ?_))))
 obtain⟨z0,Z0,m⟩:=aC m
 exact ve λu=>f8 (c:=aH) 1 Z0 lF rfl nE rfl cO rfl rfl O0 u rfl λag1 O1 K4=>qk K4 rfl (v0 (eY m ag1 O1 (kP [1] rfl rfl (.k3 .nil))))
 exact v0 (lA m ag0 O0 (lx (.k3 .nil)))
 rintro ag2 ⟨r0,r1⟩ t0 m
 refine vs (v0 (v0 ?_))
 obtain rfl:=eB m
 exact vr λu=>dX.one (.inl rfl) (aS (h0:=h) (L':= [(cF ag2 r0)]) (.refl _) u).1 (bH.refl _ _) ⟨ag2,t0,(aS (h0:=h) (L':= [(cF ag2 r0)]) (.refl _) u).2,rfl,rfl⟩
def CF (m:Nat) (p0:aB) (q0:List aG) (q1:Int):Option (Lp ((List aG)×Int) (aB)):=
 if (decide (q1 < (p0.Snaps.length:Int)))=true then ((ix p0.Snaps q1).bind λx0=>(GO m x0.Man).bind λy0=>(xR m x0.Locs).bind λy1=>(app q0 ([{ { x0 with Man:=y0} with Locs:=y1}]:List aG)).bind λz0=>some (.go (z0,IntKind.wrap .i64 (q1+1)))) else some (.brk (q0,q1))
def CG (m:Nat) (p0:aB) (q0:List aQ) (q1:Int):Option (Lp ((List aQ)×Int) (aB)):=
 if (decide (q1 < (p0.Exps.length:Int)))=true then ((ix p0.Exps q1).bind λx0=>(xR m x0.Locs).bind λy0=>(app q0 ([{ x0 with Locs:=y0}]:List aQ)).bind λz0=>some (.go (z0,IntKind.wrap .i64 (q1+1)))) else some (.brk (q0,q1))
def NJ (m:Nat) (p0:aB):Option (aB):=
 after (aT (λs=>CF m p0 s.1 s.2) m ([],0)) λ⟨r0,r1⟩=>after (aT (λs=>CG m p0 s.1 s.2) m ([],0)) λ⟨r2,r3⟩=>(EV m p0.Chunks).bind λy0=>(app ([]:List aR) p0.Vols).bind λz0=>some ({ Seq:=p0.Seq,Snaps:=r0,Chunks:=y0,Exps:=r2,Vols:=z0}:aB)
theorem aF4 {w:Nat} {p0:aB} {o:aB} (h:aF) (m:NJ w p0=some o):
 aL Tryz.prog 90 [.agg (aE p0)] h (λr h'=>∃gS:cR,bK gS 4 o.Snaps.length∧∃gC:cR,bK gC 35 o.Chunks.length∧∃gE:cR,bK gE 3 o.Exps.length∧∃gV:cR,bK gV 4 o.Vols.length∧bV h [(dN gS o.Snaps),(cF gC o.Chunks),(fA gE o.Exps),(kV gV o.Vols)]∧r= .agg ([nZ o.Seq,aZ gS,aZ gC,aZ gE,aZ gV])∧h'=hp h [(dN gS o.Snaps),(cF gC o.Chunks),(fA gE o.Exps),(kV gV o.Vols)]):=by
 refine fN 68 [.cell 2 30] Tryz.func90 rfl rfl rfl rfl ?_
 unfold NJ at m
 refine vs (v0 (gG rfl rfl λk2 K3=>ve λu=>bD (gR) u pE rfl rfl λk5 K6=>qk K6 rfl (vs (v0 (vs (vs (v0 (pU (FE (.obj 60 (fl bP ([]:List aG) g0.sp)) 3 (aZ g0) (fZ _)) (nC m (σ:=(List aG)×Int) (τ:=cR) (λg s=> [(dN g s.1),(some k5,.obj 30 (gR)),(some k2,.obj 30 (aE p0))]) (λg s=>bK g 4 (s.1:List aG).length) (λg s=>.c 1 (.ptr k2 0) (.c 2 (.ptr k5 0) (.c 3 (aZ g) (.c 4 (nZ s.2) .nil)))) g0 (bK.g0 4) (lx (.k4 .nil)) ?_ ?_)))))))))
 rintro ag0 ⟨q0,q1⟩ x O0 m
 replace m:CF w p0 q0 q1=some x:=m
 unfold CF at m
 refine vs (vs (v0 (dM dW rfl rfl (vl 2 _ eK rfl rfl rfl (cZ iJ rfl (v0 ?_))))))
 apply vi m <;> intro c0 m
 refine v0 (vs (v0 (vs (v0 (dM dW rfl rfl (vl 2 _ eK rfl rfl rfl (vx m gJ rfl rfl λx0 _ m=>va (.agg (bP x0)) qR rfl rfl (ve λu=>bD (V6) u uB rfl rfl λk121 K0=>qk K0 rfl (ve λu=>aK 0 (bP x0) u rfl rfl rfl rfl JL rfl rfl λK1=>qk K1 rfl (vs (v0 (vz [(7,some k121,.obj 60 (bP x0))] mixed (λu=>⟨λ_=>aI 0 u rfl,trivial⟩) λu=>zF 0 rfl n6 rfl (zL 1 0 (.agg (aU x0.Man)) rfl lI rfl rfl rfl ?_)))))))))))))
 obtain⟨y0,Y0,m⟩:=aC m
 refine zC 2 rfl (bZ (YR _ Y0) rfl RR rfl) (zF 3 rfl jP rfl (zL 4 0 (.sl none 4 (List.map aM x0.Locs)) rfl e8 rfl rfl rfl ?_))
 obtain⟨y1,Y1,m⟩:=aC m
 refine zC 5 rfl (bZ (MI _ Y1) rfl EF rfl) (zF 6 rfl n6 rfl (zE 7 rfl (aK 0 (bP { x0 with Man:=y0}) u rfl rfl rfl rfl zA rfl rfl λK2=>⟨⟨λe=>absurd e (by decide),trivial⟩, ?_⟩)))
 refine zF 8 rfl jP rfl (zE 9 rfl (aK 0 (bP { { x0 with Man:=y0} with Locs:=y1}) K2 rfl rfl rfl rfl nL rfl rfl λK4=>⟨⟨λe=>absurd e (by decide),trivial⟩, ?_⟩))
 refine zX (qk (f:=PQ 29 _ _ _ _ _ _ _ _ _) K4 rfl (v0 (vl 0 (.agg (bP { { x0 with Man:=y0} with Locs:=y1})) qR rfl rfl rfl (bU (eO (List.map bP ([{ { x0 with Man:=y0} with Locs:=y1}]:List aG)) vO rfl rfl rfl rfl) ?_))))
 obtain⟨z0,Z0,m⟩:=aC m
 exact ve λu=>f8 (c:=bP) 1 Z0 vO rfl uB rfl eM rfl rfl O0 u rfl λag1 O1 K5=>qk K5 rfl (v0 (eY m ag1 O1 (kP [1,2,3] rfl rfl (.k4 .nil))))
 exact v0 (lA m ag0 O0 (lx (.k4 .nil)))
 rintro ag2 ⟨r0,r1⟩ t0 m
 refine vs (v0 (vs (vs (v0 (pU (FE (.obj 99 (fl cD ([]:List aQ) g0.sp)) 6 (aZ g0) (fZ _)) (nC m (σ:=(List aQ)×Int) (τ:=cR) (λg s=> [(fA g s.1),(dN ag2 r0),(some k5,.obj 30 (gR)),(some k2,.obj 30 (aE p0))]) (λg s=>bK g 3 (s.1:List aQ).length) (λg s=>.c 1 (.ptr k2 0) (.c 2 (.ptr k5 0) (.c 3 (aZ ag2) (.c 6 (aZ g) (.c 7 (nZ s.2) .nil))))) g0 (bK.g0 3) (lx (.k5 .nil)) ?_ ?_))))))
 rintro ag3 ⟨q2,q3⟩ x O2 m
 replace m:CG w p0 q2 q3=some x:=m
 unfold CG at m
 refine vs (vs (v0 (dM eT rfl rfl (vl 3 _ hX rfl rfl rfl (cZ nK rfl (v0 ?_))))))
 apply vi m <;> intro c1 m
 refine v0 (vs (v0 (vs (v0 (dM eT rfl rfl (vl 3 _ hX rfl rfl rfl (vx m hU rfl rfl λx1 _ m=>va (.agg (cD x1)) qS rfl rfl (ve λu=>bD ([nZ 0,nZ 0,sZ]) u n9 rfl rfl λk235 K7=>qk K7 rfl (ve λu=>aK 0 (cD x1) u rfl rfl rfl rfl xG rfl rfl λK8=>qk K8 rfl (vs (v0 (dM kU rfl rfl (vl 0 _ e8 rfl rfl rfl (vk MI EF m rfl rfl λy2 m=>dM kU rfl rfl (ve λu=>aK 0 (cD { x1 with Locs:=y2}) u rfl rfl rfl rfl nL rfl rfl λK9=>qk K9 rfl (v0 (vl 0 (.agg (cD { x1 with Locs:=y2})) qS rfl rfl rfl (bU (eO (List.map cD ([{ x1 with Locs:=y2}]:List aQ)) o0 rfl rfl rfl rfl) ?_))))))))))))))))))
 obtain⟨z1,Z1,m⟩:=aC m
 exact ve λu=>f8 (c:=cD) 1 Z1 o0 rfl n9 rfl fM rfl rfl O2 u rfl λag4 O3 K10=>qk K10 rfl (v0 (eY m ag4 O3 (kP [1,2,3,4] rfl rfl (.k5 .nil))))
 exact v0 (lA m ag3 O2 (lx (.k5 .nil)))
 rintro ag5 ⟨r2,r3⟩ t1 m
 refine vs (v0 (vs (v0 (vz [(10,some k2,.obj 30 (aE p0))] mixed (λu=>⟨λ_=>aI 3 u rfl,trivial⟩) λu=>zC 0 rfl (eW (aw _ _ _) rfl) (zF 1 rfl dZ rfl (zL 2 0 (.sl none 35 (List.map aH p0.Chunks)) rfl eD rfl rfl rfl (zC 4 rfl (eW (aw _ _ _) rfl) (zC 5 rfl (eW (.sc (.slice _ _ _)) rfl) (zF 6 rfl fS rfl (zL 7 0 (.sl none 4 (List.map cG p0.Vols)) rfl iK rfl rfl rfl (zF 9 rfl dW rfl ?_)))))))))))
 obtain⟨_,Y2,m⟩:=aC m
 refine zE 3 rfl (cK (R6 _ Y2) rfl MK rfl ?_)
 rintro x h' ⟨ag6,O4,K11,rfl,rfl⟩
 rw[iU]
 refine⟨⟨λ_=>aI 4 (bV.co u K11) rfl,trivial⟩, ?_⟩
 obtain⟨z2,Z2,m⟩:=aC m
 refine zE 8 rfl (BK (c:=cG) Z2 F9 rfl D5 rfl eC rfl (bV.co u K11) rfl λag7 O5 K12=>⟨⟨λ_=>aI 5 K12 rfl,trivial⟩, ?_⟩)
 refine zE 10 rfl (aK 5 ([nZ p0.Seq,aZ ag2,.sl none 35 (List.map aH p0.Chunks),.sl none 3 (List.map cD p0.Exps),.sl none 4 (List.map cG p0.Vols)]) K12 rfl rfl (cC rfl) (cE (bY _ _ _) rfl) F8 rfl rfl λK13=>⟨⟨λe=>absurd e (by decide),trivial⟩, ?_⟩)
 refine zF 11 rfl dZ rfl (zE 12 rfl (aK 5 ([nZ p0.Seq,aZ ag2,aZ ag6,.sl none 3 (List.map cD p0.Exps),.sl none 4 (List.map cG p0.Vols)]) K13 rfl rfl (cC rfl) (cE (bY _ _ _) rfl) yX rfl rfl λK14=>⟨⟨λe=>absurd e (by decide),trivial⟩, ?_⟩))
 refine zF 13 rfl eT rfl (zE 14 rfl (aK 5 ([nZ p0.Seq,aZ ag2,aZ ag6,aZ ag5,.sl none 4 (List.map cG p0.Vols)]) K14 rfl rfl (cC rfl) (cE (bY _ _ _) rfl) JG rfl rfl λK15=>⟨⟨λe=>absurd e (by decide),trivial⟩, ?_⟩))
 refine zF 15 rfl fS rfl (zE 16 rfl (aK 5 ([nZ p0.Seq,aZ ag2,aZ ag6,aZ ag5,aZ ag7]) K15 rfl rfl (cC rfl) (cE (bY _ _ _) rfl) PW rfl rfl λK16=>⟨⟨λe=>absurd e (by decide),trivial⟩, ?_⟩))
 refine zX (qk (f:=.c 66 _ (.c 65 _ (.c 64 _ (.c 62 _ (.c 57 _ (.c 63 _ (PP 61 _ _ _ _ (.c 56 _ (.c 55 _ (.c 54 _ _)))))))))) K16 rfl (vs (v0 (vl 5 (.agg ([nZ p0.Seq,aZ ag2,aZ ag6,aZ ag5,aZ ag7])) eV rfl rfl rfl (ve λu=>aK 4 ([nZ p0.Seq,aZ ag2,aZ ag6,aZ ag5,aZ ag7]) u rfl rfl rfl (by repeat (first | exact rfl | refine cE (iH _ _ _) ?_ | refine cE (bY _ _ _) ?_ | refine cE (f9 _ _ _ _) ?_ | refine cE rfl ?_)) lQ rfl rfl λK17=>qk K17 rfl ?_)))))
 refine v0 ?_
 cases m
 exact vr λu=>dX.of1 (.inl rfl) (qD (.agg ([nZ p0.Seq,aZ ag2,aZ ag6,aZ ag5,aZ ag7])) eV rfl (a9 4 u rfl) rfl) (bG u [3,1,2,0] rfl).2 (bH.refl _ _) ⟨ag2,t0,ag6,O4,ag5,t1,ag7,O5,(bG u [3,1,2,0] rfl).1,rfl,rfl⟩
def NK (m:Nat) (p0:bI) (p1:bI):Option (Bool):=
 if (p0.Vol !=p1.Vol)=true then (some (decide (p0.Vol < p1.Vol))) else if (p0.File !=p1.File)=true then (some (decide (p0.File < p1.File))) else if (p0.Off !=p1.Off)=true then (some (decide (p0.Off < p1.Off))) else some (decide (p0.Len < p1.Len))
theorem aF5 {u:Nat} {p0:bI} {p1:bI} {o:Bool} (h:aF) (m:NK u p0 p1=some o):
 aL Tryz.prog 191 [.agg (aM p0),.agg (aM p1)] h (λr h'=>r= .sc (.bool o)∧h'=h):=by
 refine fN 40 [.tmp 4] Tryz.func191 rfl rfl rfl rfl ?_
 unfold NK at m
 refine v (gG rfl rfl λk2 K3=>gG rfl rfl λk5 K6=>v (vl 1 _ bX rfl rfl rfl (vl 0 _ bX rfl rfl rfl (v ?_))))
 apply vi m <;> intro c0 m
 refine v (vl 1 _ bX rfl rfl rfl (vl 0 _ bX rfl rfl rfl (v ?_)))
 cases m
 exact dQ rfl
 refine v (v (vl 1 _ bX rfl rfl rfl (vl 0 _ bX rfl rfl rfl (v ?_))))
 apply vi m <;> intro c1 m
 refine v (vl 1 _ bX rfl rfl rfl (vl 0 _ bX rfl rfl rfl (v ?_)))
 cases m
 exact dQ rfl
 refine v (v (vl 1 _ bX rfl rfl rfl (vl 0 _ bX rfl rfl rfl (v ?_))))
 apply vi m <;> intro c2 m
 refine v (vl 1 _ bX rfl rfl rfl (vl 0 _ bX rfl rfl rfl (v ?_)))
 cases m
 exact dQ rfl
 refine v (v (vl 1 _ bX rfl rfl rfl (vl 0 _ bX rfl rfl rfl (v ?_))))
 cases m
 exact dQ rfl
theorem aAV:aO Tryz.prog 191=true:=by kernel_rfl
def CH (m:Nat) (p0:List bI) (p1:bI) (q0:Int):Option (Lp (Int) ((List bI))):=
 after (if (decide (q0 < (p0.length:Int)))=true then ((ix p0 q0).bind λx0=>(NK m x0 p1).bind λy0=>some (.brk y0)) else some (.brk false):Option (Lp (Bool) (Lp (Int) ((List bI))))) λj0=>if j0=true then (some (.go (IntKind.wrap .i64 (q0+1)))) else some (.brk q0)
def HA (m:Nat) (p0:List bI) (p1:bI):Option ((List bI)):=
 after (aT (λs=>CH m p0 p1 s) m 0) λr0=>(slc p0 0 r0).bind λx0=>(app ([]:List bI) x0).bind λz0=>(app z0 ([p1]:List bI)).bind λz1=>(slc p0 r0 (p0).length).bind λx1=>(app z1 x1).bind λz2=>some z2
theorem UJ {w:Nat} {p0:List bI} {p1:bI} {o:(List bI)} (h:aF) (m:HA w p0 p1=some o):
 aL Tryz.prog 185 [.sl none 4 (List.map aM p0),.agg (aM p1)] h (λr h'=>r= .sl none 4 (List.map aM o)∧h'=h):=by
 refine fN 34 [.tmp 4] Tryz.func185 rfl rfl rfl rfl ?_
 unfold HA at m
 refine v (gG rfl rfl λk2 K3=>v (vs (iI m (σ:=Int) (λs=> [(some k2,.obj 81 (aM p1))]) (λs=>.c 0 (.sl none 4 (List.map aM p0)) (.c 3 (.ptr k2 0) (.c 5 (nZ s) .nil))) (lx (.k3 .nil)) ?_ ?_)))
 rintro _ q0 x m
 replace m:CH w p0 p1 q0=some x:=m
 unfold CH at m
 refine vs (vs (fB m (σ:=Bool) (λs=> [(some k2,.obj 81 (aM p1))]) (λs=>.c 0 (.sl none 4 (List.map aM p0)) (.c 3 (.ptr k2 0) (.c 5 (nZ q0) (.c 18 (.sc (.bool s)) .nil)))) (λx m=> ?_) ?_))
 refine v (vq (by kernel_rfl) (cZ iC rfl ?_))
 apply vi m <;> intro b0 m
 rw[b0]
 exact vx m i8 rfl rfl λx0 _ m=>va (.agg (aM x0)) kL rfl rfl (vl 0 (.agg (aM p1)) kL rfl rfl rfl (vk aF5 aAV m rfl rfl λ_ m=>fR m))
 rw[b0]
 exact fR m
 rintro _ j0 m
 refine v ?_
 apply vi m <;> intro c0 m
 exact v (v (v (gH m)))
 exact v (xC m)
 rintro _ r0 m
 refine v (v (vz [(1000000,some k2,.obj 81 (aM p1))] mixed (λu=>⟨λ_=>aI 0 u rfl,trivial⟩) λu=>zC 0 rfl (eW (.sc (.slice _ _ _)) rfl) (zC 1 rfl (eW (.sl _ _ _) rfl) (zI 2 rfl rfl ?_))))
 obtain⟨_,X0,m⟩:=aC m
 refine zC 3 rfl (pA X0 i8 rfl rfl rfl rfl) (zL 5 0 (.agg (aM p1)) rfl kL rfl rfl rfl (zC 6 rfl (eO (List.map aM ([p1]:List bI)) o1 rfl rfl rfl rfl) ?_))
 obtain⟨z0,Z0,m⟩:=aC m
 refine zE 4 rfl (nX (c:=aM) Z0 o1 rfl rfl u nofun rfl λtg0 t0 K0=>⟨⟨λ_=>aI 1 K0 rfl,trivial⟩, ?_⟩)
 obtain⟨z1,Z1,m⟩:=aC m
 refine zE 7 rfl (fF (c:=aM) 0 Z1 o1 rfl rfl rfl t0 K0 rfl λtg1 t1 K1=>⟨⟨λ_=>aI 1 K1 rfl,trivial⟩, ?_⟩)
 refine zC 8 rfl (iB (ow _ _ _) rfl) (zX (qk (f:=.c 6 _ (.c 28 _ (.c 25 _ (.c 27 _ (.c 26 _ (PP 24 _ _ _ _ _)))))) K1 rfl (v ?_)))
 obtain⟨_,X1,m⟩:=aC m
 refine bU (pA X1 i8 rfl rfl rfl rfl) ?_
 obtain⟨z2,Z2,m⟩:=aC m
 refine ve λu=>fF (c:=aM) 0 Z2 o1 rfl rfl rfl t1 u rfl λtg2 t2 K2=>qk K2 rfl (v ?_)
 obtain rfl:=eB m
 exact vr λu=>dX.of1 (.inl rfl) (fU _ _ (ow _ _ _) rfl) (aS (List.nil_sublist _) u).1 ((eZ _ 0 t2 u rfl)) ⟨rfl,rfl⟩
theorem NL:aO Tryz.prog 185=true:=by kernel_rfl
def vX (m:Nat) (p0:List bI) (p1:Int) (q0:List bI) (q1:Int):Option (Lp ((List bI)×Int) ((List bI))):=
 if (decide (q1 < (p0.length:Int)))=true then ((ix p0 q1).bind λx0=>after (if (x0.Vol !=p1)=true then ((ix p0 q1).bind λx1=>(app q0 ([x1]:List bI)).bind λz0=>some (.brk z0)) else some (.brk q0):Option (Lp ((List bI)) (Lp ((List bI)×Int) ((List bI))))) λj0=>some (.go (j0,IntKind.wrap .i64 (q1+1)))) else some (.brk (q0,q1))
def HB (m:Nat) (p0:List bI) (p1:Int):Option ((List bI)):=
 after (aT (λs=>vX m p0 p1 s.1 s.2) m ([],0)) λ⟨r0,r1⟩=>some r0
theorem UK {w:Nat} {p0:List bI} {p1:Int} {o:(List bI)} (h:aF) (m:HB w p0 p1=some o):
 aL Tryz.prog 157 [.sl none 4 (List.map aM p0),nZ p1] h (λr h'=>r= .sl none 4 (List.map aM o)∧h'=h):=by
 refine fN 28 [.tmp 4] Tryz.func157 rfl rfl rfl rfl ?_
 unfold HB at m
 refine v (v (v (pU (FE (.tok 81 4 (([]:List bI).length*4)) 5 (ow none 4 (List.map aM [])) (jE _ _)) (nC m (σ:=(List bI)×Int) (τ:=Option cB) (λg s=> [(g,.tok 81 4 ((s.1:List bI).length*4))]) (λg s=>(g=none→s.1= [])) (λg s=>.c 0 (.sl none 4 (List.map aM p0)) (.c 1 (nZ p1) (.c 5 (ow g 4 (List.map aM s.1)) (.c 6 (nZ s.2) .nil)))) none (λ_=>rfl) (lx (.k4 .nil)) ?_ ?_))))
 rintro tg0 ⟨q0,q1⟩ x t0 m
 replace m:vX w p0 p1 q0 q1=some x:=m
 unfold vX at m
 refine v (cZ iC rfl (v ?_))
 apply vi m <;> intro c0 m
 refine v (v (v (vx m i8 rfl rfl λ_ _ m=>o6 m (σ:=(List bI)) (τ:=Option cB) (λg s=> [(g,.tok 81 4 ((s:List bI).length*4))]) (λg s=>(g=none→s= [])) (λg s=>.c 0 (.sl none 4 (List.map aM p0)) (.c 1 (nZ p1) (.c 5 (ow g 4 (List.map aM s)) (.c 6 (nZ q1) .nil)))) (λx m=> ?_) ?_)))
 refine v ?_
 apply vi m <;> intro c1 m
 refine v (vx m i8 rfl rfl λx0 _ m=>va (.agg (aM x0)) kL rfl rfl (bU (eO (List.map aM ([x0]:List bI)) o1 rfl rfl rfl rfl) ?_))
 obtain⟨z0,Z0,m⟩:=aC m
 exact ve λu=>fF (c:=aM) 0 Z0 o1 rfl rfl rfl t0 u rfl λtg1 t1 K0=>qk K0 rfl (eY m tg1 t1 (lx (.k4 .nil)))
 exact v (eY m tg0 t0 (lx (.k4 .nil)))
 rintro tg2 j0 t2 m
 exact v (eY m tg2 t2 (lx (.k4 .nil)))
 exact v (lA m tg0 t0 (lx (.k4 .nil)))
 rintro tg3 ⟨r0,r1⟩ t3 m
 refine v (v ?_)
 obtain rfl:=eB m
 exact vr λu=>dX.of1 (.inl rfl) (fU _ _ (ow _ _ _) rfl) (aS (List.nil_sublist _) u).1 ((eZ _ 0 t3 u rfl)) ⟨rfl,rfl⟩
theorem NM:aO Tryz.prog 157=true:=by kernel_rfl
def V0 (m:Nat) (p0:aP):Option (aP):=
 (GO m p0.Snap.Man).bind λy0=>(xR m p0.Snap.Locs).bind λy1=>(GP m ({ { p0 with Snap:= { p0.Snap with Man:=y0}} with Snap:= { { p0 with Snap:= { p0.Snap with Man:=y0}}.Snap with Locs:=y1}}.Chunks)).bind λy2=>(app ([]:List bE) ({ { p0 with Snap:= { p0.Snap with Man:=y0}} with Snap:= { { p0 with Snap:= { p0.Snap with Man:=y0}}.Snap with Locs:=y1}}.Items)).bind λz0=>some ({ Kind:= { { { p0 with Snap:= { p0.Snap with Man:=y0}} with Snap:= { { p0 with Snap:= { p0.Snap with Man:=y0}}.Snap with Locs:=y1}} with Chunks:=y2}.Kind,Snap:=({ Seq:=({ { { p0 with Snap:= { p0.Snap with Man:=y0}} with Snap:= { { p0 with Snap:= { p0.Snap with Man:=y0}}.Snap with Locs:=y1}} with Chunks:=y2}.Snap).Seq,Man:=({ Name:=(({ { { p0 with Snap:= { p0.Snap with Man:=y0}} with Snap:= { { p0 with Snap:= { p0.Snap with Man:=y0}}.Snap with Locs:=y1}} with Chunks:=y2}.Snap).Man).Name,Parts:=(({ { { p0 with Snap:= { p0.Snap with Man:=y0}} with Snap:= { { p0 with Snap:= { p0.Snap with Man:=y0}}.Snap with Locs:=y1}} with Chunks:=y2}.Snap).Man).Parts}:bB),Locs:=({ { { p0 with Snap:= { p0.Snap with Man:=y0}} with Snap:= { { p0 with Snap:= { p0.Snap with Man:=y0}}.Snap with Locs:=y1}} with Chunks:=y2}.Snap).Locs}:aG),Chunks:= { { { p0 with Snap:= { p0.Snap with Man:=y0}} with Snap:= { { p0 with Snap:= { p0.Snap with Man:=y0}}.Snap with Locs:=y1}} with Chunks:=y2}.Chunks,Seq:= { { { p0 with Snap:= { p0.Snap with Man:=y0}} with Snap:= { { p0 with Snap:= { p0.Snap with Man:=y0}}.Snap with Locs:=y1}} with Chunks:=y2}.Seq,Vol:= { { { p0 with Snap:= { p0.Snap with Man:=y0}} with Snap:= { { p0 with Snap:= { p0.Snap with Man:=y0}}.Snap with Locs:=y1}} with Chunks:=y2}.Vol,Items:=z0}:aP)
theorem W92 {w:Nat} {p0:aP} {o:aP} (h:aF) (m:V0 w p0=some o):
 aL Tryz.prog 92 [.agg (aD p0)] h (λr h'=>r= .agg (aD o)∧h'=h):=by
 refine fN 26 [.cell 2 62] Tryz.func92 rfl rfl rfl rfl ?_
 unfold V0 at m
 refine v (gG rfl rfl λk2 K3=>ve λu=>bD (vR) u JM rfl rfl λk5 K6=>qk K6 rfl (v (vz [(10,some k2,.obj 62 (aD p0))] mixed (λu=>⟨λ_=>aI 1 u rfl,trivial⟩) λu=>zF 0 rfl kT rfl (zF 1 rfl n6 rfl (zL 2 0 (.agg (aU p0.Snap.Man)) rfl lI rfl rfl rfl ?_)))))
 obtain⟨y0,Y0,m⟩:=aC m
 refine zC 3 rfl (bZ (YR _ Y0) rfl RR rfl) (zF 4 rfl kT rfl (zF 5 rfl jP rfl (zL 6 0 (.sl none 4 (List.map aM p0.Snap.Locs)) rfl e8 rfl rfl rfl ?_)))
 obtain⟨y1,Y1,m⟩:=aC m
 refine zC 7 rfl (bZ (MI _ Y1) rfl EF rfl) (zF 8 rfl kT rfl (zF 9 rfl n6 rfl (zE 10 rfl (aK 1 (aD { p0 with Snap:= { p0.Snap with Man:=y0}}) u rfl rfl rfl rfl zA rfl rfl λK0=>⟨⟨λe=>absurd e (by decide),trivial⟩, ?_⟩))))
 refine zF 11 rfl kT rfl (zF 12 rfl jP rfl (zE 13 rfl (aK 1 (aD { { p0 with Snap:= { p0.Snap with Man:=y0}} with Snap:= { { p0 with Snap:= { p0.Snap with Man:=y0}}.Snap with Locs:=y1}}) K0 rfl rfl rfl rfl nL rfl rfl λK1=>⟨⟨λe=>absurd e (by decide),trivial⟩, ?_⟩)))
 refine zX (qk (f:=JD 15 _ _ _ _ _ _ _ _ _ _ _ _ _) K1 rfl (v (v (vz [(8,some k2,.obj 62 (aD { { p0 with Snap:= { p0.Snap with Man:=y0}} with Snap:= { { p0 with Snap:= { p0.Snap with Man:=y0}}.Snap with Locs:=y1}}))] mixed (λu=>⟨λ_=>aI 1 u rfl,trivial⟩) λu=>zF 0 rfl mS rfl (zL 1 0 (.sl none 35 (List.map aH ({ { p0 with Snap:= { p0.Snap with Man:=y0}} with Snap:= { { p0 with Snap:= { p0.Snap with Man:=y0}}.Snap with Locs:=y1}}.Chunks))) rfl eD rfl rfl rfl ?_)))))
 obtain⟨y2,Y2,m⟩:=aC m
 refine zC 2 rfl (bZ (aEL _ Y2) rfl MK rfl) (zC 3 rfl (eW (.sc (.slice _ _ _)) rfl) (zF 4 rfl gN rfl (zL 5 0 (.sl none 37 (List.map aY ({ { p0 with Snap:= { p0.Snap with Man:=y0}} with Snap:= { { p0 with Snap:= { p0.Snap with Man:=y0}}.Snap with Locs:=y1}}.Items))) rfl jZ rfl rfl rfl (zF 7 rfl mS rfl ?_))))
 obtain⟨z0,Z0,m⟩:=aC m
 refine zE 6 rfl (nX (c:=aY) Z0 PX rfl rfl u nofun rfl λtg0 t0 K2=>⟨⟨λ_=>aI 2 K2 rfl,trivial⟩, ?_⟩)
 refine zE 8 rfl (aK 2 (aD { { { p0 with Snap:= { p0.Snap with Man:=y0}} with Snap:= { { p0 with Snap:= { p0.Snap with Man:=y0}}.Snap with Locs:=y1}} with Chunks:=y2}) K2 rfl rfl rfl rfl yX rfl rfl λK4=>⟨⟨λe=>absurd e (by decide),trivial⟩, ?_⟩)
 refine zF 9 rfl gN rfl (zE 10 rfl (aK 2 ([nZ ({ { { p0 with Snap:= { p0.Snap with Man:=y0}} with Snap:= { { p0 with Snap:= { p0.Snap with Man:=y0}}.Snap with Locs:=y1}} with Chunks:=y2}.Kind),nZ (({ { { p0 with Snap:= { p0.Snap with Man:=y0}} with Snap:= { { p0 with Snap:= { p0.Snap with Man:=y0}}.Snap with Locs:=y1}} with Chunks:=y2}.Snap).Seq),.sc (.string ((({ { { p0 with Snap:= { p0.Snap with Man:=y0}} with Snap:= { { p0 with Snap:= { p0.Snap with Man:=y0}}.Snap with Locs:=y1}} with Chunks:=y2}.Snap).Man).Name)),.sl none 3 (List.map bT ((({ { { p0 with Snap:= { p0.Snap with Man:=y0}} with Snap:= { { p0 with Snap:= { p0.Snap with Man:=y0}}.Snap with Locs:=y1}} with Chunks:=y2}.Snap).Man).Parts)),.sl none 4 (List.map aM (({ { { p0 with Snap:= { p0.Snap with Man:=y0}} with Snap:= { { p0 with Snap:= { p0.Snap with Man:=y0}}.Snap with Locs:=y1}} with Chunks:=y2}.Snap).Locs)),.sl none 35 (List.map aH ({ { { p0 with Snap:= { p0.Snap with Man:=y0}} with Snap:= { { p0 with Snap:= { p0.Snap with Man:=y0}}.Snap with Locs:=y1}} with Chunks:=y2}.Chunks)),nZ ({ { { p0 with Snap:= { p0.Snap with Man:=y0}} with Snap:= { { p0 with Snap:= { p0.Snap with Man:=y0}}.Snap with Locs:=y1}} with Chunks:=y2}.Seq),nZ ({ { { p0 with Snap:= { p0.Snap with Man:=y0}} with Snap:= { { p0 with Snap:= { p0.Snap with Man:=y0}}.Snap with Locs:=y1}} with Chunks:=y2}.Vol),ow tg0 37 (List.map aY z0)]) K4 rfl rfl (jF rfl) (o9 _ _ _) aC7 rfl rfl λK5=>⟨⟨λe=>absurd e (by decide),trivial⟩, ?_⟩))
 refine zX (qk (f:=.c 24 _ (.c 22 _ (.c 23 _ (fq6 21 _ _ _ _ _ _ _)))) K5 rfl (v (vl 2 (.agg ([nZ ({ { { p0 with Snap:= { p0.Snap with Man:=y0}} with Snap:= { { p0 with Snap:= { p0.Snap with Man:=y0}}.Snap with Locs:=y1}} with Chunks:=y2}.Kind),nZ (({ { { p0 with Snap:= { p0.Snap with Man:=y0}} with Snap:= { { p0 with Snap:= { p0.Snap with Man:=y0}}.Snap with Locs:=y1}} with Chunks:=y2}.Snap).Seq),.sc (.string ((({ { { p0 with Snap:= { p0.Snap with Man:=y0}} with Snap:= { { p0 with Snap:= { p0.Snap with Man:=y0}}.Snap with Locs:=y1}} with Chunks:=y2}.Snap).Man).Name)),.sl none 3 (List.map bT ((({ { { p0 with Snap:= { p0.Snap with Man:=y0}} with Snap:= { { p0 with Snap:= { p0.Snap with Man:=y0}}.Snap with Locs:=y1}} with Chunks:=y2}.Snap).Man).Parts)),.sl none 4 (List.map aM (({ { { p0 with Snap:= { p0.Snap with Man:=y0}} with Snap:= { { p0 with Snap:= { p0.Snap with Man:=y0}}.Snap with Locs:=y1}} with Chunks:=y2}.Snap).Locs)),.sl none 35 (List.map aH ({ { { p0 with Snap:= { p0.Snap with Man:=y0}} with Snap:= { { p0 with Snap:= { p0.Snap with Man:=y0}}.Snap with Locs:=y1}} with Chunks:=y2}.Chunks)),nZ ({ { { p0 with Snap:= { p0.Snap with Man:=y0}} with Snap:= { { p0 with Snap:= { p0.Snap with Man:=y0}}.Snap with Locs:=y1}} with Chunks:=y2}.Seq),nZ ({ { { p0 with Snap:= { p0.Snap with Man:=y0}} with Snap:= { { p0 with Snap:= { p0.Snap with Man:=y0}}.Snap with Locs:=y1}} with Chunks:=y2}.Vol),ow tg0 37 (List.map aY z0)])) n7 rfl rfl rfl ?_)))
 refine ve λu=>aK 1 ([nZ ({ { { p0 with Snap:= { p0.Snap with Man:=y0}} with Snap:= { { p0 with Snap:= { p0.Snap with Man:=y0}}.Snap with Locs:=y1}} with Chunks:=y2}.Kind),nZ (({ { { p0 with Snap:= { p0.Snap with Man:=y0}} with Snap:= { { p0 with Snap:= { p0.Snap with Man:=y0}}.Snap with Locs:=y1}} with Chunks:=y2}.Snap).Seq),.sc (.string ((({ { { p0 with Snap:= { p0.Snap with Man:=y0}} with Snap:= { { p0 with Snap:= { p0.Snap with Man:=y0}}.Snap with Locs:=y1}} with Chunks:=y2}.Snap).Man).Name)),.sl none 3 (List.map bT ((({ { { p0 with Snap:= { p0.Snap with Man:=y0}} with Snap:= { { p0 with Snap:= { p0.Snap with Man:=y0}}.Snap with Locs:=y1}} with Chunks:=y2}.Snap).Man).Parts)),.sl none 4 (List.map aM (({ { { p0 with Snap:= { p0.Snap with Man:=y0}} with Snap:= { { p0 with Snap:= { p0.Snap with Man:=y0}}.Snap with Locs:=y1}} with Chunks:=y2}.Snap).Locs)),.sl none 35 (List.map aH ({ { { p0 with Snap:= { p0.Snap with Man:=y0}} with Snap:= { { p0 with Snap:= { p0.Snap with Man:=y0}}.Snap with Locs:=y1}} with Chunks:=y2}.Chunks)),nZ ({ { { p0 with Snap:= { p0.Snap with Man:=y0}} with Snap:= { { p0 with Snap:= { p0.Snap with Man:=y0}}.Snap with Locs:=y1}} with Chunks:=y2}.Seq),nZ ({ { { p0 with Snap:= { p0.Snap with Man:=y0}} with Snap:= { { p0 with Snap:= { p0.Snap with Man:=y0}}.Snap with Locs:=y1}} with Chunks:=y2}.Vol),ow tg0 37 (List.map aY z0)]) u rfl rfl rfl (by repeat (first | exact rfl | refine cE (iH _ _ _) ?_ | refine cE (bY _ _ _) ?_ | refine cE (f9 _ _ _ _) ?_ | refine cE rfl ?_)) uC rfl rfl λK7=>qk K7 rfl ?_
 refine v ?_
 cases m
 exact vr λu=>dX.of1 (.inl rfl) (qD (.agg ([nZ ({ { { p0 with Snap:= { p0.Snap with Man:=y0}} with Snap:= { { p0 with Snap:= { p0.Snap with Man:=y0}}.Snap with Locs:=y1}} with Chunks:=y2}.Kind),nZ (({ { { p0 with Snap:= { p0.Snap with Man:=y0}} with Snap:= { { p0 with Snap:= { p0.Snap with Man:=y0}}.Snap with Locs:=y1}} with Chunks:=y2}.Snap).Seq),.sc (.string ((({ { { p0 with Snap:= { p0.Snap with Man:=y0}} with Snap:= { { p0 with Snap:= { p0.Snap with Man:=y0}}.Snap with Locs:=y1}} with Chunks:=y2}.Snap).Man).Name)),.sl none 3 (List.map bT ((({ { { p0 with Snap:= { p0.Snap with Man:=y0}} with Snap:= { { p0 with Snap:= { p0.Snap with Man:=y0}}.Snap with Locs:=y1}} with Chunks:=y2}.Snap).Man).Parts)),.sl none 4 (List.map aM (({ { { p0 with Snap:= { p0.Snap with Man:=y0}} with Snap:= { { p0 with Snap:= { p0.Snap with Man:=y0}}.Snap with Locs:=y1}} with Chunks:=y2}.Snap).Locs)),.sl none 35 (List.map aH ({ { { p0 with Snap:= { p0.Snap with Man:=y0}} with Snap:= { { p0 with Snap:= { p0.Snap with Man:=y0}}.Snap with Locs:=y1}} with Chunks:=y2}.Chunks)),nZ ({ { { p0 with Snap:= { p0.Snap with Man:=y0}} with Snap:= { { p0 with Snap:= { p0.Snap with Man:=y0}}.Snap with Locs:=y1}} with Chunks:=y2}.Seq),nZ ({ { { p0 with Snap:= { p0.Snap with Man:=y0}} with Snap:= { { p0 with Snap:= { p0.Snap with Man:=y0}}.Snap with Locs:=y1}} with Chunks:=y2}.Vol),ow tg0 37 (List.map aY z0)])) n7 rfl (a9 1 u rfl) rfl) (aS (List.nil_sublist _) u).1 (bH.agg (.k8 (.cons ((eZ _ 0 t0 u rfl)) .nil))) ⟨rfl,rfl⟩
theorem aF6:aO Tryz.prog 92=true:=by kernel_rfl
def HC (m:Nat) (p0:aB) (p1:Int) (p2:Int) (p3:Int):Option (Bool):=
 after (if (decide (0≤p1))=true then (if (decide (p1 < (p0.Vols.length:Int)))=true then ((ix p0.Vols p1).bind λx0=>if (x0.State==p2)=true then (some (.brk true)) else (ix p0.Vols p1).bind λx1=>some (.brk (x1.State==p3))) else some (.brk false)) else some (.brk false):Option (Lp (Bool) (Bool))) λj0=>some j0
theorem UL {w:Nat} {p0:aB} {p1:Int} {p2:Int} {p3:Int} {o:Bool} (h:aF) {p0K:cB} {gS:cR} (ok_Snaps:bK gS 4 p0.Snaps.length) {gC:cR} (oC:bK gC 35 p0.Chunks.length) {gE:cR} (oE:bK gE 3 p0.Exps.length) {gV:cR} (oV:bK gV 4 p0.Vols.length) (K0:bV h (hC p0K p0 gS gC gE gV)) (m:HC w p0 p1 p2 p3=some o):
 aL Tryz.prog 155 [.ptr p0K 0,nZ p1,nZ p2,nZ p3] (hp h (hC p0K p0 gS gC gE gV)) (λr h'=>bV h (hC p0K p0 gS gC gE gV)∧r= .sc (.bool o)∧h'=hp h (hC p0K p0 gS gC gE gV)):=by
 refine tH K0 44 [.tmp 8] Tryz.func155 rfl rfl rfl rfl ?_
 unfold HC at m
 refine vs (v0 (vs (fB m (σ:=Bool) (λs=>(hC p0K p0 gS gC gE gV)) (λs=>.c 8 (.sc (.bool s)) .nil) (λx m=> ?_) ?_)))
 refine v0 ?_
 apply vi m <;> intro b0 m
 rw[b0]
 refine jL rfl (dM fS rfl rfl (vl 0 (aZ gV) iK rfl rfl rfl (bU (dR qP oV rfl) ?_)))
 apply vi m <;> intro b1 m
 rw[b1]
 refine jL rfl (dM fS rfl rfl (vl 0 (aZ gV) iK rfl rfl rfl ?_))
 obtain⟨x0,X0,m⟩:=aC m
 refine bU (cL X0 lG oV rfl rfl) (bU (cS (bK.ne oV X0) mR rfl rfl) (vn (λu=>dY (fo:=2) (nZ x0.State) X0 eC oV bX rfl (aI 4 u rfl) (λ_=>rfl)) ?_))
 apply vi m <;> intro b2 m
 rw[b2]
 exact iN m
 rw[b2]
 refine jL rfl (dM fS rfl rfl (vl 0 (aZ gV) iK rfl rfl rfl ?_))
 obtain⟨x1,X1,m⟩:=aC m
 exact bU (cL X1 lG oV rfl rfl) (bU (cS (bK.ne oV X1) mR rfl rfl) (vn (λu=>dY (fo:=2) (nZ x1.State) X1 eC oV bX rfl (aI 4 u rfl) (λ_=>rfl)) (iN m)))
 rw[b1]
 exact iN m
 rw[b0]
 exact iN m
 rintro _ j0 m
 refine v0 ?_
 obtain rfl:=eB m
 exact vr λu=>dX.of1 (.inl rfl) (fU _ _ (.sc (.bool _)) rfl) (bG u [0,1,2,3,4] rfl).2 (bH.refl _ _) ⟨(bG u [0,1,2,3,4] rfl).1,rfl,rfl⟩
theorem NN:aO Tryz.prog 155=true:=by kernel_rfl
def yG (m:Nat) (p0:List aA) (p1:aA) (q0:Int):Option (Lp (Int) ((List aA))):=
 after (if (decide (q0 < (p0.length:Int)))=true then ((ix p0 q0).bind λx0=>(L9 m x0.Id p1.Id).bind λy0=>some (.brk y0)) else some (.brk false):Option (Lp (Bool) (Lp (Int) ((List aA))))) λj0=>if j0=true then (some (.go (IntKind.wrap .i64 (q0+1)))) else some (.brk q0)
def EW (m:Nat) (p0:List aA) (p1:aA):Option ((List aA)):=
 after (aT (λs=>yG m p0 p1 s) m 0) λr0=>after (if (decide (r0 < (p0.length:Int)))=true then ((ix p0 r0).bind λx0=>some (.brk (decide (x0.Id=p1.Id)))) else some (.brk false):Option (Lp (Bool) ((List aA)))) λj0=>if j0=true then ((EV m p0).bind λy0=>(zQ m p1.Data).bind λy1=>(ix y0 r0).bind λx1=>(ix (y0.set r0.toNat ({ x1 with Staged:=true})) r0).bind λx2=>some ((y0.set r0.toNat ({ x1 with Staged:=true})).set r0.toNat ({ x2 with Data:=y1}))) else (slc p0 0 r0).bind λx3=>(app ([]:List aA) x3).bind λz0=>(app z0 ([p1]:List aA)).bind λz1=>(slc p0 r0 (p0).length).bind λx4=>(app z1 x4).bind λz2=>some z2
theorem aAW {w:Nat} {p0:List aA} {p1:aA} {o:(List aA)} (h:aF) (m:EW w p0 p1=some o):
 aL Tryz.prog 153 [.sl none 35 (List.map aH p0),.agg (aH p1)] h (λr h'=>∃g:cR,bK g 35 o.length∧bV h [(g.t,.obj 44 (fl aH o g.sp))]∧r=aZ g∧h'=hp h [(g.t,.obj 44 (fl aH o g.sp))]):=by
 refine fN 65 [.tmp 4] Tryz.func153 rfl rfl rfl rfl ?_
 unfold EW at m
 refine vs (v0 (gG rfl rfl λk2 K3=>vs (v0 (vs (iI m (σ:=Int) (λs=> [(some k2,.obj 44 (aH p1))]) (λs=>.c 0 (.sl none 35 (List.map aH p0)) (.c 3 (.ptr k2 0) (.c 5 (nZ s) .nil))) (lx (.k3 .nil)) ?_ ?_)))))
 rintro _ q0 x m
 replace m:yG w p0 p1 q0=some x:=m
 unfold yG at m
 refine vs (vs (fB m (σ:=Bool) (λs=> [(some k2,.obj 44 (aH p1))]) (λs=>.c 0 (.sl none 35 (List.map aH p0)) (.c 3 (.ptr k2 0) (.c 5 (nZ q0) (.c 21 (.sc (.bool s)) .nil)))) (λx m=> ?_) ?_))
 refine v0 (vU (by kernel_rfl) (cZ hM rfl ?_))
 apply vi m <;> intro b0 m
 rw[b0]
 exact vx m eU rfl rfl λx0 _ m=>bU (oY n4 rfl rfl) (va (.agg (bJ x0.Id)) fK rfl rfl (dM n4 rfl rfl (vl 0 (.agg (bJ p1.Id)) fK rfl rfl rfl (vk XR RM m rfl rfl λ_ m=>fR m))))
 rw[b0]
 exact fR m
 rintro _ j0 m
 refine v0 ?_
 apply vi m <;> intro c0 m
 exact v0 (v0 (v0 (gH m)))
 exact v0 (xC m)
 rintro _ r0 m
 refine vs (vs (fB m (σ:=Bool) (λs=> [(some k2,.obj 44 (aH p1))]) (λs=>.c 0 (.sl none 35 (List.map aH p0)) (.c 3 (.ptr k2 0) (.c 5 (nZ r0) (.c 37 (.sc (.bool s)) .nil)))) (λx m=> ?_) ?_))
 refine v0 (vU (by kernel_rfl) (cZ hM rfl ?_))
 apply vi m <;> intro b1 m
 rw[b1]
 exact vx m eU rfl rfl λx1 _ m=>bU (oY n4 rfl rfl) (va (.agg (bJ x1.Id)) fK rfl rfl (dM n4 rfl rfl (vl 0 (.agg (bJ p1.Id)) fK rfl rfl rfl (bU (rM yZ OQ u5 BX rfl rfl) (fR m)))))
 rw[b1]
 exact fR m
 rintro _ j1 m
 refine v0 ?_
 apply vi m <;> intro c1 m
 refine vs (v0 ?_)
 obtain⟨y0,Y0,m⟩:=aC m
 refine ve λu=>cK (R6 _ Y0) rfl MK rfl ?_
 rintro x h' ⟨ag0,O0,K0,rfl,rfl⟩
 refine qk (bV.co u K0) (iU _ _ _) (vs (v0 (dM jO rfl rfl (vl 1 _ lH rfl rfl rfl (vk MJ EG m rfl rfl λy1 m=> ?_)))))
 obtain⟨x2,X0,m⟩:=aC m
 refine bU (cL X0 eU O0 rfl rfl) (bU (cS (bK.ne O0 X0) n5 rfl rfl) (ve λu=>cI (fo:=32) ({ x2 with Staged:=true}:aA) 0 u X0 cO O0 rfl rfl rfl rfl (cU.refl _ _) VL rfl rfl λK1=>qk K1 rfl ?_))
 obtain⟨x3,X1,m⟩:=aC m
 refine bU (cL X1 eU (bK.set O0) rfl rfl) (bU (cS (bK.ne (bK.set O0) X1) jO rfl rfl) (ve λu=>cI (fo:=33) ({ x3 with Data:=y1}:aA) 0 u X1 cO (bK.set O0) rfl rfl rfl rfl (cU.refl _ _) BY rfl rfl λK2=>qk K2 rfl (vs (v0 (v0 ?_)))))
 cases m
 exact vr λu=>dX.one (.inl rfl) (aS (h0:=h) (L':= [(cF ag0 ((y0.set r0.toNat ({ x2 with Staged:=true})).set r0.toNat ({ x3 with Data:=y1})))]) (.cons_cons _ (.cons _ (.refl _))) u).1 (bH.refl _ _) ⟨ag0,(bK.set (bK.set O0)),(aS (h0:=h) (L':= [(cF ag0 ((y0.set r0.toNat ({ x2 with Staged:=true})).set r0.toNat ({ x3 with Data:=y1})))]) (.cons_cons _ (.cons _ (.refl _))) u).2,rfl,rfl⟩
 refine v0 (vs (v0 (vs (v0 (vz [(1000000,some k2,.obj 44 (aH p1))] mixed (λu=>⟨λ_=>aI 0 u rfl,trivial⟩) λu=>zC 0 rfl (eW (.sc (.slice _ _ _)) rfl) (zC 1 rfl (eW (.sl _ _ _) rfl) (zI 2 rfl rfl ?_)))))))
 obtain⟨_,X2,m⟩:=aC m
 refine zC 3 rfl (pA X2 eU rfl rfl rfl rfl) (zL 5 0 (.agg (aH p1)) rfl lS rfl rfl rfl (zC 6 rfl (eO (List.map aH ([p1]:List aA)) lF rfl rfl rfl rfl) ?_))
 obtain⟨z0,Z0,m⟩:=aC m
 refine zE 4 rfl (BK (c:=aH) Z0 lF rfl nE rfl cO rfl u rfl λag1 O1 K4=>⟨⟨λ_=>aI 1 K4 rfl,trivial⟩, ?_⟩)
 obtain⟨z1,Z1,m⟩:=aC m
 refine zE 7 rfl (f8 (c:=aH) 0 Z1 lF rfl nE rfl cO rfl rfl O1 K4 rfl λag2 O2 K5=>⟨⟨λ_=>aI 1 K5 rfl,trivial⟩, ?_⟩)
 refine zC 8 rfl (iB (aw _ _ _) rfl) (zX (qk (f:=.c 7 _ (.c 59 _ (.c 56 _ (.c 58 _ (.c 57 _ (PP 55 _ _ _ _ _)))))) K5 rfl (vs (v0 ?_))))
 obtain⟨_,X3,m⟩:=aC m
 refine bU (pA X3 eU rfl rfl rfl rfl) ?_
 obtain⟨z2,Z2,m⟩:=aC m
 refine ve λu=>f8 (c:=aH) 0 Z2 lF rfl nE rfl cO rfl rfl O2 u rfl λag3 O3 K6=>qk K6 rfl (v0 ?_)
 obtain rfl:=eB m
 exact vr λu=>dX.one (.inl rfl) (aS (h0:=h) (L':= [(cF ag3 z2)]) (.cons_cons _ (.cons _ (.refl _))) u).1 (bH.refl _ _) ⟨ag3,O3,(aS (h0:=h) (L':= [(cF ag3 z2)]) (.cons_cons _ (.cons _ (.refl _))) u).2,rfl,rfl⟩
theorem aAX:aO Tryz.prog 153=true:=by kernel_rfl
open Go.Vm
theorem aF7: @EV= @GP:=rfl
theorem aF8 {F:Nat} {c:aB} (hF:1000≤F) (h:Sm c):NJ F c=some c:=by
 rw[← m14 (F:=F) hF h]
 rfl
theorem wru {n:Nat} (h:n < 1000000000):IntKind.wrap .u64 (n:Int)=n:=by
 have e:IntKind.wrap .u64 (n:Int)=(n:Int) % 18446744073709551616:=rfl
 rw[e]; omega
theorem QT (p:Int):0≤IntKind.wrap .u64 p:=by
 have e:IntKind.wrap .u64 p=p % 18446744073709551616:=rfl
 rw[e]; omega
theorem aAY (p:Int) {n:Nat} (h0:0 < n) (hn:n < 1000000000):∃j:Nat,j < n∧IntKind.wrap .i64 ((IntKind.wrap .u64 p).tmod (n:Int))=(j:Int):=by
 have h1:=QT p
 generalize IntKind.wrap .u64 p=a at h1
 rw[Int.tmod_eq_emod_of_nonneg h1]
 have h2:0≤a % (n:Int):=Int.emod_nonneg _ (by omega)
 have h3:a % (n:Int) < n:=Int.emod_lt_of_pos _ (by omega)
 refine⟨(a % (n:Int)).toNat,by omega, ?_⟩
 rw[wr (by omega) (by omega)]
 omega
theorem kG {α:Type} {l:List α} {j:Nat} {x y:α} (h:y∈l.set j x):y∈l∨y=x:=by
 have:=List.mem_or_eq_of_mem_set h
 exact this
open Go.Vm
def vY (m:Nat) (p0:aB) (p1:Int) (q0:List aG) (q1:Int):Option (Lp ((List aG)×Int) (Bool×(List aG)×(List aA))):=
 if (decide (q1 < (p0.Snaps.length:Int)))=true then ((ix p0.Snaps q1).bind λx0=>after (if (x0.Seq !=p1)=true then ((ix p0.Snaps q1).bind λx1=>(app q0 ([x1]:List aG)).bind λz0=>some (.brk z0)) else some (.brk q0):Option (Lp ((List aG)) (Lp ((List aG)×Int) (Bool×(List aG)×(List aA))))) λj0=>some (.go (j0,IntKind.wrap .i64 (q1+1)))) else some (.brk (q0,q1))
def vZ (m:Nat) (p0:aB) (r0:List aG) (q0:List aA) (q1:Int):Option (Lp ((List aA)×Int) (Bool×(List aG)×(List aA))):=
 if (decide (q1 < (p0.Chunks.length:Int)))=true then (after ((ix p0.Chunks q1).bind λx0=>(YX m ({ Seq:=p0.Seq,Snaps:=r0,Chunks:=p0.Chunks,Exps:=p0.Exps,Vols:=p0.Vols}:aB) x0.Id).bind λy0=>after (if (!y0)=true then (if ((({ { x0 with Staged:=false} with Data:=([]:List Int)}.Locs).length:Int)==0)=true then (some (.ret (.brk q0))) else some (.brk { { x0 with Staged:=false} with Data:=([]:List Int)})) else some (.brk x0):Option (Lp (aA) (Lp ((List aA)) (Lp ((List aA)×Int) (Bool×(List aG)×(List aA)))))) λj0=>(app q0 ([j0]:List aA)).bind λz0=>some (.brk z0):Option (Lp ((List aA)) (Lp ((List aA)×Int) (Bool×(List aG)×(List aA))))) λj1=>some (.go (j1,IntKind.wrap .i64 (q1+1)))) else some (.brk (q0,q1))
def J5 (m:Nat) (p0:aB) (p1:Int):Option (Bool×(List aG)×(List aA)):=
 after (aT (λs=>vY m p0 p1 s.1 s.2) m ([],0)) λ⟨r0,r1⟩=>if ((r0.length:Int)==(p0.Snaps.length:Int))=true then (some (false,p0.Snaps,p0.Chunks)) else after (aT (λs=>vZ m p0 r0 s.1 s.2) m ([],0)) λ⟨r2,r3⟩=>some (true,r0,r2)
theorem aAZ {w:Nat} {p0:aB} {p1:Int} {o:Bool×(List aG)×(List aA)} (h:aF) {p0K:cB} {gS:cR} (ok_Snaps:bK gS 4 p0.Snaps.length) {gC:cR} (oC:bK gC 35 p0.Chunks.length) {gE:cR} (oE:bK gE 3 p0.Exps.length) {gV:cR} (oV:bK gV 4 p0.Vols.length) (K0:bV h (hC p0K p0 gS gC gE gV)) (m:J5 w p0 p1=some o):
 aL Tryz.prog 154 [.ptr p0K 0,nZ p1] (hp h (hC p0K p0 gS gC gE gV)) (λr h'=>∃g_Snaps':cR,bK g_Snaps' 4 (o.2.1:List aG).length∧∃g_Chunks':cR,bK g_Chunks' 35 (o.2.2:List aA).length∧bV h (hL p0K p0.Seq g_Snaps' g_Chunks' gE gV o.2.1 o.2.2 p0.Exps p0.Vols)∧r= .sc (.bool o.1)∧h'=hp h (hL p0K p0.Seq g_Snaps' g_Chunks' gE gV o.2.1 o.2.2 p0.Exps p0.Vols)):=by
 refine tH K0 88 [.tmp 4] Tryz.func154 rfl rfl rfl rfl ?_
 unfold J5 at m
 refine vs (v0 (vs (v0 (vs (vs (v0 (pU (FE (.obj 60 (fl bP ([]:List aG) g0.sp)) 5 (aZ g0) (fZ _)) (nC m (σ:=(List aG)×Int) (τ:=cR) (λg s=>((dN g s.1)::(hC p0K p0 gS gC gE gV))) (λg s=>bK g 4 (s.1:List aG).length) (λg s=>.c 0 (.ptr p0K 0) (.c 1 (nZ p1) (.c 5 (aZ g) (.c 6 (nZ s.2) .nil)))) g0 (bK.g0 4) (lx (.k4 .nil)) ?_ ?_))))))))
 rintro ag0 ⟨q0,q1⟩ x O0 m
 replace m:vY w p0 p1 q0 q1=some x:=m
 unfold vY at m
 refine vs (vs (v0 (jL rfl (dM dW rfl rfl (vl 1 (aZ gS) eK rfl rfl rfl (bU (dR iJ ok_Snaps rfl) (v0 ?_)))))))
 apply vi m <;> intro c0 m
 refine v0 (vs (v0 (vs (v0 (jL rfl (dM dW rfl rfl (vl 1 (aZ gS) eK rfl rfl rfl ?_)))))))
 obtain⟨x0,X0,m⟩:=aC m
 refine bU (cL X0 gJ ok_Snaps rfl rfl) (bU (cS (bK.ne ok_Snaps X0) uA rfl rfl) (vn (λu=>dY (fo:=0) (nZ x0.Seq) X0 eM ok_Snaps bX rfl (aI 2 u rfl) (λ_=>rfl)) (o6 m (σ:=(List aG)) (τ:=cR) (λg s=>((dN g s)::(hC p0K p0 gS gC gE gV))) (λg s=>bK g 4 (s:List aG).length) (λg s=>.c 0 (.ptr p0K 0) (.c 1 (nZ p1) (.c 5 (aZ g) (.c 6 (nZ q1) .nil)))) (λx m=> ?_) ?_)))
 refine v0 ?_
 apply vi m <;> intro c1 m
 refine v0 (jL rfl (dM dW rfl rfl (vl 1 (aZ gS) eK rfl rfl rfl ?_)))
 obtain⟨x1,X1,m⟩:=aC m
 refine bU (cL X1 gJ ok_Snaps rfl rfl) (vn (λu=>dY (fo:=0) (.agg (bP x1)) X1 eM ok_Snaps qR rfl (aI 2 u rfl) (λ_=>rfl)) (bU (eO (List.map bP ([x1]:List aG)) vO rfl rfl rfl rfl) ?_))
 obtain⟨z0,Z0,m⟩:=aC m
 exact ve λu=>f8 (c:=bP) 0 Z0 vO rfl uB rfl eM rfl rfl O0 u rfl λag1 O1 K1=>qk K1 rfl (eY m ag1 O1 (lx (.k4 .nil)))
 exact v0 (eY m ag0 O0 (lx (.k4 .nil)))
 rintro ag2 j0 O2 m
 exact v0 (eY m ag2 O2 (lx (.k4 .nil)))
 exact v0 (lA m ag0 O0 (lx (.k4 .nil)))
 rintro ag3 ⟨r0,r1⟩ t0 m
 refine vs (vs (v0 (bU (dR iJ t0 rfl) (jL rfl (dM dW rfl rfl (vl 1 (aZ gS) eK rfl rfl rfl (bU (dR iJ ok_Snaps rfl) (v0 ?_))))))))
 apply vi m <;> intro c2 m
 refine vs (v0 (v0 ?_))
 cases m
 exact vr λu=>dX.of1 (.inl rfl) (fU _ _ (.sc (.bool _)) rfl) (bG u [1,2,3,4,5] rfl).2 (bH.refl _ _) ⟨gS,ok_Snaps,gC,oC,(bG u [1,2,3,4,5] rfl).1,rfl,rfl⟩
 refine v0 (vs (v0 (jL rfl (dM dW rfl rfl (ve λu=>aK 1 ([nZ p0.Seq,aZ ag3,aZ gC,aZ gE,aZ gV]) u rfl rfl (cC rfl) (cE (bY _ _ _) rfl) F8 rfl rfl λK2=>qk K2 rfl (vs (v0 (vs (vs (v0 (pU (FE (.obj 44 (fl aH ([]:List aA) g0.sp)) 7 (aZ g0) (fZ _)) (nC m (σ:=(List aA)×Int) (τ:=cR) (λg s=> [(cF g s.1),(dN ag3 r0),(hO p0K p0.Seq ag3 gC gE gV),(dN gS p0.Snaps),(cF gC p0.Chunks),(fA gE p0.Exps),(kV gV p0.Vols)]) (λg s=>bK g 35 (s.1:List aA).length) (λg s=>.c 0 (.ptr p0K 0) (.c 7 (aZ g) (.c 8 (nZ s.2) .nil))) g0 (bK.g0 35) (lx (.k3 .nil)) ?_ ?_))))))))))))
 rintro ag4 ⟨q2,q3⟩ x O3 m
 replace m:vZ w p0 r0 q2 q3=some x:=m
 unfold vZ at m
 refine vs (vs (v0 (jL rfl (dM dZ rfl rfl (vl 2 (aZ gC) eD rfl rfl rfl (bU (dR hM oC rfl) (v0 ?_)))))))
 apply vi m <;> intro c3 m
 refine v0 (vs (o6 m (σ:=(List aA)) (τ:=cR) (λg s=> [(cF g s),(dN ag3 r0),(hO p0K p0.Seq ag3 gC gE gV),(dN gS p0.Snaps),(cF gC p0.Chunks),(fA gE p0.Exps),(kV gV p0.Vols)]) (λg s=>bK g 35 (s:List aA).length) (λg s=>.c 0 (.ptr p0K 0) (.c 7 (aZ g) (.c 8 (nZ q3) .nil))) (λx m=> ?_) ?_))
 refine v0 (vs (v0 (jL rfl (dM dZ rfl rfl (vl 2 (aZ gC) eD rfl rfl rfl ?_)))))
 obtain⟨x2,X2,m⟩:=aC m
 refine bU (cL X2 eU oC rfl rfl) (vn (λu=>dY (fo:=0) (.agg (aH x2)) X2 cO oC lS rfl (aI 4 u rfl) (λ_=>rfl)) (ve λu=>bD (bJ jX++(KK:List AV)) u nE rfl rfl λk465 K3=>qk K3 rfl (ve λu=>aK 0 (aH x2) u rfl rfl rfl rfl xD rfl rfl λK4=>qk K4 rfl (vs (vs (v0 (vU (by kernel_rfl) (jL rfl (vl 3 (.agg ([nZ p0.Seq,aZ ag3,aZ gC,aZ gE,aZ gV])) eV rfl rfl rfl (dM n4 rfl rfl (vl 0 (.agg (bJ x2.Id)) fK rfl rfl rfl ?_)))))))))))
 obtain⟨_,Y0,m⟩:=aC m
 refine vn (λu=>bZ (fH (.cons (Br.agg (.cons (Br.refl _ _) (.cons (Br.aw 2 eM t0 u rfl) (.cons (Br.aw 5 cO oC u rfl) (.cons (Br.aw 6 fM oE u rfl) (.cons (Br.aw 7 eC oV u rfl) .nil)))))) (.cons (Br.refl _ _) .nil)) rfl (W38 _ Y0)) rfl aE4 rfl) (fB m (σ:=aA) (λs=> [(some k465,.obj 44 (aH s)),(cF ag4 q2),(dN ag3 r0),(hO p0K p0.Seq ag3 gC gE gV),(dN gS p0.Snaps),(cF gC p0.Chunks),(fA gE p0.Exps),(kV gV p0.Vols)]) (λs=>.c 0 (.ptr p0K 0) (.c 7 (aZ ag4) (.c 8 (nZ q3) (.c 9 (.ptr k465 0) .nil)))) (λx m=> ?_) ?_)
 refine v0 ?_
 apply vi m <;> intro c4 m
 refine vs (v0 (dM n5 rfl rfl (ve λu=>aK 0 (aH { x2 with Staged:=false}) u rfl rfl rfl rfl VL rfl rfl λK5=>qk K5 rfl (dM jO rfl rfl (ve λu=>w7 0 (aH { { x2 with Staged:=false} with Data:=([]:List Int)}) u rfl rfl rfl rfl (.cons (aX _) .nil) BY rfl rfl λK6=>qk K6 rfl (vs (v0 (dM iW rfl rfl (vl 0 _ e8 rfl rfl rfl (cZ iC rfl (v0 ?_)))))))))))
 apply vi m <;> intro c5 m
 exact v0 (vxt m rfl λm=>eY m ag4 O3 (kP [1,2,3,4,5,6,7] rfl rfl (.k3 .nil)))
 exact v0 (fR m)
 exact v0 (fR m)
 rintro _ j1 m
 refine v0 (vl 0 (.agg (aH j1)) lS rfl rfl rfl (bU (eO (List.map aH ([j1]:List aA)) lF rfl rfl rfl rfl) ?_))
 obtain⟨z1,Z1,m⟩:=aC m
 exact ve λu=>f8 (c:=aH) 1 Z1 lF rfl nE rfl cO rfl rfl O3 u rfl λag5 O4 K7=>qk K7 rfl (eY m ag5 O4 (kP [1,2,3,4,5,6,7] rfl rfl (.k3 .nil)))
 rintro ag6 j2 O5 m
 exact v0 (eY m ag6 O5 (lx (.k3 .nil)))
 exact v0 (lA m ag4 O3 (lx (.k3 .nil)))
 rintro ag7 ⟨r2,r3⟩ t1 m
 refine vs (v0 (jL rfl (dM dZ rfl rfl (ve λu=>aK 2 ([nZ p0.Seq,aZ ag3,aZ ag7,aZ gE,aZ gV]) u rfl rfl (cC rfl) (cE (bY _ _ _) rfl) yX rfl rfl λK8=>qk K8 rfl (vs (v0 (v0 ?_)))))))
 cases m
 exact vr λu=>dX.of1 (.inl rfl) (fU _ _ (.sc (.bool _)) rfl) (bG u [2,1,0,5,6] rfl).2 (bH.refl _ _) ⟨ag3,t0,ag7,t1,(bG u [2,1,0,5,6] rfl).1,rfl,rfl⟩
theorem R7:aO Tryz.prog 154=true:=by kernel_rfl
def v8 (m:Nat) (p0:aB) (p1:bE) (p2:bI) (q0:Int):Option (Lp (Int) (Lp (Int×(List aA)×(List aQ)) (Bool×Int×AN))):=
 if (decide (q0 < (p0.Snaps.length:Int)))=true then ((ix p0.Snaps q0).bind λx0=>if (x0.Seq==p1.Seq)=true then ((ix p0.Snaps q0).bind λx1=>(HA m x1.Locs p2).bind λy0=>(ix p0.Snaps q0).bind λx2=>some (.ret (.ret (true,p0.Seq,p0.Snaps.set q0.toNat ({ x2 with Locs:=y0}),p0.Chunks,p0.Exps)))) else some (.go (IntKind.wrap .i64 (q0+1)))) else some (.brk q0)
def CI (m:Nat) (p0:aB) (p1:bE) (q0:Int):Option (Lp (Int) (Lp (Int×(List aA)×(List aQ)) (Bool×Int×AN))):=
 after (if (decide (q0 < (p0.Exps.length:Int)))=true then ((ix p0.Exps q0).bind λx0=>some (.brk (decide (x0.Seq < p1.Seq)))) else some (.brk false):Option (Lp (Bool) (Lp (Int) (Lp (Int×(List aA)×(List aQ)) (Bool×Int×AN))))) λj0=>if j0=true then (some (.go (IntKind.wrap .i64 (q0+1)))) else some (.brk q0)
def NO (m:Nat) (p0:aB) (p1:bE) (p2:bI):Option (Bool×Int×AN):=
 after (if (p1.Kind==1)=true then ((OS m ({ Seq:=p0.Seq,Snaps:=p0.Snaps,Chunks:=p0.Chunks,Exps:=p0.Exps,Vols:=p0.Vols}:aB) p1.Id).bind λy0=>if (decide (y0 < 0))=true then (some (.ret (false,p0.Seq,p0.Snaps,p0.Chunks,p0.Exps))) else (ix p0.Chunks y0).bind λx0=>(HA m x0.Locs p2).bind λy1=>(ix p0.Chunks y0).bind λx1=>some (.brk (p0.Seq,p0.Chunks.set y0.toNat ({ x1 with Locs:=y1}),p0.Exps))) else if (p1.Kind==2)=true then (after (aT (λs=>v8 m p0 p1 p2 s) m 0) λr0=>some (.ret (false,p0.Seq,p0.Snaps,p0.Chunks,p0.Exps))) else after (aT (λs=>CI m p0 p1 s) m 0) λr1=>after (if (decide (r1 < (p0.Exps.length:Int)))=true then ((ix p0.Exps r1).bind λx2=>some (.brk (x2.Seq==p1.Seq))) else some (.brk false):Option (Lp (Bool) (Lp (Int×(List aA)×(List aQ)) (Bool×Int×AN)))) λj0=>if j0=true then ((ix p0.Exps r1).bind λx3=>(HA m x3.Locs p2).bind λy2=>(ix p0.Exps r1).bind λx4=>some (.ret (true,p0.Seq,p0.Snaps,p0.Chunks,p0.Exps.set r1.toNat ({ x4 with Locs:=y2})))) else (slc p0.Exps 0 r1).bind λx5=>(app ([]:List aQ) x5).bind λz0=>(app z0 ([({ Seq:=p1.Seq,Of:=p1.Of,Locs:=([p2]:List bI)}:aQ)]:List aQ)).bind λz1=>(slc p0.Exps r1 (p0.Exps).length).bind λx6=>(app z1 x6).bind λz2=>after (if (decide (p0.Seq≤p1.Seq))=true then (some (.brk (decide (p1.Seq < 4611686018427387904)))) else some (.brk false):Option (Lp (Bool) (Lp (Int×(List aA)×(List aQ)) (Bool×Int×AN)))) λj1=>after (if j1=true then (some (.brk (IntKind.wrap .i64 (p1.Seq+1)))) else some (.brk p0.Seq):Option (Lp (Int) (Lp (Int×(List aA)×(List aQ)) (Bool×Int×AN)))) λj2=>some (.brk (j2,p0.Chunks,z2)):Option (Lp (Int×(List aA)×(List aQ)) (Bool×Int×AN))) λ⟨j3,j4,j5⟩=>some (true,j3,p0.Snaps,j4,j5)
theorem aGA {w:Nat} {p0:aB} {p1:bE} {p2:bI} {o:Bool×Int×AN} (h:aF) {p0K:cB} {gS:cR} (ok_Snaps:bK gS 4 p0.Snaps.length) {gC:cR} (oC:bK gC 35 p0.Chunks.length) {gE:cR} (oE:bK gE 3 p0.Exps.length) {gV:cR} (oV:bK gV 4 p0.Vols.length) (K0:bV h (hC p0K p0 gS gC gE gV)) (m:NO w p0 p1 p2=some o):
 aL Tryz.prog 156 [.ptr p0K 0,.agg (aY p1),.agg (aM p2)] (hp h (hC p0K p0 gS gC gE gV)) (λr h'=>∃g_Snaps':cR,bK g_Snaps' 4 (o.2.2.1:List aG).length∧∃g_Chunks':cR,bK g_Chunks' 35 (o.2.2.2.1:List aA).length∧∃g_Exps':cR,bK g_Exps' 3 (o.2.2.2.2:List aQ).length∧bV h (hL p0K o.2.1 g_Snaps' g_Chunks' g_Exps' gV o.2.2.1 o.2.2.2.1 o.2.2.2.2 p0.Vols)∧r= .sc (.bool o.1)∧h'=hp h (hL p0K o.2.1 g_Snaps' g_Chunks' g_Exps' gV o.2.2.1 o.2.2.2.1 o.2.2.2.2 p0.Vols)):=by
 refine tH K0 184 [.tmp 6] Tryz.func156 rfl rfl rfl rfl ?_
 unfold NO at m
 refine vs (v0 (gG rfl rfl λk2 K3=>gG rfl rfl λk5 K6=>vs (vs (v0 (dM lR rfl rfl (vl 1 _ bX rfl rfl rfl (v0 (vs (v0 (o6 m (σ:=Int×(List aA)×(List aQ)) (τ:=cR×cR) (λg s=>((some k5,.obj 81 (aM p2))::(some k2,.obj 38 (aY p1))::(hL p0K s.1 gS g.1 g.2 gV p0.Snaps s.2.1 s.2.2 p0.Vols))) (λg s=>bK g.1 35 (s.2.1:List aA).length∧bK g.2 3 (s.2.2:List aQ).length) (λg s=>.nil) (λx m=> ?_) ?_))))))))))
 refine v0 ?_
 apply vi m <;> intro c0 m
 refine vs (v0 (vU (by kernel_rfl) (jL rfl (vl 2 (.agg ([nZ p0.Seq,aZ gS,aZ gC,aZ gE,aZ gV])) eV rfl rfl rfl (dM tY rfl rfl (vl 1 (.agg (bJ p1.Id)) fK rfl rfl rfl ?_))))))
 obtain⟨_,Y0,m⟩:=aC m
 refine vn (λu=>bZ (fH (.cons (Br.agg (.cons (Br.refl _ _) (.cons (Br.aw 3 eM ok_Snaps u rfl) (.cons (Br.aw 4 cO oC u rfl) (.cons (Br.aw 5 fM oE u rfl) (.cons (Br.aw 6 eC oV u rfl) .nil)))))) (.cons (Br.refl _ _) .nil)) rfl (W88 _ Y0)) rfl P6 rfl) (vs (vs (v0 (v0 ?_))))
 apply vi m <;> intro c1 m
 refine vs (v0 (v0 (fO m λm=> ?_)))
 cases m
 exact vr λu=>dX.of1 (.inl rfl) (fU _ _ (.sc (.bool _)) rfl) (bG u [2,3,4,5,6] rfl).2 (bH.refl _ _) ⟨gS,ok_Snaps,gC,oC,gE,oE,(bG u [2,3,4,5,6] rfl).1,rfl,rfl⟩
 refine v0 (v0 (vz [(1000000,some p0K,.obj 30 ([nZ p0.Seq,aZ gS,aZ gC,aZ gE,aZ gV])),(17,gC.t,.obj 44 (fl aH (p0.Chunks:List aA) gC.sp)),(1000000,some k5,.obj 81 (aM p2))] mixed (λu=>⟨λ_=>aI 2 u rfl,λ_=>aI 4 u rfl,λ_=>aI 0 u rfl,trivial⟩) λu=>zP 0 rfl rfl (zN 1 rfl rfl (zF 2 rfl dZ rfl (zL 3 0 (aZ gC) rfl eD rfl rfl rfl (zI 4 rfl rfl (zP 5 rfl rfl (zN 6 rfl rfl (zF 7 rfl dZ rfl (zL 8 0 (aZ gC) rfl eD rfl rfl rfl (zI 9 rfl rfl ?_)))))))))))
 obtain⟨x0,X0,m⟩:=aC m
 refine zC 10 rfl (cL X0 eU oC rfl rfl) (zC 11 rfl (cS (bK.ne oC X0) iW rfl rfl) (vL 12 rfl (λ_ _ hi hB=>dY (fo:=34) (.sl none 4 (List.map aM x0.Locs)) X0 cO oC e8 rfl (fW.get 1 hi rfl (hB 17 (by kernel_rfl))) (λ_=>rfl)) (zL 13 2 (.agg (aM p2)) rfl kL rfl rfl rfl ?_)))
 obtain⟨y0,Y1,m⟩:=aC m
 refine zC 14 rfl (bZ (UJ _ Y1) rfl NL rfl) ?_
 obtain⟨x1,X1,m⟩:=aC m
 refine zC 15 rfl (cL X1 eU oC rfl rfl) (zC 16 rfl (cS (bK.ne oC X1) iW rfl rfl) (zE 17 rfl (cI (fo:=34) ({ x1 with Locs:=y0}:aA) 4 u X1 cO oC rfl rfl rfl rfl (cU.refl _ _) nL rfl rfl λK1=>⟨⟨λ_=>aI 2 K1 rfl,λe=>absurd e (by decide),λ_=>aI 0 K1 rfl,trivial⟩, ?_⟩)))
 exact zX (qk (f:=vM 144 _ _ _ _ _ _ _ _ _ _ _ _ _ _ _ _ _ _) K1 rfl (eY m (gC,gE) ⟨(bK.set oC),oE⟩ (lx .nil)))
 refine vs (v0 (v0 ?_))
 apply vi m <;> intro c2 m
 refine vs (vs (v0 (iI m (σ:=Int) (λs=>((some k5,.obj 81 (aM p2))::(some k2,.obj 38 (aY p1))::(hC p0K p0 gS gC gE gV))) (λs=>.c 0 (.ptr p0K 0) (.c 4 (.ptr k2 0) (.c 5 (.ptr k5 0) (.c 8 (nZ s) .nil)))) (lx (.k4 .nil)) ?_ ?_)))
 rintro _ q0 x m
 replace m:v8 w p0 p1 p2 q0=some x:=m
 unfold v8 at m
 refine vs (vs (v0 (jL rfl (dM dW rfl rfl (vl 2 (aZ gS) eK rfl rfl rfl (bU (dR iJ ok_Snaps rfl) (v0 ?_)))))))
 apply vi m <;> intro c3 m
 refine v0 (vs (v0 (vs (v0 (vU (by kernel_rfl) (jL rfl (dM dW rfl rfl (vl 2 (aZ gS) eK rfl rfl rfl ?_))))))))
 obtain⟨x2,X2,m⟩:=aC m
 refine bU (cL X2 gJ ok_Snaps rfl rfl) (bU (cS (bK.ne ok_Snaps X2) uA rfl rfl) (vn (λu=>dY (fo:=0) (nZ x2.Seq) X2 eM ok_Snaps bX rfl (aI 3 u rfl) (λ_=>rfl)) (dM kQ rfl rfl (vl 1 _ bX rfl rfl rfl (v0 ?_)))))
 apply vi m <;> intro c4 m
 refine vs (v0 (vz [(1000000,some p0K,.obj 30 ([nZ p0.Seq,aZ gS,aZ gC,aZ gE,aZ gV])),(17,gS.t,.obj 60 (fl bP (p0.Snaps:List aG) gS.sp)),(1000000,some k5,.obj 81 (aM p2))] mixed (λu=>⟨λ_=>aI 2 u rfl,λ_=>aI 3 u rfl,λ_=>aI 0 u rfl,trivial⟩) λu=>zP 0 rfl rfl (zN 1 rfl rfl (zF 2 rfl dW rfl (zL 3 0 (aZ gS) rfl eK rfl rfl rfl (zI 4 rfl rfl (zP 5 rfl rfl (zN 6 rfl rfl (zF 7 rfl dW rfl (zL 8 0 (aZ gS) rfl eK rfl rfl rfl (zI 9 rfl rfl ?_)))))))))))
 obtain⟨x3,X3,m⟩:=aC m
 refine zC 10 rfl (cL X3 gJ ok_Snaps rfl rfl) (zC 11 rfl (cS (bK.ne ok_Snaps X3) jP rfl rfl) (vL 12 rfl (λ_ _ hi hB=>dY (fo:=3) (.sl none 4 (List.map aM x3.Locs)) X3 eM ok_Snaps e8 rfl (fW.get 1 hi rfl (hB 17 (by kernel_rfl))) (λ_=>rfl)) (zL 13 2 (.agg (aM p2)) rfl kL rfl rfl rfl ?_)))
 obtain⟨y1,Y2,m⟩:=aC m
 refine zC 14 rfl (bZ (UJ _ Y2) rfl NL rfl) ?_
 obtain⟨x4,X4,m⟩:=aC m
 refine zC 15 rfl (cL X4 gJ ok_Snaps rfl rfl) (zC 16 rfl (cS (bK.ne ok_Snaps X4) jP rfl rfl) (zE 17 rfl (cI (fo:=3) ({ x4 with Locs:=y1}:aG) 3 u X4 eM ok_Snaps rfl rfl rfl rfl (cU.refl _ _) nL rfl rfl λK2=>⟨⟨λ_=>aI 2 K2 rfl,λe=>absurd e (by decide),λ_=>aI 0 K2 rfl,trivial⟩, ?_⟩)))
 refine zX (qk (f:=vM 183 _ _ _ _ _ _ _ _ _ _ _ _ _ _ _ _ _ _) K2 rfl (vs (v0 (v0 (fO m λm=>fO m λm=> ?_)))))
 cases m
 exact vr λu=>dX.of1 (.inl rfl) (fU _ _ (.sc (.bool _)) rfl) (bG u [2,3,4,5,6] rfl).2 (bH.refl _ _) ⟨gS,(bK.set ok_Snaps),gC,oC,gE,oE,(bG u [2,3,4,5,6] rfl).1,rfl,rfl⟩
 exact v0 (v0 (fR m))
 exact v0 (vN m)
 rintro _ r0 m
 refine vs (v0 (v0 (fO m λm=> ?_)))
 cases m
 exact vr λu=>dX.of1 (.inl rfl) (fU _ _ (.sc (.bool _)) rfl) (bG u [2,3,4,5,6] rfl).2 (bH.refl _ _) ⟨gS,ok_Snaps,gC,oC,gE,oE,(bG u [2,3,4,5,6] rfl).1,rfl,rfl⟩
 refine vs (v0 (vs (iI m (σ:=Int) (λs=>((some k5,.obj 81 (aM p2))::(some k2,.obj 38 (aY p1))::(hC p0K p0 gS gC gE gV))) (λs=>.c 0 (.ptr p0K 0) (.c 4 (.ptr k2 0) (.c 5 (.ptr k5 0) (.c 9 (nZ s) .nil)))) (lx (.k4 .nil)) ?_ ?_)))
 rintro _ q1 x m
 replace m:CI w p0 p1 q1=some x:=m
 unfold CI at m
 refine vs (vs (fB m (σ:=Bool) (λs=>((some k5,.obj 81 (aM p2))::(some k2,.obj 38 (aY p1))::(hC p0K p0 gS gC gE gV))) (λs=>.c 0 (.ptr p0K 0) (.c 4 (.ptr k2 0) (.c 5 (.ptr k5 0) (.c 9 (nZ q1) (.c 32 (.sc (.bool s)) .nil))))) (λx m=> ?_) ?_))
 refine v0 (vU (by kernel_rfl) (jL rfl (dM eT rfl rfl (vl 2 (aZ gE) hX rfl rfl rfl (bU (dR nK oE rfl) ?_)))))
 apply vi m <;> intro b0 m
 rw[b0]
 refine jL rfl (dM eT rfl rfl (vl 2 (aZ gE) hX rfl rfl rfl ?_))
 obtain⟨x5,X5,m⟩:=aC m
 exact bU (cL X5 hU oE rfl rfl) (bU (cS (bK.ne oE X5) GF rfl rfl) (vn (λu=>dY (fo:=0) (nZ x5.Seq) X5 fM oE bX rfl (aI 5 u rfl) (λ_=>rfl)) (dM kQ rfl rfl (vl 1 _ bX rfl rfl rfl (mC m)))))
 rw[b0]
 exact mC m
 rintro _ j0 m
 refine v0 ?_
 apply vi m <;> intro c5 m
 exact v0 (v0 (v0 (fR m)))
 exact v0 (vN m)
 rintro _ r1 m
 refine vs (vs (fB m (σ:=Bool) (λs=>((some k5,.obj 81 (aM p2))::(some k2,.obj 38 (aY p1))::(hC p0K p0 gS gC gE gV))) (λs=>.c 0 (.ptr p0K 0) (.c 4 (.ptr k2 0) (.c 5 (.ptr k5 0) (.c 9 (nZ r1) (.c 54 (.sc (.bool s)) .nil))))) (λx m=> ?_) ?_))
 refine v0 (vU (by kernel_rfl) (jL rfl (dM eT rfl rfl (vl 2 (aZ gE) hX rfl rfl rfl (bU (dR nK oE rfl) ?_)))))
 apply vi m <;> intro b1 m
 rw[b1]
 refine jL rfl (dM eT rfl rfl (vl 2 (aZ gE) hX rfl rfl rfl ?_))
 obtain⟨x6,X6,m⟩:=aC m
 exact bU (cL X6 hU oE rfl rfl) (bU (cS (bK.ne oE X6) GF rfl rfl) (vn (λu=>dY (fo:=0) (nZ x6.Seq) X6 fM oE bX rfl (aI 5 u rfl) (λ_=>rfl)) (dM kQ rfl rfl (vl 1 _ bX rfl rfl rfl (mC m)))))
 rw[b1]
 exact mC m
 rintro _ j1 m
 refine v0 ?_
 apply vi m <;> intro c6 m
 refine vs (v0 (vz [(1000000,some p0K,.obj 30 ([nZ p0.Seq,aZ gS,aZ gC,aZ gE,aZ gV])),(17,gE.t,.obj 99 (fl cD (p0.Exps:List aQ) gE.sp)),(1000000,some k5,.obj 81 (aM p2))] mixed (λu=>⟨λ_=>aI 2 u rfl,λ_=>aI 5 u rfl,λ_=>aI 0 u rfl,trivial⟩) λu=>zP 0 rfl rfl (zN 1 rfl rfl (zF 2 rfl eT rfl (zL 3 0 (aZ gE) rfl hX rfl rfl rfl (zI 4 rfl rfl (zP 5 rfl rfl (zN 6 rfl rfl (zF 7 rfl eT rfl (zL 8 0 (aZ gE) rfl hX rfl rfl rfl (zI 9 rfl rfl ?_)))))))))))
 obtain⟨x7,X7,m⟩:=aC m
 refine zC 10 rfl (cL X7 hU oE rfl rfl) (zC 11 rfl (cS (bK.ne oE X7) kU rfl rfl) (vL 12 rfl (λ_ _ hi hB=>dY (fo:=2) (.sl none 4 (List.map aM x7.Locs)) X7 fM oE e8 rfl (fW.get 1 hi rfl (hB 17 (by kernel_rfl))) (λ_=>rfl)) (zL 13 2 (.agg (aM p2)) rfl kL rfl rfl rfl ?_)))
 obtain⟨y2,Y3,m⟩:=aC m
 refine zC 14 rfl (bZ (UJ _ Y3) rfl NL rfl) ?_
 obtain⟨x8,X8,m⟩:=aC m
 refine zC 15 rfl (cL X8 hU oE rfl rfl) (zC 16 rfl (cS (bK.ne oE X8) kU rfl rfl) (zE 17 rfl (cI (fo:=2) ({ x8 with Locs:=y2}:aQ) 5 u X8 fM oE rfl rfl rfl rfl (cU.refl _ _) nL rfl rfl λK4=>⟨⟨λ_=>aI 2 K4 rfl,λe=>absurd e (by decide),λ_=>aI 0 K4 rfl,trivial⟩, ?_⟩)))
 refine zX (qk (f:=vM 71 _ _ _ _ _ _ _ _ _ _ _ _ _ _ _ _ _ _) K4 rfl (vs (v0 (v0 (fO m λm=> ?_)))))
 cases m
 exact vr λu=>dX.of1 (.inl rfl) (fU _ _ (.sc (.bool _)) rfl) (bG u [2,3,4,5,6] rfl).2 (bH.refl _ _) ⟨gS,ok_Snaps,gC,oC,gE,(bK.set oE),(bG u [2,3,4,5,6] rfl).1,rfl,rfl⟩
 refine v0 (vs (v0 (vs (pU (λu=>i7.fzO (n:=184) (f:=_) 5 2 ([nZ p0.Seq,aZ gS,aZ gC,.sl none 3 (List.map cD p0.Exps),aZ gV]) u rfl (.cons (Fz.refl _ _ _) (.cons (Fz.refl _ _ _) (.cons (Fz.refl _ _ _) (.cons (Fz.aw 5 fM oE u rfl (.refl _)) (.cons (Fz.refl _ _ _) .nil)))))) (v0 (vz [(1000000,some p0K,.obj 30 ([nZ p0.Seq,aZ gS,aZ gC,.sl none 3 (List.map cD p0.Exps),aZ gV])),(1000000,some k2,.obj 38 (aY p1)),(1000000,some k5,.obj 81 (aM p2))] mixed (λu=>⟨λ_=>aI 2 u rfl,λ_=>aI 1 u rfl,λ_=>aI 0 u rfl,trivial⟩) λu=>zC 0 rfl (eW (.sc (.slice _ _ _)) rfl) (zP 1 rfl rfl (zN 2 rfl rfl (zF 3 rfl eT rfl (zL 4 0 (.sl none 3 (List.map cD p0.Exps)) rfl hX rfl rfl rfl (zI 5 rfl rfl ?_)))))))))))
 obtain⟨_,X9,m⟩:=aC m
 refine zC 6 rfl (pA X9 hU rfl rfl rfl rfl) (zF 8 rfl kQ rfl (zL 9 1 (nZ p1.Seq) rfl bX rfl rfl rfl (zF 10 rfl tZ rfl (zL 11 1 (nZ p1.Of) rfl bX rfl rfl rfl (zL 12 2 (.agg (aM p2)) rfl kL rfl rfl rfl (zC 13 rfl (eO (List.map aM ([p2]:List bI)) o1 rfl rfl rfl rfl) (zC 14 rfl (fG (cD ({ Seq:=p1.Seq,Of:=p1.Of,Locs:=([p2]:List bI)}:aQ)) W6 rfl) (zC 15 rfl (eO (List.map cD ([({ Seq:=p1.Seq,Of:=p1.Of,Locs:=([p2]:List bI)}:aQ)]:List aQ)) o0 rfl rfl rfl rfl) ?_))))))))
 obtain⟨z0,Z0,m⟩:=aC m
 refine zE 7 rfl (BK (c:=cD) Z0 o0 rfl n9 rfl fM rfl u rfl λag0 O0 K5=>⟨⟨λ_=>aI 3 K5 rfl,λ_=>aI 2 K5 rfl,λ_=>aI 1 K5 rfl,trivial⟩, ?_⟩)
 obtain⟨z1,Z1,m⟩:=aC m
 refine zE 16 rfl (f8 (c:=cD) 0 Z1 o0 rfl n9 rfl fM rfl rfl O0 K5 rfl λag1 O1 K7=>⟨⟨λ_=>aI 3 K7 rfl,λ_=>aI 2 K7 rfl,λ_=>aI 1 K7 rfl,trivial⟩, ?_⟩)
 refine zC 17 rfl (iB (aw _ _ _) rfl) (zX (qk (f:=.c 10 _ (.c 88 _ (.c 79 _ (PQ 87 _ _ _ _ _ _ _ _ (fq7 78 _ _ _ _ _ _ _ _))))) K7 rfl (vs (v0 (jL rfl (dM eT rfl rfl (vl 3 _ hX rfl rfl rfl ?_)))))))
 obtain⟨_,X10,m⟩:=aC m
 refine bU (pA X10 hU rfl rfl rfl rfl) ?_
 obtain⟨z2,Z2,m⟩:=aC m
 refine ve λu=>f8 (c:=cD) 0 Z2 o0 rfl n9 rfl fM rfl rfl O1 u rfl λag2 O2 K8=>qk K8 rfl (jL rfl (dM eT rfl rfl (ve λu=>aK 3 ([nZ p0.Seq,aZ gS,aZ gC,aZ ag2,aZ gV]) u rfl rfl (cC rfl) (cE (bY _ _ _) rfl) JG rfl rfl λK9=>qk K9 rfl (vs (fB m (σ:=Bool) (λs=> [(fA ag2 z2),(some k5,.obj 81 (aM p2)),(some k2,.obj 38 (aY p1)),(hO p0K p0.Seq gS gC ag2 gV),(dN gS p0.Snaps),(cF gC p0.Chunks),(kV gV p0.Vols)]) (λs=>.c 0 (.ptr p0K 0) (.c 4 (.ptr k2 0) (.c 111 (.sc (.bool s)) .nil))) (λx m=> ?_) ?_)))))
 refine v0 (vU (by kernel_rfl) (dM kQ rfl rfl (vl 2 _ bX rfl rfl rfl (jL rfl (dM nD rfl rfl (vl 3 _ bX rfl rfl rfl ?_))))))
 apply vi m <;> intro b2 m
 rw[b2]
 exact dM kQ rfl rfl (vl 2 _ bX rfl rfl rfl (gH m))
 rw[b2]
 exact gH m
 rintro _ j2 m
 refine fB m (σ:=Int) (λs=> [(fA ag2 z2),(some k5,.obj 81 (aM p2)),(some k2,.obj 38 (aY p1)),(hO p0K s gS gC ag2 gV),(dN gS p0.Snaps),(cF gC p0.Chunks),(kV gV p0.Vols)]) (λs=>.nil) (λx m=> ?_) ?_
 refine v0 ?_
 apply vi m <;> intro c7 m
 exact v0 (dM kQ rfl rfl (vl 2 _ bX rfl rfl rfl (jL rfl (dM nD rfl rfl (ve λu=>aK 3 ([nZ (IntKind.wrap .i64 (p1.Seq+1)),aZ gS,aZ gC,aZ ag2,aZ gV]) u rfl rfl rfl rfl yT rfl rfl λK10=>qk K10 rfl (gq0 m))))))
 exact v0 (gq0 m)
 rintro _ j3 m
 exact eY m (gC,ag2) ⟨oC,O2⟩ (kP [1,2,3,4,5,0,6] rfl rfl .nil)
 rintro⟨ag3,ag4⟩ ⟨j4,j5,j6⟩ ⟨O3,O4⟩ m
 refine vs (v0 (v0 ?_))
 cases m
 exact vr λu=>dX.of1 (.inl rfl) (fU _ _ (.sc (.bool _)) rfl) (bG u [2,3,4,5,6] rfl).2 (bH.refl _ _) ⟨gS,ok_Snaps,ag3,O3,ag4,O4,(bG u [2,3,4,5,6] rfl).1,rfl,rfl⟩
theorem aA0:aO Tryz.prog 156=true:=by kernel_rfl
end Go.Proofs.YtbbifdfldpfphaaGreat
